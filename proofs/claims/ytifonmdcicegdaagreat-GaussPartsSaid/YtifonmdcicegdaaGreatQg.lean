/- Texts of this claim, joined: P8 K1 K2 K3a K4 K5. -/
import Derived.Deep.DeepAppendRoom
import Derived.Deep.RegionHeldLaw
import Derived.Deep.AppendLies
import Derived.Test.YtifonmdcicegdaaGreatQf
/- Complex fractions: the cases of their answers, plain. -/
namespace Go.Proofs.YtifonmdcicegdaaGreat

theorem gchk_bad1 {a : Ga} (h : fchk a.re ≠ 0) : gchk a = fchk a.re := if_pos h
theorem gchk_bad2 {a : Ga} (h : fchk a.re = 0) : gchk a = fchk a.im := if_neg (by omega)
theorem gchk2_bad1 {a b : Ga} (h : gchk a ≠ 0) : gchk2 a b = gchk a := if_pos h
theorem gchk2_bad2 {a b : Ga} (h : gchk a = 0) : gchk2 a b = gchk b := if_neg (by omega)
theorem gchk2_zero {a b : Ga} (h : gchk2 a b = 0) : gchk a = 0 ∧ gchk b = 0 := by
  by_cases h1 : gchk a ≠ 0
  · rw [gchk2_bad1 h1] at h; exact absurd h h1
  · have h2 : gchk a = 0 := by simpa using h1
    rw [gchk2_bad2 h2] at h; exact ⟨h2, h⟩
theorem gchk2_mk {a b : Ga} (h : gchk a = 0) (k : gchk b = 0) : gchk2 a b = 0 := by rw [gchk2_bad2 h, k]
theorem gchk_zero {a : Ga} (h : gchk a = 0) : fchk a.re = 0 ∧ fchk a.im = 0 := by
  by_cases h1 : fchk a.re ≠ 0
  · rw [gchk_bad1 h1] at h; exact absurd h h1
  · have h2 : fchk a.re = 0 := by simpa using h1
    rw [gchk_bad2 h2] at h; exact ⟨h2, h⟩
theorem gchk_mk {a : Ga} (h : fchk a.re = 0) (k : fchk a.im = 0) : gchk a = 0 := by rw [gchk_bad2 h, k]
theorem gchk_enc {p q : Rat} (h : ¬ lng p = true) (k : ¬ lng q = true) : gchk ⟨enc p, enc q⟩ = 0 := gchk_mk (fchk_enc p h) (fchk_enc q k)
theorem gchk_ok {a : Ga} (wa : a.Wf) (h : gchk a = 0) : ∃ p q, a = ⟨enc p, enc q⟩ ∧ ¬ lng p = true ∧ ¬ lng q = true := by
  obtain ⟨h1, h2⟩ := gchk_zero h
  obtain ⟨p, e, lp⟩ := fchk_ok wa.re h1
  obtain ⟨q, f, lq⟩ := fchk_ok wa.im h2
  exact ⟨p, q, by rw [← e, ← f], lp, lq⟩

/-- a pair of products, added or taken off -/
def wpair (e : Int) (a b c d : Fr) (less : Bool) : Fr × Int :=
  let x := wmul e a b
  let y := wmul x.2 c d
  if less then wsub y.2 x.1 y.1 else wadd y.2 x.1 y.1
theorem wprod_pair (e : Int) (a b : Ga) : wprod e a b = ((wpair e a.re b.re a.im b.im true).1, (wpair (wpair e a.re b.re a.im b.im true).2 a.re b.im a.im b.re false).1, (wpair (wpair e a.re b.re a.im b.im true).2 a.re b.im a.im b.re false).2) := rfl
theorem wnorm_pair (e : Int) (a : Ga) : wnorm e a = wpair e a.re a.re a.im a.im false := rfl
theorem wpair_bad {e : Int} {a b c d : Fr} {l : Bool} (h : e ≠ 0) : wpair e a b c d l = (Fr.zero, e) := by
  cases l <;> simp [wpair, wmul, wsub, wadd, stp, h]
theorem wpair_1 {a b c d : Fr} {l : Bool} (h : (fmul a b).2 ≠ 0) : wpair 0 a b c d l = (Fr.zero, (fmul a b).2) := by
  cases l <;> simp [wpair, wmul, wsub, wadd, stp, h]
theorem wpair_2 {a b c d : Fr} {l : Bool} (h : (fmul a b).2 = 0) (k : (fmul c d).2 ≠ 0) : wpair 0 a b c d l = (Fr.zero, (fmul c d).2) := by
  cases l <;> simp [wpair, wmul, wsub, wadd, stp, h, k]
theorem wpair_3 {a b c d : Fr} (h : (fmul a b).2 = 0) (k : (fmul c d).2 = 0) : wpair 0 a b c d true = fsub (fmul a b).1 (fmul c d).1 := by
  simp [wpair, wmul, wsub, stp, h, k]
theorem wpair_4 {a b c d : Fr} (h : (fmul a b).2 = 0) (k : (fmul c d).2 = 0) : wpair 0 a b c d false = fadd (fmul a b).1 (fmul c d).1 := by
  simp [wpair, wmul, wadd, stp, h, k]
theorem wpair_good (e : Int) (a b c d : Fr) (l : Bool) : Good (wpair e a b c d l) := by
  cases l
  · exact stp_good (fadd_good _ _)
  · exact stp_good (fsub_good _ _)

section
variable {a b : Ga}
theorem gadd_1 (h : gchk2 a b ≠ 0) : gadd a b = (Ga.zero, gchk2 a b) := by simp [gadd, wadd, stp, gtell, h]
theorem gadd_2 (h : gchk2 a b = 0) (k : (fadd a.re b.re).2 ≠ 0) : gadd a b = (Ga.zero, (fadd a.re b.re).2) := by simp [gadd, wadd, stp, gtell, h, k]
theorem gadd_3 (h : gchk2 a b = 0) (k : (fadd a.re b.re).2 = 0) (m : (fadd a.im b.im).2 ≠ 0) : gadd a b = (Ga.zero, (fadd a.im b.im).2) := by simp [gadd, wadd, stp, gtell, h, k, m]
theorem gadd_4 (h : gchk2 a b = 0) (k : (fadd a.re b.re).2 = 0) (m : (fadd a.im b.im).2 = 0) : gadd a b = (⟨(fadd a.re b.re).1, (fadd a.im b.im).1⟩, 0) := by simp [gadd, wadd, stp, gtell, h, k, m]
theorem gmul_1 (h : gchk2 a b ≠ 0) : gmul a b = (Ga.zero, gchk2 a b) := by simp [gmul, wprod_pair, wpair_bad, gtell, h]
theorem gmul_2 (h : gchk2 a b = 0) (k : (wpair 0 a.re b.re a.im b.im true).2 ≠ 0) : gmul a b = (Ga.zero, (wpair 0 a.re b.re a.im b.im true).2) := by
  simp [gmul, wprod_pair, h, wpair_bad k, gtell, k]
theorem gmul_3 (h : gchk2 a b = 0) (k : (wpair 0 a.re b.re a.im b.im true).2 = 0) (m : (wpair 0 a.re b.im a.im b.re false).2 ≠ 0) : gmul a b = (Ga.zero, (wpair 0 a.re b.im a.im b.re false).2) := by
  simp [gmul, wprod_pair, h, k, gtell, m]
theorem gmul_4 (h : gchk2 a b = 0) (k : (wpair 0 a.re b.re a.im b.im true).2 = 0) (m : (wpair 0 a.re b.im a.im b.re false).2 = 0) : gmul a b = (⟨(wpair 0 a.re b.re a.im b.im true).1, (wpair 0 a.re b.im a.im b.re false).1⟩, 0) := by
  simp [gmul, wprod_pair, h, k, gtell, m]
theorem gnorm_1 (h : gchk a ≠ 0) : gnorm a = (Fr.zero, gchk a) := by simp [gnorm, wnorm_pair, wpair_bad h, h]
theorem gnorm_2 (h : gchk a = 0) : gnorm a = wpair 0 a.re a.re a.im a.im false := by
  have hg := wpair_good 0 a.re a.re a.im a.im false
  unfold gnorm
  rw [wnorm_pair, h]
  by_cases k : (wpair 0 a.re a.re a.im a.im false).2 ≠ 0
  · simp only [if_pos k]; rw [← hg.2 k]
  · simp only [if_neg k]
theorem gscale_1 {s : Fr} (h : fchk s ≠ 0) : gscale s a = (Ga.zero, fchk s) := by simp [gscale, wmul, stp, gtell, h]
theorem gscale_2 {s : Fr} (h : fchk s = 0) (k : gchk a ≠ 0) : gscale s a = (Ga.zero, gchk a) := by simp [gscale, wmul, stp, gtell, h, k]
theorem gscale_3 {s : Fr} (h : fchk s = 0) (k : gchk a = 0) (m : (fmul s a.re).2 ≠ 0) : gscale s a = (Ga.zero, (fmul s a.re).2) := by simp [gscale, wmul, stp, gtell, h, k, m]
theorem gscale_4 {s : Fr} (h : fchk s = 0) (k : gchk a = 0) (m : (fmul s a.re).2 = 0) (n : (fmul s a.im).2 ≠ 0) : gscale s a = (Ga.zero, (fmul s a.im).2) := by simp [gscale, wmul, stp, gtell, h, k, m, n]
theorem gscale_5 {s : Fr} (h : fchk s = 0) (k : gchk a = 0) (m : (fmul s a.re).2 = 0) (n : (fmul s a.im).2 = 0) : gscale s a = (⟨(fmul s a.re).1, (fmul s a.im).1⟩, 0) := by simp [gscale, wmul, stp, gtell, h, k, m, n]
theorem gneg_1 (h : gchk a ≠ 0) : gneg a = (Ga.zero, gchk a) := if_pos h
theorem gneg_2 (h : gchk a = 0) : gneg a = (⟨(fneg a.re).1, (fneg a.im).1⟩, 0) := if_neg (by omega)
theorem gconj_1 (h : gchk a ≠ 0) : gconj a = (Ga.zero, gchk a) := if_pos h
theorem gconj_2 (h : gchk a = 0) : gconj a = (⟨a.re, (fneg a.im).1⟩, 0) := if_neg (by omega)
end

theorem lng_negQ (q : Rat) : lng (-q) = lng q := by unfold lng; simp
theorem fneg_enc {q : Rat} (h : ¬ lng q = true) : fneg (enc q) = (enc (-q), 0) := by
  unfold fneg
  rw [if_neg (by rw [fchk_enc q h]; decide), dec_enc]
theorem gneg_enc {p q : Rat} (h : ¬ lng p = true) (k : ¬ lng q = true) : gneg ⟨enc p, enc q⟩ = (⟨enc (-p), enc (-q)⟩, 0) := by
  rw [gneg_2 (gchk_enc h k), fneg_enc h, fneg_enc k]
theorem gconj_enc {p q : Rat} (h : ¬ lng p = true) (k : ¬ lng q = true) : gconj ⟨enc p, enc q⟩ = (⟨enc p, enc (-q)⟩, 0) := by
  rw [gconj_2 (gchk_enc h k), fneg_enc k]
theorem fadd_enc {p q : Rat} (h : ¬ lng p = true) (k : ¬ lng q = true) : fadd (enc p) (enc q) = tell (p + q) := both_ok h k
theorem fsub_enc {p q : Rat} (h : ¬ lng p = true) (k : ¬ lng q = true) : fsub (enc p) (enc q) = tell (p - q) := both_ok h k
theorem tell_ok {q : Rat} (h : ¬ lng q = true) : tell q = (enc q, 0) := if_neg h
theorem fadd_nought {a : Fr} (wa : a.Wf) (h : fchk a = 0) : fadd a (enc 0) = (a, 0) := by
  obtain ⟨q, rfl, lq⟩ := fchk_ok wa h
  rw [fadd_enc lq (lng_of (by rw [show (0 : Rat).num.natAbs = 0 from rfl, wd_zero]; decide) (by rw [show (0 : Rat).den = 1 from rfl, wd_one]; decide)), Rat.add_zero, tell_ok lq]
theorem gsub_neg {a b : Ga} (wa : a.Wf) (wb : b.Wf) (h : gchk2 a b = 0) : gadd a (gneg b).1 = gsub a b ∧ gchk (gneg b).1 = 0 := by
  obtain ⟨h1, h2⟩ := gchk2_zero h
  obtain ⟨p, q, rfl, lp, lq⟩ := gchk_ok wa h1
  obtain ⟨r, s, rfl, lr, ls⟩ := gchk_ok wb h2
  rw [gneg_enc lr ls]
  have nr : ¬ lng (-r) = true := by rw [lng_negQ]; exact lr
  have ns : ¬ lng (-s) = true := by rw [lng_negQ]; exact ls
  refine ⟨?_, gchk_enc nr ns⟩
  unfold gadd gsub
  rw [h, gchk2_mk (gchk_enc lp lq) (gchk_enc nr ns)]
  simp only [wadd, wsub]
  rw [fadd_enc lp nr, fadd_enc lq ns, fsub_enc lp lr, fsub_enc lq ls, ← Rat.sub_eq_add_neg, ← Rat.sub_eq_add_neg]
theorem gsub_1 {a b : Ga} (h : gchk2 a b ≠ 0) : gsub a b = (Ga.zero, gchk2 a b) := by simp [gsub, wsub, stp, gtell, h]
/-- the divisor's cases -/
theorem gquo_1 {a b : Ga} (h : gchk2 a b ≠ 0) : gquo a b = (Ga.zero, gchk2 a b) := by
  simp [gquo, wprod_pair, wnorm_pair, wpair_bad h, wquo, stp, gtell, h]
theorem gquo_2 {a b : Ga} (h : gchk2 a b = 0) (k : gzero b = true) : gquo a b = (Ga.zero, 7) := by
  simp [gquo, wprod_pair, wnorm_pair, wpair_bad (show (7 : Int) ≠ 0 by decide), wquo, stp, gtell, h, k]
theorem gquo_3 {a b : Ga} (h : gchk2 a b = 0) (k : gzero b = false) (n : (gnorm b).2 ≠ 0) : gquo a b = (Ga.zero, (gnorm b).2) := by
  have hb := (gchk2_zero h).2
  rw [gnorm_2 hb] at n ⊢
  simp [gquo, wprod_pair, wnorm_pair, h, k, wpair_bad n, wquo, stp, gtell, n]
theorem gconj_chk {b : Ga} (wb : b.Wf) (h : gchk b = 0) : gchk ⟨b.re, (fneg b.im).1⟩ = 0 := by
  obtain ⟨r, s, rfl, lr, ls⟩ := gchk_ok wb h
  rw [fneg_enc ls]
  exact gchk_enc lr (by rw [lng_negQ]; exact ls)
theorem gquo_4 {a b : Ga} (h : gchk2 a b = 0) (k : gzero b = false) (n : (gnorm b).2 = 0) (wb : b.Wf) (m : (gmul a (gconj b).1).2 ≠ 0) : gquo a b = (Ga.zero, (gmul a (gconj b).1).2) := by
  obtain ⟨ha, hb⟩ := gchk2_zero h
  have hc := gchk2_mk ha (gconj_chk wb hb)
  rw [gconj_2 hb] at m ⊢
  rw [gnorm_2 hb] at n
  simp only [gmul, hc] at m ⊢
  simp only [gquo, h, k, wnorm_pair]
  simp only [ne_eq, not_true_eq_false, if_false, Bool.false_eq_true, n]
  unfold gtell at m ⊢
  by_cases q : (wprod 0 a ⟨b.re, (fneg b.im).1⟩).2.2 ≠ 0
  · simp [q, wquo, stp]
  · simp [q] at m
theorem gmul_parts {a b : Ga} (h : gchk2 a b = 0) (m : (gmul a b).2 = 0) : (wprod 0 a b).2.2 = 0 ∧ (gmul a b).1 = ⟨(wprod 0 a b).1, (wprod 0 a b).2.1⟩ := by
  simp only [gmul, h] at m ⊢
  unfold gtell at m ⊢
  by_cases q : (wprod 0 a b).2.2 ≠ 0
  · simp [q] at m
  · exact ⟨by simpa using q, by simp [q]⟩
/-- both quotients -/
theorem gquo_5 {a b : Ga} (h : gchk2 a b = 0) (k : gzero b = false) (n : (gnorm b).2 = 0) (wb : b.Wf) (m : (gmul a (gconj b).1).2 = 0) :
    gquo a b = gtell (wquo (fquo (gmul a (gconj b).1).1.re (gnorm b).1).2 (gmul a (gconj b).1).1.im (gnorm b).1).2 (fquo (gmul a (gconj b).1).1.re (gnorm b).1).1 (wquo (fquo (gmul a (gconj b).1).1.re (gnorm b).1).2 (gmul a (gconj b).1).1.im (gnorm b).1).1 := by
  obtain ⟨ha, hb⟩ := gchk2_zero h
  have hc := gchk2_mk ha (gconj_chk wb hb)
  rw [gconj_2 hb] at m ⊢
  rw [gnorm_2 hb] at n ⊢
  obtain ⟨q1, q2⟩ := gmul_parts hc m
  rw [q2]
  simp only [gquo, h, k, wnorm_pair]
  simp only [ne_eq, not_true_eq_false, if_false, Bool.false_eq_true, n, q1]
  rw [show ∀ x y, wquo 0 x y = fquo x y from fun x y => stp_ok]
theorem gneg_way {a : Ga} (wa : a.Wf) : gneg a = gtell (stp (stp (gchk a) (fneg a.re)).2 (fneg a.im)).2 (stp (gchk a) (fneg a.re)).1 (stp (stp (gchk a) (fneg a.re)).2 (fneg a.im)).1 := by
  by_cases h : gchk a ≠ 0
  · rw [gneg_1 h, stp_bad h, stp_bad h, gtell_bad h]
  · have h0 : gchk a = 0 := by simpa using h
    obtain ⟨p, q, rfl, lp, lq⟩ := gchk_ok wa h0
    rw [gneg_2 h0, h0, stp_ok]
    simp only [fneg_enc lp, fneg_enc lq, stp_ok, gtell_ok]
theorem gconj_way {a : Ga} (wa : a.Wf) : gconj a = gtell (stp (wadd (gchk a) a.re (enc 0)).2 (fneg a.im)).2 (wadd (gchk a) a.re (enc 0)).1 (stp (wadd (gchk a) a.re (enc 0)).2 (fneg a.im)).1 := by
  by_cases h : gchk a ≠ 0
  · unfold wadd
    rw [gconj_1 h, stp_bad h, stp_bad h, gtell_bad h]
  · have h0 : gchk a = 0 := by simpa using h
    have h1 := fadd_nought wa.re (gchk_zero h0).1
    obtain ⟨p, q, rfl, lp, lq⟩ := gchk_ok wa h0
    rw [gconj_2 h0, h0]
    unfold wadd
    rw [stp_ok, h1]
    simp only [fneg_enc lq, stp_ok, gtell_ok]
theorem gsame_cases (a b : Ga) : gsame a b = (decide (gchk2 a b = 0) && decide (a.re = b.re) && decide (a.im = b.im)) := by
  unfold gsame
  cases a; cases b
  simp only [Ga.mk.injEq, Bool.decide_and, Bool.and_assoc]

end Go.Proofs.YtifonmdcicegdaaGreat

/- The law's kit: words: long, CopyWords, LentWords, SameWords, KeptWords, OverWords. -/
namespace Go.Proofs.YtifonmdcicegdaaGreat
open Go Go.RowKit

/-- the same memory: no more than draws -/
def Quiet (w w' : World) : Prop := ∃ m, w' = w.drewN m
theorem Quiet.ext {w w' : World} (h : Quiet w w') : Ext w w' := by obtain ⟨m, rfl⟩ := h; exact (Ext.refl w).drewN m
theorem Quiet.refl (w : World) : Quiet w w := ⟨0, rfl⟩
theorem Quiet.drewN {w w' : World} (h : Quiet w w') (n : Nat) : Quiet w (w'.drewN n) := by obtain ⟨m, rfl⟩ := h; exact ⟨m + n, by rw [World.drewN_drewN]⟩

theorem nth_ext : ∀ {xs ys : List Int}, xs.length = ys.length → (∀ j, j < xs.length → nth xs j = nth ys j) → xs = ys
  | [], [], _, _ => rfl
  | [], _ :: _, h, _ => by simp at h
  | _ :: _, [], h, _ => by simp at h
  | x :: xs, y :: ys, h, e => by
    have h0 : x = y := e 0 (by simp)
    rw [h0, nth_ext (xs := xs) (ys := ys) (by simpa using h) (fun j hj => e (j + 1) (by simpa using hj))]

/-- is it too long for the law? -/
def isLong (n : Nat) : Bool := decide (60 < n ∧ (n ≤ 2048 ∨ 2057 ≤ n))

theorem klong_any (A : Option Addr) (n c : Nat) (w : World) (hn : n ≤ 9223372036854775807) (b : Bool) (hb : isLong n = b) :
    Calls Tryz.prog 133 #[.slice A n c] w fun e w' => e = .returned (.bool b) ∧ w' = w := by
  unfold isLong at hb
  have HB := Lib.hid hb
  clear hb
  by_cases h1 : 60 < n
  · by_cases h2 : n ≤ 2048
    · obtain rfl : b = true := by rw [← HB.out]; exact decide_eq_true (by omega)
      go_enter Tryz.func133, Tryz.ntmps133
      go_wp2
      go_ret
      exact ⟨rfl, rfl⟩
    · by_cases h3 : 2057 ≤ n
      · obtain rfl : b = true := by rw [← HB.out]; exact decide_eq_true (by omega)
        go_enter Tryz.func133, Tryz.ntmps133
        go_wp2
        go_ret
        exact ⟨by simp; omega, rfl⟩
      · obtain rfl : b = false := by rw [← HB.out]; exact decide_eq_false (by omega)
        go_enter Tryz.func133, Tryz.ntmps133
        go_wp2
        go_ret
        exact ⟨by simp; omega, rfl⟩
  · obtain rfl : b = false := by rw [← HB.out]; exact decide_eq_false (by omega)
    go_enter Tryz.func133, Tryz.ntmps133
    go_wp2
    go_ret
    exact ⟨rfl, rfl⟩

theorem kcopy_any (A : Option Addr) (xs : List Int) (c l : Nat) (w : World) (h : Rd w A c xs) (hl : xs.length = l) (hm : l ≤ 35184372088832) :
    Calls Tryz.prog 225 #[.slice A l c] w fun e w' => ∃ A' c', e = .returned (.slice A' l c') ∧ Own w' w.heap.size A' c' xs ∧ Ext w w' := by
  have H := Lib.hid h
  have HL := Lib.hid hl
  clear h hl
  go_enter Tryz.func225, Tryz.ntmps225
  go_wp2_with (at_builtin; refine wpList_app rfl _ _ rfl w.heap.size (some ⟨w.heap.size, 0, none⟩) 0 [] 0 rfl rfl (Own.lit w #[] [] rfl (by simp)) _ _ xs l HL.out rfl (H.out.ext ((Ext.refl w).alloc _)) (by omega) (by simp) ?_; intro A' c' w1 hO hg)
  have HO := Lib.hid hO
  have HX : Hid (Ext w w1) := ((Ext.refl w).alloc _).grown hg (fun k hk => by cases hk; exact Nat.le_refl _)
  clear hO hg
  go_wp2_with fail
  go_ret
  exact ⟨A', c', by simp, HO.out, HX.out⟩

/-- what stands behind words that are lent -/
def marks : List Int := [2882343476, 2882343477, 2882343478]
theorem marks_take (k : Nat) (h : k < 3) : marks.take (k + 1) = marks.take k ++ [2882343476 + (k : Int)] := by
  match k, h with
  | 0, _ => rfl
  | 1, _ => rfl
  | 2, _ => rfl
theorem wf_marks : Wf marks := by
  intro x hx
  simp [marks] at hx
  omega

set_option maxHeartbeats 1000000 in
theorem klent_any (A : Option Addr) (xs : List Int) (c l : Nat) (w : World) (h : Rd w A c xs) (hl : xs.length = l) (hm : l ≤ 35184372088820) :
    Calls Tryz.prog 134 #[.slice A l c] w fun e w' => ∃ A' c', e = .returned (.slice A' (l + 3) c') ∧ Own w' w.heap.size A' c' (xs ++ marks) ∧ Ext w w' := by
  have H := Lib.hid h
  have HL := Lib.hid hl
  clear h hl
  go_enter Tryz.func134, Tryz.ntmps134
  go_wp2_with fail
  refine (kcopy_any A xs c l _ H.out HL.out (by omega)).mono ?_; rintro e w1 ⟨A1, c1, rfl, h1, hx1⟩
  have H1 := Lib.hid h1
  have HX1 := Lib.hid hx1
  clear h1 hx1
  go_wp2_with fail
  go_loopw [3, 4] (fun s i wr => ∃ (k : Nat) (P : Option Addr) (cp : Nat), k ≤ 3 ∧ s = .slice P (l + k) cp ∧ i = .int .i64 k ∧ Hid (Own wr w.heap.size P cp (xs ++ marks.take k)) ∧ Hid (Ext w wr)) (fun _ i _ => 3 - (intOf i).toNat)
  case atStart => exact ⟨0, A1, c1, by omega, rfl, rfl, by rw [List.take_zero, List.append_nil]; exact H1.out, HX1.out⟩
  case round =>
    clear H1 HX1
    obtain ⟨k, P, cp, hk, rfl, rfl, HO, HX⟩ := hrel
    by_cases hk3 : k < 3
    · have HLL := Lib.hid (show (xs ++ marks.take k).length = l + k by rw [List.length_append, HL.out, List.length_take]; simp [marks]; omega)
      go_wp2_with (at_builtin; refine wpList_app rfl _ _ rfl w.heap.size P cp (xs ++ marks.take k) (l + k) HLL.out rfl (HO.out.ext ((Ext.refl wr).alloc _)) _ _ [2882343476 + (k : Int)] 1 rfl rfl (Own.lit wr _ [2882343476 + (k : Int)] rfl (by simp)).rd (by omega) (by have := HX.out.size; simp; omega) ?_; intro A' c' w2 hO hg)
      have HO2 := Lib.hid (show Own w2 w.heap.size A' c' (xs ++ marks.take (k + 1)) by rw [marks_take k hk3, ← List.append_assoc]; exact hO)
      have HX2 := Lib.hid ((HX.out.alloc _).grown hg (fun k hk => by
        cases P with
        | none => cases hk
        | some a => cases hk; exact HO.out.block.1))
      clear hO hg
      go_roundw
      case rel => exact ⟨k + 1, A', c', by omega, rfl, by go_num, HO2.out, HX2.out⟩
      case measure => simp [intOf]; omega
    · obtain rfl : k = 3 := by omega
      go_wp2_with fail
      go_ret
      exact ⟨P, cp, rfl, HO.out, HX.out⟩

set_option maxHeartbeats 1000000 in
theorem ksame_any (A B : Option Addr) (xs ys : List Int) (c d l : Nat) (w : World) (ha : Rd w A c xs) (hb : Rd w B d ys) (hl : xs.length = l) (n : Nat) (hn : ys.length = n) (b : Bool) (hbb : decide (xs = ys) = b) :
    Calls Tryz.prog 160 #[.slice A l c, .slice B n d] w fun e w' => e = .returned (.bool b) ∧ Quiet w w' := by
  have HL := Lib.hid hl
  have HN := Lib.hid hn
  have HA := Lib.hid ha
  have HB := Lib.hid hb
  have HBB := Lib.hid hbb
  have hll := ha.lim
  rw [hl] at hll
  clear ha hb hl hn hbb
  by_cases hne : l = n
  · subst hne
    have hbn : ((l : Int) != (l : Int)) = false := by simp
    go_enter Tryz.func160, Tryz.ntmps160
    go_wp2_with fail
    go_loopw [5] (fun i wr => ∃ k : Nat, k ≤ l ∧ i = .int .i64 k ∧ Hid (∀ j, j < k → nth xs j = nth ys j) ∧ Hid (Quiet w wr)) (fun i _ => l - (intOf i).toNat)
    case atStart => exact ⟨0, by omega, rfl, fun j hj => by omega, Quiet.refl w⟩
    case round =>
      obtain ⟨k, hk, rfl, HE, HQ⟩ := hrel
      by_cases hkl : k < l
      · obtain ⟨a, rfl, hca⟩ := (HA.out.ext HQ.out.ext).at_ k (by rw [HL.out]; exact hkl)
        obtain ⟨b', rfl, hcb⟩ := (HB.out.ext HQ.out.ext).at_ k (by rw [HN.out]; exact hkl)
        by_cases he : nth xs k = nth ys k
        · have HE2 := Lib.hid (show ∀ j, j < k + 1 → nth xs j = nth ys j from fun j hj => by
            by_cases e : j = k
            · rw [e]; exact he
            · exact HE.out j (by omega))
          have hne : (nth xs k != nth ys k) = false := bne_eq_false_iff_eq.2 he
          clear he
          go_wp2_with fail
          go_quiet (fail)
          go_wp2_with fail
          go_roundw
          case rel => exact ⟨k + 1, by omega, by go_num, HE2.out, HQ.out.drewN _⟩
          case measure => simp [intOf]; omega
        · have hne : (nth xs k != nth ys k) = true := bne_iff_ne.2 he
          have HF := Lib.hid (show b = false by rw [← HBB.out]; exact decide_eq_false (fun e => he (by rw [e])))
          clear he
          go_wp2_with fail
          go_quiet (fail)
          go_wp2_with fail
          go_ret
          exact ⟨by rw [HF.out]; rfl, HQ.out.drewN _⟩
      · have hkk : k = l := by omega
        have HF := Lib.hid (show b = true by rw [← HBB.out]; exact decide_eq_true (nth_ext (HL.out.trans HN.out.symm) (fun j hj => HE.out j (by have := HL.out; omega))))
        go_wp2_with fail
        go_ret
        exact ⟨by rw [HF.out]; rfl, HQ.out⟩
  · have hbn : ((l : Int) != (n : Int)) = true := bne_iff_ne.2 (by omega)
    have HF := Lib.hid (show b = false by rw [← HBB.out]; exact decide_eq_false (fun e => hne (by rw [← HL.out, ← HN.out, e])))
    go_enter Tryz.func160, Tryz.ntmps160
    go_wp2_with fail
    go_ret
    exact ⟨by rw [HF.out]; rfl, Quiet.refl w⟩

theorem kkept_any (A B : Option Addr) (xs : List Int) (c d l n : Nat) (w : World) (ha : Rd w A c (xs ++ marks)) (hb : Rd w B d xs) (hl : xs.length = l) (hn : l + 3 = n) (hm : l ≤ 35184372088820) :
    Calls Tryz.prog 161 #[.slice A n c, .slice B l d] w fun e w' => e = .returned (.bool true) ∧ Ext w w' := by
  have HL := Lib.hid hl
  have HA := Lib.hid ha
  have HB := Lib.hid hb
  have HLL := Lib.hid (show (xs ++ marks).length = l + 3 by rw [List.length_append, hl]; rfl)
  clear ha hb hl
  subst hn
  go_enter Tryz.func161, Tryz.ntmps161
  go_wp2_with fail
  refine (klent_any B xs d l _ HB.out HL.out hm).mono ?_; rintro e w1 ⟨A1, c1, rfl, h1, hx1⟩
  have H1 := Lib.hid h1
  have HX1 := Lib.hid hx1
  clear h1 hx1
  go_wp2_with fail
  refine (ksame_any A A1 (xs ++ marks) (xs ++ marks) _ _ (l + 3) _ (HA.out.ext HX1.out) H1.out.rd HLL.out (l + 3) HLL.out true (decide_eq_true rfl)).mono ?_; rintro e w2 ⟨rfl, hq⟩
  have HX2 := Lib.hid (HX1.out.trans hq.ext)
  clear hq
  go_wp2_with fail
  go_ret
  exact ⟨rfl, HX2.out⟩

end Go.Proofs.YtifonmdcicegdaaGreat

/- OverWords. -/
namespace Go.Proofs.YtifonmdcicegdaaGreat
open Go Go.RowKit

/-- append of words behind words of the call's own that have room: in place -/
theorem wpList_spare {w : World} {ops : Array Oper} {rest : List Oper} {o : Oper} {a : Act} {Q : Exit → Act → World → Prop} (hgd : o.guard = none) (s x : Operand)
    (ho : o.op = .call { callee := .builtin .append, args := #[s, x], argTypes := #[22, 22] })
    (base g c : Nat) (xs : List Int) (n : Nat) (hn : xs.length = n) (hs : a.eval s = .slice (some ⟨g, 0, none⟩) n c) (hO : Own w base (some ⟨g, 0, none⟩) c xs)
    (b : Addr) (d : Nat) (ys : List Int) (m : Nat) (hm : ys.length = m) (hx : a.eval x = .slice (some b) m d) (hR : Rd w (some b) d ys)
    (hroom : n + m ≤ c)
    (h : ∀ w', Own w' base (some ⟨g, 0, none⟩) c (xs ++ ys) → w.grownBy w' (some g) → wpList Tryz.prog ops Q rest (a.put o.dst (.slice (some ⟨g, 0, none⟩) (n + m) c)) w') : wpList Tryz.prog ops Q (o :: rest) a w := by
  obtain ⟨i0, hi, hz0, hz1, hz2⟩ := info_parts info_u32
  subst hn
  subst hm
  refine wpList_append_own_spare w hgd s x 22 ho base 144 i0 1 Tryz.underlying22 hi hz1 g xs.length c (nums xs) hs hO b ys.length d (nums ys) hx (by rw [nums_length, Nat.mul_one])
    (fun j u hu => by
      have hj : j < ys.length := by
        have := (List.getElem?_eq_some_iff.1 hu).1
        rwa [nums_length] at this
      rw [nums_at ys j hj] at hu
      cases hu
      exact hR.cell j hj) (nums_one ys) hroom ?_
  intro w' h2 h3
  rw [← nums_append, ← List.length_append] at h2
  exact h w' h2 h3

/-- all bits turned -/
def nt (x : Int) : Int := bits .xor .u32 (if IntKind.u32.signed = true then -1 else IntKind.u32.max) x

set_option maxHeartbeats 1000000 in
theorem kover_any (A : Option Addr) (xs : List Int) (base c l : Nat) (w : World) (h : Own w base A c xs) (hl : xs.length = l) (hw : Wf xs) :
    Calls Tryz.prog 245 #[.slice A l c] w fun e w' => ∃ zs, e = .returned (.tuple #[]) ∧ Own w' base A c zs ∧ l ≤ zs.length ∧ (∀ j, j < l → nth zs j = nt (nth xs j)) ∧ w.grownBy w' (A.map (·.block)) := by
  have HO := Lib.hid h
  have HL := Lib.hid hl
  have HW := Lib.hid hw
  rcases h.form with rfl | ⟨g, rfl, hgb, hgs⟩
  · have hc : c = 0 := h.rd.none_ rfl
    have hlc : l = 0 := by have := h.rd.cap; omega
    subst hc
    subst hlc
    clear h hl hw
    go_enter Tryz.func245, Tryz.ntmps245
    go_wp2_with fail
    go_loopw [3] (fun i wr => i = .int .i64 0 ∧ wr = w) (fun _ _ => 0)
    case atStart => exact ⟨rfl, rfl⟩
    case round =>
      obtain ⟨rfl, rfl⟩ := hrel
      go_wp2_with fail
      go_loopw [4] (fun i w' => i = .int .i64 0 ∧ w' = wr) (fun _ _ => 0)
      case atStart => exact ⟨rfl, rfl⟩
      case round =>
        obtain ⟨rfl, rfl⟩ := hrel
        go_wp2_with fail
        go_end0
        exact ⟨xs, rfl, HO.out, by omega, fun j hj => by omega, World.grownBy.refl _ _⟩
  · have hlc : l ≤ c := by have := h.rd.cap; omega
    have hcm : c ≤ 9223372036854775807 := h.rd.capm
    clear h hl hw
    go_enter Tryz.func245, Tryz.ntmps245
    go_wp2_with fail
    go_loopw [3] (fun i wr => ∃ (k : Nat) (us : List Int), k ≤ l ∧ i = .int .i64 k ∧ Hid (us.length = l) ∧ Hid (∀ j, j < k → nth us j = nt (nth xs j)) ∧ Hid (∀ j, k ≤ j → nth us j = nth xs j) ∧ Hid (Own wr base (some ⟨g, 0, none⟩) c us) ∧ Hid (w.grownBy wr (some g))) (fun i _ => l - (intOf i).toNat)
    case atStart => exact ⟨0, xs, by omega, rfl, HL.out, fun j hj => by omega, fun _ _ => rfl, HO.out, World.grownBy.refl _ _⟩
    case round =>
      obtain ⟨k, us, hk, rfl, HU, HE, HR, HO1, HG⟩ := hrel
      by_cases hkl : k < l
      · have hco := HO1.out.cell k (by rw [HU.out]; exact hkl)
        have hfo := HO1.out.free k
        have bx := nth_wf HW.out k
        rw [HR.out k (Nat.le_refl _)] at hco
        go_wp2_with fail
        go_roundw
        case rel => exact ⟨k + 1, us.set k (nt (nth xs k)), by omega, by go_num, by unfold Hid; rw [List.length_set]; exact HU.out, fun j hj => by
            by_cases e : j = k
            · rw [e, nth_set_self _ _ _ (by rw [HU.out]; exact hkl)]
            · rw [nth_set_ne _ _ _ _ (by omega)]; exact HE.out j (by omega), fun j hj => by rw [nth_set_ne _ _ _ _ (by omega)]; exact HR.out j (by omega), (HO1.out.set k _).1, grown_trans HG.out (HO1.out.set k _).2⟩
        case measure => simp [intOf]; omega
      · have hkk : k = l := by omega
        subst hkk
        clear hkl hk
        have HG1 := Lib.hid HG.out
        go_wp2_with fail
        go_loopw [0, 4] (fun s i w' => ∃ (m : Nat) (zs : List Int), m ≤ c ∧ k ≤ m ∧ s = .slice (some ⟨g, 0, none⟩) m c ∧ i = .int .i64 m ∧ Hid (zs.length = m) ∧ Hid (∀ j, j < k → nth zs j = nt (nth xs j)) ∧ Hid (Own w' base (some ⟨g, 0, none⟩) c zs) ∧ Hid (w.grownBy w' (some g))) (fun _ i _ => c - (intOf i).toNat)
        case atStart => exact ⟨k, us, hlc, Nat.le_refl _, rfl, rfl, HU.out, HE.out, HO1.out, HG.out⟩
        case round =>
          clear HO1 HG HU HE HR HG1
          obtain ⟨m, zs, hm, hkm, rfl, rfl, HZ, HE, HO1, HG⟩ := hrel
          by_cases hmc : m < c
          · go_wp2_with (at_builtin; refine wpList_spare rfl _ _ rfl base g c zs m HZ.out rfl (HO1.out.ext ((Ext.refl wr).alloc _)) _ _ [2882343476] 1 rfl rfl (Own.lit wr _ [2882343476] rfl (by simp)).rd (by omega) ?_; intro w2 hO hg)
            have HO2 := Lib.hid hO
            have HG2 := Lib.hid (grown_trans (grown_alloc HG.out _) hg)
            have HE2 := Lib.hid (show ∀ j, j < k → nth (zs ++ [2882343476]) j = nt (nth xs j) from fun j hj => by
              rw [← HE.out j hj]
              have := HZ.out
              simp [nth, List.getElem?_append_left (show j < zs.length by omega)])
            have HZ2 := Lib.hid (show (zs ++ [2882343476]).length = m + 1 by rw [List.length_append, HZ.out]; rfl)
            clear hO hg
            go_roundw
            case rel => exact ⟨m + 1, _, by omega, by omega, rfl, by go_num, HZ2.out, HE2.out, HO2.out, HG2.out⟩
            case measure => simp [intOf]; omega
          · obtain rfl : m = c := by omega
            go_wp2_with fail
            go_end0
            exact ⟨zs, rfl, HO1.out, by rw [HZ.out]; exact hkm, HE.out, HG.out⟩

end Go.Proofs.YtifonmdcicegdaaGreat

/- SameRatio. -/
namespace Go.Proofs.YtifonmdcicegdaaGreat
open Go Go.RowKit

set_option maxHeartbeats 1000000 in
theorem ksameR_any (s t : Bool) (A B C D : Option Addr) (xs ys us vs : List Int) (a b c d : Nat) (w : World) (ha : Rd w A a xs) (hb : Rd w B b ys) (hc : Rd w C c us) (hd : Rd w D d vs) (r : Bool) (hr : decide ((⟨s, xs, ys⟩ : Fr) = ⟨t, us, vs⟩) = r) :
    Calls Tryz.prog 55 #[.agg #[.bool s, .slice A xs.length a, .slice B ys.length b], .agg #[.bool t, .slice C us.length c, .slice D vs.length d]] w fun e w' => e = .returned (.bool r) ∧ Ext w w' := by
  have HA := Lib.hid ha
  have HB := Lib.hid hb
  have HC := Lib.hid hc
  have HD := Lib.hid hd
  have HR := Lib.hid hr
  clear ha hb hc hd hr
  have HX := Lib.hid (((Ext.refl w).alloc (.cells #[.bool s, .slice A xs.length a, .slice B ys.length b] 24)).alloc (.cells #[.bool t, .slice C us.length c, .slice D vs.length d] 24))
  by_cases h1 : s = t
  · subst h1
    by_cases h2 : xs = us
    · have H2 := Lib.hid h2
      have HS := Lib.hid (ksame_any A C xs us a c xs.length _ (HA.out.ext HX.out) (HC.out.ext HX.out) rfl us.length rfl true (decide_eq_true h2))
      have HS2 := Lib.hid (fun wx (hx : Ext w wx) => ksame_any B D ys vs b d ys.length wx (HB.out.ext hx) (HD.out.ext hx) rfl vs.length rfl r (by rw [← HR.out, h2]; simp))
      clear h2
      go_enter Tryz.func55, Tryz.ntmps55
      go_wp2_with fail
      refine HS.out.mono ?_; rintro e w1 ⟨rfl, hq⟩
      obtain ⟨m1, rfl⟩ := hq
      go_wp2_with fail
      refine (HS2.out _ (HX.out.drewN m1)).mono ?_; rintro e w2 ⟨rfl, hq⟩
      obtain ⟨m2, rfl⟩ := hq
      go_wp2_with fail
      go_ret
      exact ⟨rfl, HX.out.drewN _⟩
    · have HS := Lib.hid (ksame_any A C xs us a c xs.length _ (HA.out.ext HX.out) (HC.out.ext HX.out) rfl us.length rfl false (decide_eq_false h2))
      have HF := Lib.hid (show r = false by rw [← HR.out]; exact decide_eq_false (fun e => h2 (Fr.mk.inj e).2.1))
      clear h2
      go_enter Tryz.func55, Tryz.ntmps55
      go_wp2_with fail
      refine HS.out.mono ?_; rintro e w1 ⟨rfl, hq⟩
      obtain ⟨m1, rfl⟩ := hq
      go_wp2_with fail
      go_ret
      exact ⟨by rw [HF.out]; rfl, HX.out.drewN m1⟩
  · have HF := Lib.hid (show r = false by rw [← HR.out]; exact decide_eq_false (fun e => h1 (Fr.mk.inj e).1))
    have hb : (s == t) = false := beq_eq_false_iff_ne.2 h1
    go_enter Tryz.func55, Tryz.ntmps55
    go_wp2_with fail
    go_ret
    exact ⟨by rw [HF.out]; rfl, HX.out⟩

end Go.Proofs.YtifonmdcicegdaaGreat

/- ApartWords. -/
namespace Go.Proofs.YtifonmdcicegdaaGreat
open Go Go.RowKit

theorem info_words : (Tryz.prog.info? 22).map (fun i => (i.zero, i.size, i.bytes)) = some (some (.slice none 0 0), 1, 24) := by kernel_rfl

/-- a slice of words as a cell -/
def sl (A : Option Addr) (n c : Nat) : Value := .slice A n c

/-- rows of words of the call's own, told by a row of slices at gb -/
structure Rows (base k gb : Nat) (P : Nat → Option Addr) (C : Nat → Nat) (X Z : Nat → List Int) (w : World) : Prop where
  idx : ∀ j, j < k → w.cell? ⟨gb, j, none⟩ = some (.slice (P j) (X j).length (C j))
  row : ∀ j, j < k → Own w base (P j) (C j) (Z j)

theorem cell_kept' {w w' : World} {row : Option Nat} (h : w.grownBy w' row) {g j : Nat} {v : Value} (hc : w.cell? ⟨g, j, none⟩ = some v) (hne : some g ≠ row) : w'.cell? ⟨g, j, none⟩ = some v := h.cell hc hne

theorem Rows.ext {base k gb : Nat} {P : Nat → Option Addr} {C : Nat → Nat} {X Z : Nat → List Int} {w w' : World} (h : Rows base k gb P C X Z w) (e : Ext w w') : Rows base k gb P C X Z w' :=
  ⟨fun j hj => e.cell (h.idx j hj), fun j hj => (h.row j hj).ext e⟩
theorem Rows.kept {base k gb : Nat} {P : Nat → Option Addr} {C : Nat → Nat} {X Z : Nat → List Int} {w w' : World} {r : Option Nat} (h : Rows base k gb P C X Z w) (e : w.grownBy w' r) (h1 : some gb ≠ r) (h2 : ∀ j, j < k → ∀ a, P j = some a → some a.block ≠ r) : Rows base k gb P C X Z w' :=
  ⟨fun j hj => cell_kept' e (h.idx j hj) h1, fun j hj => (h.row j hj).kept e (h2 j hj)⟩
/-- one of them is written over -/
theorem Rows.turn {base k gb : Nat} {P : Nat → Option Addr} {C : Nat → Nat} {X Z : Nat → List Int} {w w' : World} (h : Rows base k gb P C X Z w) (i : Nat) (zs : List Int) (ho : Own w' base (P i) (C i) zs) (e : w.grownBy w' ((P i).map (·.block)))
    (h1 : ∀ j, j < k → ∀ a, P j = some a → a.block ≠ gb) (hi : i < k) (hap : ∀ j, j < k → j ≠ i → ∀ a b, P j = some a → P i = some b → a.block ≠ b.block) : Rows base k gb P C X (fun j => if j = i then zs else Z j) w' := by
  have hne : ∀ g, (∀ b, P i = some b → g ≠ b.block) → some g ≠ (P i).map (·.block) := fun g hg e => by
    cases hp : P i with
    | none => rw [hp] at e; cases e
    | some b => rw [hp] at e; injection e with e; exact hg b hp e
  refine ⟨fun j hj => cell_kept' e (h.idx j hj) (hne _ fun b hb e => h1 i hi b hb e.symm), fun j hj => ?_⟩
  by_cases hji : j = i
  · subst hji; simpa using ho
  · simp only [if_neg hji]
    exact (h.row j hj).kept e (fun a ha => hne _ (fun b hb => hap j hj hji a b ha hb))

set_option maxHeartbeats 2000000 in
theorem kapartW_any (w0 w : World) (k gb cb : Nat) (P : Nat → Option Addr) (C : Nat → Nat) (X : Nat → List Int) (hR : Rows w0.heap.size k gb P C X X w) (h0 : Ext w0 w) (hk : k ≤ 1000000) (hcb : k ≤ cb) (hcm : cb ≤ 9223372036854775807) (hgb : gb < w.heap.size)
    (hne : ∀ j, j < k → ∀ a, P j = some a → a.block ≠ gb) (hap : ∀ i j, i < k → j < k → i ≠ j → ∀ a b, P i = some a → P j = some b → a.block ≠ b.block) (hX : ∀ j, j < k → (X j).length ≤ 1000000 ∧ Wf (X j)) :
    Calls Tryz.prog 162 #[.slice (some ⟨gb, 0, none⟩) k cb] w fun e w' => e = .returned (.bool true) ∧ Ext w0 w' := by
  have HR := Lib.hid hR
  have H0 := Lib.hid h0
  have HG := Lib.hid hgb
  have HN := Lib.hid hne
  have HAP := Lib.hid hap
  have HXX := Lib.hid hX
  clear hR h0 hgb hne hap hX
  obtain ⟨i0, hi, hz0, hz1, hz2⟩ := info_parts info_words
  go_enter Tryz.func162, Tryz.ntmps162
  go_wp2_with (at_make; refine wpList_make_full w rfl _ _ 148 rfl w.heap.size 22 i0 (.slice none 0 0) 1 Tryz.underlying148 hi hz0 hz1 .i64 .i64 _ _ k rfl rfl rfl rfl (by rw [hz2]; omega) (by unfold maxLen; omega) (Nat.le_refl _) ?_; intro w1 hO hG)
  obtain ⟨gw, hgw⟩ : ∃ gw, gw = w.heap.size := ⟨_, rfl⟩
  obtain ⟨vs0, hvs⟩ : ∃ vs0, vs0 = (madeCells (Value.slice none 0 0).cells (k * 1)).toList := ⟨_, rfl⟩
  rw [← hvs] at hO
  rw [← hgw] at hO ⊢
  have HX1 := Lib.hid ((Ext.refl w).grownNone hG)
  have HO1 := Lib.hid hO
  have HGW := Lib.hid hgw
  have hcell : w1.heap.size > gw := by
    rcases hO.2 with ⟨h', _⟩ | ⟨g', cap', cur, h', hb, hg, _⟩
    · simp at h'
    · simp at h'
      rw [h'.1]
      exact (Array.getElem?_eq_some_iff.1 hg).1
  have HGWL := Lib.hid hcell
  clear hO hG hvs hgw hz0 hz1 hz2 hi hcell
  go_loopw [4] (fun s wr => ∃ (i : Nat) (vs : List Value) (Q : Nat → Option Addr) (D : Nat → Nat), i ≤ k ∧ s = .int .i64 i ∧ Hid (wr.ownsRow gw 22 1 (.slice (some ⟨gw, 0, none⟩) k k) k vs) ∧ Hid (∀ j, j < i → vs[j]? = some (.slice (Q j) (X j).length (D j))) ∧ Hid (∀ j, j < i → Own wr w1.heap.size (Q j) (D j) (X j)) ∧ Hid (Ext w wr) ∧ Hid (w1.heap.size ≤ wr.heap.size)) (fun s _ => k - (intOf s).toNat)
  case atStart => exact ⟨0, vs0, fun _ => none, fun _ => 0, by omega, rfl, HO1.out, fun j hj => by omega, fun j hj => by omega, HX1.out, Nat.le_refl _⟩
  case round =>
    obtain ⟨i, vs, Q, D, hik, rfl, HV, HVE, HQ, HX, HS⟩ := hrel
    by_cases hi : i < k
    · have hidx := HX.out.cell (HR.out.idx i hi)
      have HCP := Lib.hid (kcopy_any (P i) (X i) (C i) (X i).length wr ((HR.out.row i hi).rd.ext HX.out) rfl (by have := (HXX.out i hi).1; omega))
      go_wp2_with fail
      refine HCP.out.mono ?_; rintro e w2 ⟨A2, c2, rfl, h2, hx2⟩
      have HV2 := Lib.hid (HV.out.kept (hx2.by_ none) (.inr (by simp [Value.ownBlock])))
      obtain ⟨u, hu⟩ : ∃ u, vs[i]? = some u := by
        have : vs.length = k := by have := HV.out.1; omega
        exact ⟨_, List.getElem?_eq_getElem (by omega)⟩
      have hco : w2.cell? ⟨gw, i, none⟩ = some u := (HV2.out.cellAt i (by omega)).trans hu
      have hfo := HV2.out.frozenAt i
      have HX2 := Lib.hid (HX.out.trans hx2)
      have H2 := Lib.hid h2
      have HXX2 := Lib.hid hx2
      have hz2 := Lib.hid hx2.size
      have hul := Lib.hid (show i < vs.length by have := HV.out.1; omega)
      clear h2 hx2 hu
      go_wp2_with fail
      have hgw2 := HGW.out
      have hgl2 := HGWL.out
      go_roundw
      case rel => exact ⟨i + 1, vs.set i (.slice A2 (X i).length c2), fun j => if j = i then A2 else Q j, fun j => if j = i then c2 else D j, by omega, by go_num, (HV2.out.stored i _).1, fun j hj => by
          by_cases e : j = i
          · subst e; simp [hul.out]
          · simp only [if_neg e]; rw [List.getElem?_set_ne (by omega)]; exact HVE.out j (by omega), fun j hj => by
          by_cases e : j = i
          · subst e; simp only; exact (H2.out.lower HS.out).setBelow (by simpa using hgl2) _
          · simp only [if_neg e]; exact ((HQ.out j (by omega)).ext HXX2.out).setBelow (by simpa using hgl2) _, HX2.out.setCell (by simp only; omega) _, by
          have h1 := HS.out
          have h2 := hz2.out
          show _ ≤ _
          simp
          omega⟩
      case measure => simp [intOf]; omega
    · obtain rfl : i = k := by omega
      clear hi hik HX1 HO1
      have HRA := Lib.hid (HR.out.ext HX.out)
      have HRB : Hid (Rows w1.heap.size i gw Q D X X wr) := ⟨fun j hj => (HV.out.cellAt j (by omega)).trans (HVE.out j hj), HQ.out⟩
      have H0A := Lib.hid (H0.out.trans HX.out)
      have HPB := Lib.hid (show ∀ j, j < i → ∀ a, P j = some a → w0.heap.size ≤ a.block ∧ a.block < w.heap.size from fun j hj a ha => by have := HR.out.row j hj; rw [ha] at this; exact this.block)
      have HQB := Lib.hid (show ∀ j, j < i → ∀ a, Q j = some a → w1.heap.size ≤ a.block from fun j hj a ha => by have := HQ.out j hj; rw [ha] at this; exact this.block.1)
      clear HV HVE HQ HX HS HR H0
      go_wp2_with fail
      go_loopw [5] (fun s w' => ∃ (m : Nat) (Z : Nat → List Int), m ≤ i ∧ s = .int .i64 m ∧ Hid (Rows w0.heap.size i gb P C X Z w') ∧ Hid (Rows w1.heap.size i gw Q D X X w') ∧ Hid (∀ j, j < m → (X j).length ≤ (Z j).length ∧ ∀ t, t < (X j).length → nth (Z j) t = nt (nth (X j) t)) ∧ Hid (∀ j, m ≤ j → j < i → Z j = X j) ∧ Hid (Ext w0 w')) (fun s _ => i - (intOf s).toNat)
      case atStart => exact ⟨0, X, by omega, rfl, HRA.out, HRB.out, fun j hj => by omega, fun _ _ _ => rfl, H0A.out⟩
      case round =>
        clear HRA HRB H0A
        obtain ⟨m, Z, hmi, rfl, HRA, HRB, HE, HF, HX⟩ := hrel
        by_cases hm : m < i
        · have hci := HRA.out.idx m hm
          have hcw := HRB.out.idx m hm
          have hzm := HF.out m (Nat.le_refl _) hm
          have hom := HRA.out.row m hm
          rw [hzm] at hom
          have HOM := Lib.hid hom
          have HSM := Lib.hid (fun q => ksame_any (P m) (Q m) (X m) (X m) (C m) (D m) (X m).length (wr.drewN q) (HOM.out.drewN q).rd ((HRB.out.row m hm).drewN q).rd rfl (X m).length rfl true (decide_eq_true rfl))
          clear hzm hom
          go_wp2_with fail
          go_quiet ((go_at_call 160; exact Calls.quiet_of (HSM.out _)))
          go_wp2_with fail
          refine (kover_any (P m) (X m) w0.heap.size (C m) (X m).length _ (HOM.out.drewN _) rfl (HXX.out m hm).2).mono ?_; rintro e w2 ⟨zs, rfl, h1, h2, h3, h4⟩
          have HRA2 := Lib.hid ((HRA.out.ext ((Ext.refl wr).drewN nq)).turn m zs h1 h4 HN.out hm (fun j hj hne => HAP.out j m hj hm hne))
          have hgw2 := HGW.out
          have hgl2 := HGWL.out
          have HRB2 := Lib.hid ((HRB.out.ext ((Ext.refl wr).drewN nq)).kept h4 (fun e => by
            cases hp : P m with
            | none => rw [hp] at e; cases e
            | some b => rw [hp] at e; injection e with e; have h5 := (HPB.out m hm b hp).2; simp only at e; omega) (fun j hj a ha e => by
            cases hp : P m with
            | none => rw [hp] at e; cases e
            | some b => rw [hp] at e; injection e with e; have h5 := (HPB.out m hm b hp).2; have h6 := HQB.out j hj a ha; simp only at e; omega))
          have HX2 := Lib.hid ((HX.out.drewN nq).grown h4 (fun k hk => by
            cases hp : P m with
            | none => rw [hp] at hk; cases hk
            | some b => rw [hp] at hk; injection hk with hk; have h5 := (HPB.out m hm b hp).1; simp only at hk; omega))
          have HE2 := Lib.hid (show ∀ j, j < m + 1 → (X j).length ≤ (if j = m then zs else Z j).length ∧ ∀ t, t < (X j).length → nth (if j = m then zs else Z j) t = nt (nth (X j) t) from fun j hj => by
            by_cases e : j = m
            · subst e; simp only [if_true]; exact ⟨h2, h3⟩
            · simp only [if_neg e]; exact HE.out j (by omega))
          have HF2 := Lib.hid (show ∀ j, m + 1 ≤ j → j < i → (if j = m then zs else Z j) = X j from fun j hj1 hj2 => by
            rw [if_neg (by omega)]; exact HF.out j (by omega) hj2)
          clear h1 h2 h3 h4 hgw2 hgl2
          go_wp2_with fail
          go_roundw
          case rel => exact ⟨m + 1, fun j => if j = m then zs else Z j, by omega, by go_num, HRA2.out, HRB2.out, HE2.out, HF2.out, HX2.out⟩
          case measure => simp [intOf]; omega
        · obtain rfl : m = i := by omega
          clear hm hmi HF
          go_wp2_with fail
          go_loopw [6] (fun s wt => ∃ (n : Nat), n ≤ m ∧ s = .int .i64 n ∧ Hid (Rows w0.heap.size m gb P C X Z wt) ∧ Hid (Rows w1.heap.size m gw Q D X X wt) ∧ Hid (Ext w0 wt)) (fun s _ => m - (intOf s).toNat)
          case atStart => exact ⟨0, by omega, rfl, HRA.out, HRB.out, HX.out⟩
          case round =>
            clear HRA HRB HX
            obtain ⟨n, hnm, rfl, HRA, HRB, HX⟩ := hrel
            by_cases hn : n < m
            · have hlen : ((X n).length : Int) ≤ 1000000 := by have := (HXX.out n hn).1; omega
              go_wp2_with fail
              go_loopw [7] (fun s wt => ∃ (t : Nat), t ≤ (X n).length ∧ s = .int .i64 t ∧ Hid (Rows w0.heap.size m gb P C X Z wt) ∧ Hid (Rows w1.heap.size m gw Q D X X wt) ∧ Hid (Ext w0 wt)) (fun s _ => (X n).length - (intOf s).toNat)
              case atStart => exact ⟨0, by omega, rfl, HRA.out, HRB.out, HX.out⟩
              case round =>
                clear HRA HRB HX
                obtain ⟨t, htn, rfl, HRA, HRB, HX⟩ := hrel
                have hci := HRA.out.idx n hn
                by_cases ht : t < (X n).length
                · have hcw := HRB.out.idx n hn
                  obtain ⟨a, hpa, hca⟩ := (HRA.out.row n hn).rd.at_ t (by have := (HE.out n hn).1; omega)
                  obtain ⟨b, hqb, hcb'⟩ := (HRB.out.row n hn).rd.at_ t ht
                  rw [(HE.out n hn).2 t ht] at hca
                  rw [hpa] at hci
                  rw [hqb] at hcw
                  have hbn : (nt (nth (X n) t) != bits .xor .u32 (if IntKind.u32.signed = true then -1 else IntKind.u32.max) (nth (X n) t)) = false := bne_eq_false_iff_eq.2 rfl
                  clear hpa hqb
                  go_wp2_with fail
                  go_quiet (fail)
                  go_wp2_with fail
                  go_roundw
                  case rel => exact ⟨t + 1, by omega, by go_num, HRA.out.ext ((Ext.refl _).drewN nq), HRB.out.ext ((Ext.refl _).drewN nq), HX.out.drewN nq⟩
                  case measure => simp [intOf]; omega
                · obtain rfl : t = (X n).length := by omega
                  go_wp2_with fail
                  go_roundw
                  case rel => exact ⟨n + 1, by omega, by go_num, HRA.out, HRB.out, HX.out⟩
                  case measure => simp [intOf]; omega
            · obtain rfl : n = m := by omega
              go_wp2_with fail
              go_ret
              exact ⟨rfl, HX.out⟩

end Go.Proofs.YtifonmdcicegdaaGreat

/- Long, ApartRatios. -/
namespace Go.Proofs.YtifonmdcicegdaaGreat
open Go Go.RowKit

/-- the words of fractions that lie side by side from gr, o on: the j-th of all of them -/
structure Sides (gr o n : Nat) (P : Nat → Option Addr) (C N : Nat → Nat) (w : World) : Prop where
  num : ∀ j, j < n → w.cell? ⟨gr, o + j * 3 + 1, none⟩ = some (.slice (P (2 * j)) (N (2 * j)) (C (2 * j)))
  den : ∀ j, j < n → w.cell? ⟨gr, o + j * 3 + 2, none⟩ = some (.slice (P (2 * j + 1)) (N (2 * j + 1)) (C (2 * j + 1)))
theorem Sides.ext {gr o n : Nat} {P : Nat → Option Addr} {C N : Nat → Nat} {w w' : World} (h : Sides gr o n P C N w) (e : Ext w w') : Sides gr o n P C N w' :=
  ⟨fun j hj => e.cell (h.num j hj), fun j hj => e.cell (h.den j hj)⟩

set_option maxHeartbeats 1000000 in
theorem klongR_any (w : World) (gr o n c : Nat) (P : Nat → Option Addr) (C N : Nat → Nat) (h : Sides gr o n P C N w) (hn : n ≤ 9223372036854775807) (hN : ∀ j, j < 2 * n → N j ≤ 9223372036854775807) (b : Bool) (hb : decide (∃ j, j < 2 * n ∧ isLong (N j) = true) = b) :
    Calls Tryz.prog 12 #[.slice (some ⟨gr, o, none⟩) n c] w fun e w' => e = .returned (.bool b) ∧ w' = w := by
  have H := Lib.hid h
  have HN := Lib.hid hN
  have HB := Lib.hid hb
  clear h hN hb
  go_enter Tryz.func12, Tryz.ntmps12
  go_wp2_with fail
  go_loop [3] (fun s => ∃ i : Nat, i ≤ n ∧ s = .int .i64 i ∧ Hid (∀ j, j < 2 * i → isLong (N j) = false)) (fun s => n - (intOf s).toNat)
  case atStart => exact ⟨0, by omega, rfl, fun j hj => by omega⟩
  case round =>
    obtain ⟨i, hi, rfl, HL⟩ := hrel
    by_cases hin : i < n
    · have h1 := H.out.num i hin
      have h2 := H.out.den i hin
      have HK1 := Lib.hid (klong_any (P (2 * i)) (N (2 * i)) (C (2 * i)) w (HN.out _ (by omega)) _ rfl)
      have HK2 := Lib.hid (klong_any (P (2 * i + 1)) (N (2 * i + 1)) (C (2 * i + 1)) w (HN.out _ (by omega)) _ rfl)
      obtain ⟨b1, hb1⟩ : ∃ b1, b1 = isLong (N (2 * i)) := ⟨_, rfl⟩
      obtain ⟨b2, hb2⟩ : ∃ b2, b2 = isLong (N (2 * i + 1)) := ⟨_, rfl⟩
      rw [← hb1] at HK1
      rw [← hb2] at HK2
      have HB1 := Lib.hid hb1
      have HB2 := Lib.hid hb2
      clear hb1 hb2
      cases b1 with
      | true =>
        have HF := Lib.hid (show b = true by rw [← HB.out]; exact decide_eq_true ⟨2 * i, by omega, HB1.out.symm⟩)
        go_wp2_with fail
        refine HK1.out.mono ?_; rintro e w1 ⟨rfl, rfl⟩
        go_wp2_with fail
        go_ret
        exact ⟨by rw [HF.out]; rfl, rfl⟩
      | false =>
        cases b2 with
        | true =>
          have HF := Lib.hid (show b = true by rw [← HB.out]; exact decide_eq_true ⟨2 * i + 1, by omega, HB2.out.symm⟩)
          go_wp2_with fail
          refine HK1.out.mono ?_; rintro e w1 ⟨rfl, rfl⟩
          go_wp2_with fail
          refine HK2.out.mono ?_; rintro e w1 ⟨rfl, rfl⟩
          go_wp2_with fail
          go_ret
          exact ⟨by rw [HF.out]; rfl, rfl⟩
        | false =>
          have HL2 := Lib.hid (show ∀ j, j < 2 * (i + 1) → isLong (N j) = false from fun j hj => by
            by_cases e1 : j = 2 * i
            · rw [e1]; exact HB1.out.symm
            · by_cases e2 : j = 2 * i + 1
              · rw [e2]; exact HB2.out.symm
              · exact HL.out j (by omega))
          go_wp2_with fail
          refine HK1.out.mono ?_; rintro e w1 ⟨rfl, rfl⟩
          go_wp2_with fail
          refine HK2.out.mono ?_; rintro e w1 ⟨rfl, rfl⟩
          go_wp2_with fail
          go_round
          case rel => exact ⟨i + 1, by omega, by go_num, HL2.out⟩
          case measure => simp [intOf]; omega
    · have HF := Lib.hid (show b = false by
        rw [← HB.out]
        refine decide_eq_false ?_
        rintro ⟨j, hj, he⟩
        rw [HL.out j (by omega)] at he
        cases he)
      go_wp2_with fail
      go_ret
      exact ⟨by rw [HF.out]; rfl, rfl⟩

theorem two_cells (w : World) (x y : Value) (t : TypeId) : ∀ j u, [x, y][j]? = some u → (w.alloc (.cells #[x, y] t)).cell? ((⟨w.heap.size, 0, none⟩ : Addr).add j) = some u := by
  intro j u hj
  match j, hj with
  | 0, hj => simp at hj; subst hj; simp [Addr.add]
  | 1, hj => simp at hj; subst hj; simp [Addr.add]
theorem ownsRow_ge {w : World} {base : Nat} {e : TypeId} {size n : Nat} {v : Value} {vs : List Value} (h : w.ownsRow base e size v n vs) : ∀ b, v.ownBlock = some b → base ≤ b := by
  intro b hb
  rcases h.2 with ⟨rfl, _⟩ | ⟨g, cap, cur, rfl, hg, _⟩
  · simp [Value.ownBlock] at hb
  · simp [Value.ownBlock] at hb; omega
theorem ownsRow_ext {w w' : World} {base : Nat} {e : TypeId} {size n : Nat} {v : Value} {vs : List Value} (h : w.ownsRow base e size v n vs) (x : Ext w w') : w'.ownsRow base e size v n vs :=
  h.kept (x.by_ none) (by cases v.ownBlock <;> simp)

set_option maxHeartbeats 1000000 in
theorem kapartR_any (w0 w : World) (gr o n c : Nat) (P : Nat → Option Addr) (C : Nat → Nat) (X : Nat → List Int) (h : Sides gr o n P C (fun j => (X j).length) w) (h0 : Ext w0 w) (hn : 0 < n) (hn2 : n ≤ 10000)
    (hrow : ∀ j, j < 2 * n → Own w w0.heap.size (P j) (C j) (X j))
    (hap : ∀ i j, i < 2 * n → j < 2 * n → i ≠ j → ∀ a b, P i = some a → P j = some b → a.block ≠ b.block) (hX : ∀ j, j < 2 * n → (X j).length ≤ 1000000 ∧ Wf (X j)) :
    Calls Tryz.prog 37 #[.slice (some ⟨gr, o, none⟩) n c] w fun e w' => e = .returned (.bool true) ∧ Ext w0 w' := by
  have H := Lib.hid h
  have H0 := Lib.hid h0
  have HR := Lib.hid hrow
  have HAP := Lib.hid hap
  have HX := Lib.hid hX
  clear h h0 hrow hap hX
  obtain ⟨i0, hi, hz0, hz1, hz2⟩ := info_parts info_words
  have HI := Lib.hid hi
  have HI0 := Lib.hid hz0
  have HI1 := Lib.hid hz1
  have HI2 := Lib.hid hz2
  clear hi hz0 hz1 hz2
  go_enter Tryz.func37, Tryz.ntmps37
  go_wp2_with fail
  go_loopw [3, 4] (fun s t wr => ∃ (i : Nat) (v : Value) (vs : List Value), i ≤ n ∧ v = s ∧ t = .int .i64 i ∧ Hid (wr.ownsRow w.heap.size 22 1 v (2 * i) vs) ∧ Hid (∀ j, j < 2 * i → vs[j]? = some (.slice (P j) (X j).length (C j))) ∧ Hid (Ext w wr)) (fun _ t _ => n - (intOf t).toNat)
  case atStart => exact ⟨0, .slice none 0 0, [], by omega, rfl, rfl, World.ownsRow_nil w _ _ 1, fun j hj => by omega, Ext.refl w⟩
  case round =>
    obtain ⟨i, v, vs, hi, rfl, rfl, HV, HE, HW⟩ := hrel
    by_cases hin : i < n
    · have h1 := (H.out.ext HW.out).num i hin
      have h2 := (H.out.ext HW.out).den i hin
      have HVX := Lib.hid (fun wx (hx : Ext wr wx) => ownsRow_ext HV.out hx)
      have HGE := Lib.hid (ownsRow_ge HV.out)
      have HGR := Lib.hid (World.block_lt_of_cell? w _ (H.out.num i hin))
      have HWS := Lib.hid HW.out.size
      have hnn := Lib.hid (show ∀ r : Option Nat, (∀ b, r = some b → w.heap.size ≤ b) → some gr ≠ r from fun r hr e => by have h3 := hr gr e.symm; have h4 := HGR.out; simp only at h4; omega)
      go_wp2_with fail
      go_region_held_law (fun w' => w'.cell? ⟨gr, o + i * 3 + 1, none⟩ = some (.slice (P (2 * i)) (X (2 * i)).length (C (2 * i))) ∧ w'.cell? ⟨gr, o + i * 3 + 2, none⟩ = some (.slice (P (2 * i + 1)) (X (2 * i + 1)).length (C (2 * i + 1)))) (first | go_keep | exact ⟨k1, k2⟩)
        (first | (refine step_append_lies _ rfl _ _ 148 rfl w.heap.size 22 i0 (.slice none 0 0) 1 24 Tryz.underlying148 HI.out HI0.out HI1.out HI2.out rfl (by decide) v (2 * i) vs rfl (HVX.out _ ((Ext.refl wr).alloc _).drew) _ 2 _ [.slice (P (2 * i)) (X (2 * i)).length (C (2 * i)), .slice (P (2 * i + 1)) (X (2 * i + 1)).length (C (2 * i + 1))] rfl rfl (two_cells wr _ _ _) (by intro u hu; simp at hu; rcases hu with rfl | rfl <;> rfl) (by decide) (by unfold maxLen; omega) (by omega) (by have := HWS.out; simp; omega) _ rfl ?_; intro g cap w2 hown hgrow hat hlt; have k1 : w2.cell? ⟨gr, o + i * 3 + 1, none⟩ = some (.slice (P (2 * i)) (X (2 * i)).length (C (2 * i))) := cell_kept' hgrow (((Ext.refl wr).alloc _).drew.cell h1) (hnn.out _ HGE.out); have k2 : w2.cell? ⟨gr, o + i * 3 + 2, none⟩ = some (.slice (P (2 * i + 1)) (X (2 * i + 1)).length (C (2 * i + 1))) := cell_kept' hgrow (((Ext.refl wr).alloc _).drew.cell h2) (hnn.out _ HGE.out)))
      all_goals
        have HO2 := Lib.hid (show w2.ownsRow w.heap.size 22 1 (.slice (some ⟨g, 0, none⟩) (2 * i + 2) cap) (2 * (i + 1)) _ from hown)
        have HX2 := Lib.hid ((HW.out.alloc _).drew.grown hgrow HGE.out)
        have hvl := Lib.hid (show vs.length = 2 * i by have := HV.out.1; omega)
        have HE2 := Lib.hid (show ∀ j, j < 2 * (i + 1) → (vs ++ [.slice (P (2 * i)) (X (2 * i)).length (C (2 * i)), .slice (P (2 * i + 1)) (X (2 * i + 1)).length (C (2 * i + 1))] : List Value)[j]? = some (.slice (P j) (X j).length (C j)) from fun j hj => by
          have hl := hvl.out
          by_cases e : j < 2 * i
          · rw [List.getElem?_append_left (by omega)]; exact HE.out j e
          · rw [List.getElem?_append_right (by omega), hl]
            by_cases e1 : j = 2 * i
            · subst e1; simp
            · obtain rfl : j = 2 * i + 1 := by omega
              rw [show 2 * i + 1 - 2 * i = 1 by omega]; rfl)
        clear hown hgrow hat hlt k1 k2
        go_wp2_with fail
        go_roundw
        case rel => exact ⟨i + 1, .slice (some ⟨g, 0, none⟩) (2 * i + 2) cap, _, by omega, rfl, by go_num, HO2.out, HE2.out, HX2.out⟩
        case measure => simp [intOf]; omega
    · obtain rfl : i = n := by omega
      have hvc : ∃ g cap, v = .slice (some ⟨g, 0, none⟩) (2 * i) cap ∧ w.heap.size ≤ g ∧ g < wr.heap.size ∧ 2 * i ≤ cap ∧ cap ≤ 9223372036854775807 := by
        rcases HV.out.2 with ⟨_, h2⟩ | ⟨g, cap, cur, h1, h2, h3, h4, h5, _⟩
        · omega
        · exact ⟨g, cap, h1, h2, (Array.getElem?_eq_some_iff.1 h3).1, h4, by simp only [maxLen] at h5; omega⟩
      obtain ⟨g, cap, rfl, hg1, hg2, hg3, hg4⟩ := hvc
      have HRW : Hid (Rows w0.heap.size (2 * i) g P C X X wr) := ⟨fun j hj => (HV.out.cellAt j (by omega)).trans (HE.out j hj), fun j hj => (HR.out j hj).ext HW.out⟩
      have HNE : Hid (∀ j, j < 2 * i → ∀ a, P j = some a → a.block ≠ g) := fun j hj a ha e => by
        have h1 := HR.out j hj
        rw [ha] at h1
        have := h1.block.2
        omega
      have HCA := Lib.hid (kapartW_any w0 wr (2 * i) g cap P C X HRW.out (H0.out.trans HW.out) (by omega) hg3 hg4 hg2 HNE.out HAP.out HX.out)
      clear HV HE
      go_wp2_with fail
      refine HCA.out.mono ?_; rintro e w3 ⟨rfl, hx⟩
      have HX3 := Lib.hid hx
      clear hx
      go_wp2_with fail
      go_ret
      exact ⟨rfl, HX3.out⟩

end Go.Proofs.YtifonmdcicegdaaGreat

