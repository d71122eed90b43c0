/- Texts of this claim, joined: R13 R2s P7 U1 U2. -/
import Derived.RegionTactic
import Derived.ChangeAlike
import Derived.Test.YtifonmdcicegdaaGreatQe
/- ratio.Neg, Sign. -/
namespace Go.Proofs.YtifonmdcicegdaaGreat
open Go Go.RowKit

set_option maxRecDepth 4000 in
set_option maxHeartbeats 2000000 in
theorem neg_fr (a : Fr) (A B : Option Addr) (c1 c2 : Nat) (w : World) (ha : Rd w A c1 a.num) (hb : Rd w B c2 a.den) (wa : a.Wf) :
    Calls Tryz.prog 23 #[.agg #[.bool a.neg, .slice A a.num.length c1, .slice B a.den.length c2]] w (RatP w (fneg a)) := by
  have HA := Lib.hid ha
  have HB := Lib.hid hb
  clear ha hb
  by_cases hk : fchk a ≠ 0
  · have HT := Lib.hid (show fneg a = (Fr.zero, fchk a) from if_pos hk)
    have hb1 : (fchk a != 0) = true := bne_iff_ne.2 hk
    clear hk
    go_enter Tryz.func23, Tryz.ntmps23
    go_wp2_with fail
    obtain ⟨W, hW⟩ : ∃ W, W = (w.alloc (.cells #[.bool a.neg, .slice A a.num.length c1, .slice B a.den.length c2] 24)).alloc (.cells #[.bool false, .slice none 0 0, .slice none 0 0] 24) := ⟨_, rfl⟩
    have F0 : Thr W w.heap.size (.bool a.neg) (.slice A a.num.length c1) (.slice B a.den.length c2) := by rw [hW]; refine ⟨?_, ?_, ?_⟩ <;> simp [go_sem]
    have HX : Hid (Ext w W) := by rw [hW]; exact ((Ext.refl w).alloc _).alloc _
    have HV : Hid (VarF (w.heap.size + 1) W.heap.size Fr.zero none 0 none 0 W) := by
      have h1 := VarF.zero (w.alloc (.cells #[.bool a.neg, .slice A a.num.length c1, .slice B a.den.length c2] 24)) W.heap.size
      rw [← hW] at h1
      unfold Hid
      simpa using h1
    have HZ := Lib.hid (show W.heap.size = w.heap.size + 2 by rw [hW]; simp)
    try rw [← hW]
    clear hW
    refine (rcheck_fr a A B c1 c2 W (HA.out.ext HX.out) (HB.out.ext HX.out) wa).mono ?_; rintro e w1 ⟨rfl, hx1⟩
    have F1 := thr_ext hx1 F0
    have HX1 := Lib.hid (HX.out.trans hx1)
    have HV1 := Lib.hid (HV.out.ext hx1)
    have HZ1 := Lib.hid (show w.heap.size + 2 ≤ w1.heap.size by have := hx1.size; have := HZ.out; omega)
    clear hx1 F0 HX HV
    have r0 := HV1.out.c0
    have s0 := HV1.out.fr 0
    have r1 := HV1.out.c1
    have s1 := HV1.out.fr 1
    have r2 := HV1.out.c2
    have s2 := HV1.out.fr 2
    clear F1
    go_wp2_with fail
    exact bodyPost_ret (v := .tuple #[.agg #[.bool false, .slice none 0 0, .slice none 0 0], .int .i64 (fchk a)]) (by simp [results, Tryz.results23, go_sem, r0, r1, r2]) rfl (RatP.nil HT.out rfl (by repeat (first | (with_reducible exact HX1.out) | refine Ext.setCell ?_ (by simp; try omega) _)))
  have h0 : fchk a = 0 := by simpa using hk
  have hb1 : (fchk a != 0) = false := bne_eq_false_iff_eq.2 h0
  have HT := Lib.hid (fneg_ok wa h0)
  obtain ⟨t1, t2⟩ := trimW_ok wa h0
  have HCP := Lib.hid (fun wx (hx : Ext w wx) => copied_any a A B c1 c2 wx (HA.out.ext hx) (HB.out.ext hx) t1 t2)
  clear hk h0 t1 t2
  go_enter Tryz.func23, Tryz.ntmps23
  go_wp2_with fail
  obtain ⟨W, hW⟩ : ∃ W, W = (w.alloc (.cells #[.bool a.neg, .slice A a.num.length c1, .slice B a.den.length c2] 24)).alloc (.cells #[.bool false, .slice none 0 0, .slice none 0 0] 24) := ⟨_, rfl⟩
  have F0 : Thr W w.heap.size (.bool a.neg) (.slice A a.num.length c1) (.slice B a.den.length c2) := by rw [hW]; refine ⟨?_, ?_, ?_⟩ <;> simp [go_sem]
  have HX : Hid (Ext w W) := by rw [hW]; exact ((Ext.refl w).alloc _).alloc _
  have HV : Hid (VarF (w.heap.size + 1) W.heap.size Fr.zero none 0 none 0 W) := by
    have h1 := VarF.zero (w.alloc (.cells #[.bool a.neg, .slice A a.num.length c1, .slice B a.den.length c2] 24)) W.heap.size
    rw [← hW] at h1
    unfold Hid
    simpa using h1
  have HZ := Lib.hid (show W.heap.size = w.heap.size + 2 by rw [hW]; simp)
  try rw [← hW]
  clear hW
  refine (rcheck_fr a A B c1 c2 W (HA.out.ext HX.out) (HB.out.ext HX.out) wa).mono ?_; rintro e w1 ⟨rfl, hx1⟩
  have F1 := thr_ext hx1 F0
  have HX1 := Lib.hid (HX.out.trans hx1)
  have HV1 := Lib.hid (HV.out.ext hx1)
  have HZ1 := Lib.hid (show w.heap.size + 2 ≤ w1.heap.size by have := hx1.size; have := HZ.out; omega)
  clear hx1 F0 HX HV
  obtain ⟨u0, u1, u2⟩ := F1
  go_wp2_with fail
  refine (HCP.out _ HX1.out).mono ?_; rintro e w2 ⟨A9, c9, B9, d9, rfl, o1, o2, ap, hx⟩
  have hzz := HZ1.out
  have O1 := Lib.hid (o1.lower (show w.heap.size + 2 ≤ w1.heap.size by omega))
  have O2 := Lib.hid (o2.lower (show w.heap.size + 2 ≤ w1.heap.size by omega))
  have AP := Lib.hid ap
  have HX2 := Lib.hid (HX1.out.trans hx)
  have HV2 := Lib.hid (HV1.out.ext hx)
  clear o1 o2 ap hx u0 u1 u2 HV1
  go_wp2_with fail
  refine (turned_any a A9 B9 c9 d9 _).mono ?_; rintro e w3 ⟨rfl, hx⟩
  have O1 := Lib.hid (O1.out.ext hx)
  have O2 := Lib.hid (O2.out.ext hx)
  have HX9 := Lib.hid (HX2.out.trans hx)
  have HV9 := Lib.hid (HV2.out.ext hx)
  have r0 := HV9.out.c0
  have s0 := HV9.out.fr 0
  have r1 := HV9.out.c1
  have s1 := HV9.out.fr 1
  have r2 := HV9.out.c2
  have s2 := HV9.out.fr 2
  clear hx
  go_wp2_with fail
  exact bodyPost_ret (v := .tuple #[.agg #[.bool (fturn a).neg, .slice A9 a.num.length c9, .slice B9 a.den.length d9], .int .i64 0]) (by simp [results, Tryz.results23, go_sem, r0, r1, r2]) rfl (RatP.mk (s := (fturn a).neg) (xs := a.num) (ys := a.den) HT.out rfl (by refine Own.lower ?_ (show w.heap.size ≤ w.heap.size + 2 by omega); repeat (first | (with_reducible exact O1.out) | refine Own.setBelow ?_ (by simp; try omega) _)) (by refine Own.lower ?_ (show w.heap.size ≤ w.heap.size + 2 by omega); repeat (first | (with_reducible exact O2.out) | refine Own.setBelow ?_ (by simp; try omega) _)) AP.out (by repeat (first | (with_reducible exact HX9.out) | refine Ext.setCell ?_ (by simp; try omega) _)))

set_option maxHeartbeats 2000000 in
theorem sign_fr_raw (s : Bool) (xs ys : List Int) (A B : Option Addr) (c1 c2 : Nat) (w : World) (ha : Rd w A c1 xs) (hb : Rd w B c2 ys) (wa : (⟨s, xs, ys⟩ : Fr).Wf) :
    Calls Tryz.prog 31 #[.agg #[.bool s, .slice A xs.length c1, .slice B ys.length c2]] w fun e w' => e = .returned (.int .i64 (fsign ⟨s, xs, ys⟩)) ∧ Ext w w' := by
  obtain ⟨k, hk⟩ : ∃ k, k = fchk ⟨s, xs, ys⟩ := ⟨_, rfl⟩
  have HCK := Lib.hid (fun wx (h1 : Rd wx A c1 xs) (h2 : Rd wx B c2 ys) => rcheck_fr ⟨s, xs, ys⟩ A B c1 c2 wx h1 h2 wa)
  rw [← hk] at HCK
  simp only at HCK
  have HA := Lib.hid ha
  have HB := Lib.hid hb
  clear ha hb
  have HX := Lib.hid ((Ext.refl w).alloc (.cells #[.bool s, .slice A xs.length c1, .slice B ys.length c2] 24))
  by_cases h1 : k ≠ 0
  · have HE := Lib.hid (show fsign ⟨s, xs, ys⟩ = 0 by unfold fsign; rw [if_pos (by rw [← hk]; exact h1)])
    have hb1 : (k != 0) = true := bne_iff_ne.2 h1
    rw [HE.out]
    clear h1 hk wa
    go_enter Tryz.func31, Tryz.ntmps31
    go_wp2_with fail
    refine (HCK.out _ (HA.out.ext HX.out) (HB.out.ext HX.out)).mono ?_; rintro e w1 ⟨rfl, hx1⟩
    obtain ⟨hc, hf⟩ := bcell hx1
    have HX1 := Lib.hid (HX.out.trans hx1)
    clear hx1
    go_wp2_with fail
    go_ret
    exact ⟨rfl, HX1.out⟩
  have hb1 : (k != 0) = false := bne_eq_false_iff_eq.2 (by simpa using h1)
  have h0 : k = 0 := by simpa using h1
  by_cases h2 : xs.length = 0
  · have HE := Lib.hid (show fsign ⟨s, xs, ys⟩ = 0 by unfold fsign; rw [if_neg (by rw [← hk]; exact fun h => h h0), if_pos h2])
    have hb2 : ((xs.length : Int) == 0) = true := beq_iff_eq.2 (by omega)
    rw [HE.out]
    clear h1 hk wa h0 h2
    go_enter Tryz.func31, Tryz.ntmps31
    go_wp2_with fail
    refine (HCK.out _ (HA.out.ext HX.out) (HB.out.ext HX.out)).mono ?_; rintro e w1 ⟨rfl, hx1⟩
    obtain ⟨hc, hf⟩ := bcell hx1
    have HX1 := Lib.hid (HX.out.trans hx1)
    clear hx1
    go_wp2_with fail
    go_ret
    exact ⟨rfl, HX1.out⟩
  have hb2 : ((xs.length : Int) == 0) = false := beq_eq_false_iff_ne.2 (by omega)
  have HE := Lib.hid (show fsign ⟨s, xs, ys⟩ = if s = true then -1 else 1 by unfold fsign; rw [if_neg (by rw [← hk]; exact fun h => h h0), if_neg h2])
  rw [HE.out]
  clear h1 hk wa h0 h2
  cases s
  all_goals
    go_enter Tryz.func31, Tryz.ntmps31
    go_wp2_with fail
    refine (HCK.out _ (HA.out.ext HX.out) (HB.out.ext HX.out)).mono ?_; rintro e w1 ⟨rfl, hx1⟩
    obtain ⟨hc, hf⟩ := bcell hx1
    have HX1 := Lib.hid (HX.out.trans hx1)
    clear hx1
    go_wp2_with fail
    go_ret
    exact ⟨rfl, HX1.out⟩
theorem sign_fr (a : Fr) (A B : Option Addr) (c1 c2 : Nat) (w : World) (ha : Rd w A c1 a.num) (hb : Rd w B c2 a.den) (wa : a.Wf) :
    Calls Tryz.prog 31 #[.agg #[.bool a.neg, .slice A a.num.length c1, .slice B a.den.length c2]] w fun e w' => e = .returned (.int .i64 (fsign a)) ∧ Ext w w' :=
  sign_fr_raw a.neg a.num a.den A B c1 c2 w ha hb wa

end Go.Proofs.YtifonmdcicegdaaGreat

/- ratio.size, ratio.Small. -/
namespace Go.Proofs.YtifonmdcicegdaaGreat
open Go Go.RowKit

set_option maxHeartbeats 1000000 in
theorem size_any (x : Int) (w : World) (h0 : -9223372036854775808 ≤ x) (h1 : x ≤ 9223372036854775807) :
    Calls Tryz.prog 246 #[.int .i64 x] w fun e w' => ∃ A' c', e = .returned (.slice A' (wd x.natAbs).length c') ∧ Own w' w.heap.size A' c' (wd x.natAbs) ∧ Ext w w' := by
  obtain ⟨m, hm⟩ : ∃ m, m = x.natAbs := ⟨_, rfl⟩
  rw [← hm]
  have H := Lib.hid (of_any m w (by omega))
  by_cases hx : x < 0
  · have HE := Lib.hid (show IntKind.u64.wrap (-IntKind.u64.wrap x) = (m : Int) by rw [IntKind.wrap_u64, IntKind.wrap_u64]; omega)
    clear hm
    go_enter Tryz.func246, Tryz.ntmps246
    go_wp2_with fail
    rw [HE.out]
    refine H.out.mono ?_; rintro e w1 ⟨A1, c1, rfl, h1, hx1⟩
    have H1 := Lib.hid h1
    have HX1 := Lib.hid hx1
    clear h1 hx1
    go_wp2_with fail
    go_ret
    exact ⟨_, _, rfl, H1.out, HX1.out⟩
  · obtain rfl : x = (m : Int) := by omega
    clear hm
    go_enter Tryz.func246, Tryz.ntmps246
    go_wp2_with fail
    refine H.out.mono ?_; rintro e w1 ⟨A1, c1, rfl, h1, hx1⟩
    have H1 := Lib.hid h1
    have HX1 := Lib.hid hx1
    clear h1 hx1
    go_wp2_with fail
    go_ret
    exact ⟨_, _, rfl, H1.out, HX1.out⟩

/-- Small's answer -/
def fsmall (n d : Int) : Fr × Int := if d = 0 then (Fr.zero, 7) else tell (mkRat (sg (decide (n < 0) != decide (d < 0)) n.natAbs) d.natAbs)
theorem wd_len_64 (x : Int) (h0 : -9223372036854775808 ≤ x) (h1 : x ≤ 9223372036854775807) : (wd x.natAbs).length ≤ 2 := wd_two' _ (by omega)

set_option maxHeartbeats 1000000 in
theorem small_frac (n d : Int) (w : World) (h0 : -9223372036854775808 ≤ n) (h1 : n ≤ 9223372036854775807) (k0 : -9223372036854775808 ≤ d) (k1 : d ≤ 9223372036854775807) :
    Calls Tryz.prog 165 #[.int .i64 n, .int .i64 d] w (RatP w (fsmall n d)) := by
  by_cases hd : d = 0
  · have HT := Lib.hid (show fsmall n d = (Fr.zero, 7) from if_pos hd)
    subst hd
    go_enter Tryz.func165, Tryz.ntmps165
    go_wp2_with fail
    exact bodyPost_ret (v := .tuple #[.agg #[.bool false, .slice none 0 0, .slice none 0 0], .int .i64 7]) (by simp [results, Tryz.results165, go_sem]) rfl (RatP.nil HT.out rfl (by repeat (first | exact Ext.refl w | refine Ext.setCell ?_ (Nat.le_refl _) _ | refine Ext.alloc ?_ _)))
  · have hdb : (d == 0) = false := beq_eq_false_iff_ne.2 hd
    have Hn := Lib.hid (wd_len_64 n h0 h1)
    have Hd := Lib.hid (wd_len_64 d k0 k1)
    have Hz := Lib.hid (show d.natAbs ≠ 0 by omega)
    obtain ⟨t, ht⟩ : ∃ t, t = tell (mkRat (sg (decide (n < 0) != decide (d < 0)) n.natAbs) d.natAbs) := ⟨_, rfl⟩
    have HT := Lib.hid (show fsmall n d = t by rw [ht]; exact if_neg hd)
    have HL := fun (wx : World) (b : Bool) (A B : Option Addr) (c e : Nat) (ha : Rd wx A c (wd n.natAbs)) (hb : Rd wx B e (wd d.natAbs)) (hbb : b = (decide (n < 0) != decide (d < 0))) => Lib.hid (show Calls Tryz.prog 141 #[.bool b, .slice A (wd n.natAbs).length c, .slice B (wd d.natAbs).length e] wx (RatP wx t) by
      subst hbb; rw [ht]; exact lowest_any _ A B _ _ c e wx ha hb Hz.out (by have := Hn.out; omega) (by have := Hd.out; omega))
    have HLL := Lib.hid HL
    clear HL ht hd
    go_enter Tryz.func165, Tryz.ntmps165
    go_wp2_with fail
    refine (size_any n _ h0 h1).mono ?_; rintro e w1 ⟨A1, c1, rfl, h1', hx1⟩
    have H1 := Lib.hid h1'
    have HX1 := Lib.hid hx1
    clear h1' hx1
    go_wp2_with fail
    refine (size_any d _ k0 k1).mono ?_; rintro e w2 ⟨A2, c2, rfl, h2, hx2⟩
    have H2 := Lib.hid h2
    have H1 := Lib.hid (H1.out.ext hx2)
    have HX2 := Lib.hid (HX1.out.trans hx2)
    clear h2 hx2
    go_wp2_with fail
    refine (HLL.out _ _ _ _ _ _ H1.out.rd H2.out.rd rfl).out.mono ?_; rintro e w3 ⟨A3, c3, B3, d3, rfl, h3, h4, h5, hx3⟩
    have H3 := Lib.hid (h3.lower (show w.heap.size + 1 ≤ w2.heap.size by have := HX2.out.size; simp at this; omega))
    have H4 := Lib.hid (h4.lower (show w.heap.size + 1 ≤ w2.heap.size by have := HX2.out.size; simp at this; omega))
    have HAp := Lib.hid h5
    have HX3 := Lib.hid (HX2.out.trans hx3)
    have HXw := Lib.hid (((Ext.refl w).alloc _).trans HX3.out)
    have hz3 : w.heap.size < w3.heap.size := by have := HX3.out.size; simp at this; omega
    clear h3 h4 h5 hx3
    obtain ⟨hc, hf⟩ := bcell HX3.out
    go_wp2_with fail
    exact bodyPost_ret (v := .tuple #[.agg #[.bool t.1.neg, .slice A3 t.1.num.length c3, .slice B3 t.1.den.length d3], .int .i64 t.2]) (by simp [results, Tryz.results165, go_sem, hc]) rfl (RatP.mk HT.out rfl (by refine Own.lower ?_ (Nat.le_succ _); repeat (first | exact H3.out | refine Own.setBelow ?_ (Nat.lt_succ_self _) _)) (by refine Own.lower ?_ (Nat.le_succ _); repeat (first | exact H4.out | refine Own.setBelow ?_ (Nat.lt_succ_self _) _)) HAp.out (by repeat (first | exact HXw.out | refine Ext.setCell ?_ (Nat.le_refl _) _)))

end Go.Proofs.YtifonmdcicegdaaGreat

/- Complex fractions: plain. -/
namespace Go.Proofs.YtifonmdcicegdaaGreat

/-- a complex fraction in whatever form -/
structure Ga where
  re : Fr
  im : Fr
deriving DecidableEq
def Ga.zero : Ga := ⟨Fr.zero, Fr.zero⟩
structure Ga.Wf (a : Ga) : Prop where
  re : a.re.Wf
  im : a.im.Wf
theorem Ga.zero_wf : Ga.zero.Wf := ⟨Fr.zero_wf, Fr.zero_wf⟩
/-- what is wrong with one, with two -/
def gchk (a : Ga) : Int := fchk2 a.re a.im
def gchk2 (a b : Ga) : Int := if gchk a ≠ 0 then gchk a else gchk b
/-- a step behind an error -/
def stp (e : Int) (t : Fr × Int) : Fr × Int := if e ≠ 0 then (Fr.zero, e) else t
/-- what is told in the end -/
def gtell (e : Int) (r i : Fr) : Ga × Int := if e ≠ 0 then (Ga.zero, e) else (⟨r, i⟩, 0)
def wadd (e : Int) (a b : Fr) : Fr × Int := stp e (fadd a b)
def wsub (e : Int) (a b : Fr) : Fr × Int := stp e (fsub a b)
def wmul (e : Int) (a b : Fr) : Fr × Int := stp e (fmul a b)
def wquo (e : Int) (a b : Fr) : Fr × Int := stp e (fquo a b)
/-- the product: both parts and the error -/
def wprod (e : Int) (a b : Ga) : Fr × Fr × Int :=
  let x := wmul e a.re b.re
  let y := wmul x.2 a.im b.im
  let r := wsub y.2 x.1 y.1
  let u := wmul r.2 a.re b.im
  let v := wmul u.2 a.im b.re
  let i := wadd v.2 u.1 v.1
  (r.1, i.1, i.2)
/-- the square of the size -/
def wnorm (e : Int) (a : Ga) : Fr × Int :=
  let x := wmul e a.re a.re
  let y := wmul x.2 a.im a.im
  wadd y.2 x.1 y.1
def gadd (a b : Ga) : Ga × Int :=
  let r := wadd (gchk2 a b) a.re b.re
  let i := wadd r.2 a.im b.im
  gtell i.2 r.1 i.1
def gsub (a b : Ga) : Ga × Int :=
  let r := wsub (gchk2 a b) a.re b.re
  let i := wsub r.2 a.im b.im
  gtell i.2 r.1 i.1
def gmul (a b : Ga) : Ga × Int :=
  let p := wprod (gchk2 a b) a b
  gtell p.2.2 p.1 p.2.1
/-- is it 0? -/
def gzero (a : Ga) : Bool := decide (gchk a = 0 ∧ a.re.num.length = 0 ∧ a.im.num.length = 0)
def gquo (a b : Ga) : Ga × Int :=
  let e := if gchk2 a b ≠ 0 then gchk2 a b else if gzero b = true then 7 else 0
  let n := wnorm e b
  let p := wprod n.2 a ⟨b.re, (fneg b.im).1⟩
  let r := wquo p.2.2 p.1 n.1
  let i := wquo r.2 p.2.1 n.1
  gtell i.2 r.1 i.1
def gscale (s : Fr) (a : Ga) : Ga × Int :=
  let r := wmul (if fchk s ≠ 0 then fchk s else gchk a) s a.re
  let i := wmul r.2 s a.im
  gtell i.2 r.1 i.1
def gneg (a : Ga) : Ga × Int := if gchk a ≠ 0 then (Ga.zero, gchk a) else (⟨(fneg a.re).1, (fneg a.im).1⟩, 0)
def gconj (a : Ga) : Ga × Int := if gchk a ≠ 0 then (Ga.zero, gchk a) else (⟨a.re, (fneg a.im).1⟩, 0)
def gnorm (a : Ga) : Fr × Int :=
  let n := wnorm (gchk a) a
  if n.2 ≠ 0 then (Fr.zero, n.2) else n
def gsame (a b : Ga) : Bool := decide (gchk2 a b = 0 ∧ a = b)

theorem stp_bad {e : Int} {t : Fr × Int} (h : e ≠ 0) : stp e t = (Fr.zero, e) := if_pos h
theorem stp_ok {t : Fr × Int} : stp 0 t = t := if_neg (by simp)
theorem gtell_bad {e : Int} {r i : Fr} (h : e ≠ 0) : gtell e r i = (Ga.zero, e) := if_pos h
theorem gtell_ok {r i : Fr} : gtell 0 r i = (⟨r, i⟩, 0) := if_neg (by simp)

/-- what a fraction's call tells is a fraction that may be, or nothing and an error -/
def Good (t : Fr × Int) : Prop := (t.2 = 0 → ∃ q, t.1 = enc q ∧ ¬ lng q = true) ∧ (t.2 ≠ 0 → t.1 = Fr.zero)
theorem tell_good (q : Rat) : Good (tell q) := by
  unfold tell
  by_cases h : lng q = true
  · rw [if_pos h]; exact ⟨fun e => by simp at e, fun _ => rfl⟩
  · rw [if_neg h]; exact ⟨fun _ => ⟨q, rfl, h⟩, fun e => absurd rfl e⟩
theorem both_goodP {a b : Fr} {r} (h : ∀ p q, Good (r p q)) : Good (both a b r) := by
  unfold both
  by_cases h1 : fchk a ≠ 0
  · rw [if_pos h1]; exact ⟨fun e => absurd e h1, fun _ => rfl⟩
  · rw [if_neg h1]
    by_cases h2 : fchk b ≠ 0
    · rw [if_pos h2]; exact ⟨fun e => absurd e h2, fun _ => rfl⟩
    · rw [if_neg h2]; exact h _ _
theorem fadd_good (a b : Fr) : Good (fadd a b) := both_goodP fun _ _ => tell_good _
theorem fsub_good (a b : Fr) : Good (fsub a b) := both_goodP fun _ _ => tell_good _
theorem fmul_good (a b : Fr) : Good (fmul a b) := both_goodP fun _ _ => tell_good _
theorem fquo_good (a b : Fr) : Good (fquo a b) := both_goodP fun _ q => by
  by_cases h : q = 0
  · simp only [if_pos h]; exact ⟨fun e => by simp at e, fun _ => rfl⟩
  · simp only [if_neg h]; exact tell_good _
theorem Good.wf {t : Fr × Int} (h : Good t) : t.1.Wf := by
  by_cases e : t.2 = 0
  · obtain ⟨q, hq, _⟩ := h.1 e; rw [hq]; exact enc_wf q
  · rw [h.2 e]; exact Fr.zero_wf
theorem stp_good {e : Int} {t : Fr × Int} (h : Good t) : Good (stp e t) := by
  unfold stp
  by_cases h1 : e ≠ 0
  · rw [if_pos h1]; exact ⟨fun e2 => absurd e2 h1, fun _ => rfl⟩
  · rw [if_neg h1]; exact h

end Go.Proofs.YtifonmdcicegdaaGreat

/- gauss: the way. -/
namespace Go.Proofs.YtifonmdcicegdaaGreat
open Go Go.RowKit

/-- the way's block holds this error -/
structure Way (gw : Nat) (e : Int) (w : World) : Prop where
  c : w.cell? ⟨gw, 0, none⟩ = some (.int .i64 e)
  f : ∀ o, w.frozen? ⟨gw, o, none⟩ = false
theorem Way.lt {gw : Nat} {e : Int} {w : World} (h : Way gw e w) : gw < w.heap.size := World.block_lt_of_cell? w ⟨gw, 0, none⟩ h.c
theorem Way.ext {gw : Nat} {e : Int} {w w' : World} (h : Way gw e w) (x : Ext w w') : Way gw e w' := ⟨x.cell h.c, fun o => (Below.frozen (p := ⟨gw, o, none⟩) x h.lt).trans (h.f o)⟩
theorem Way.set {gw : Nat} {e e' : Int} {w : World} (h : Way gw e w) : Way gw e' (w.setCell ⟨gw, 0, none⟩ (.int .i64 e')) :=
  ⟨World.cell?_setCell_same _ _ _ h.c, fun o => by simpa using h.f o⟩
theorem Way.setNe {gw : Nat} {e : Int} {w : World} {p : Addr} {u : Value} (h : Way gw e w) (hp : p.block ≠ gw) : Way gw e (w.setCell p u) :=
  ⟨cell_keep (grown_setCell w p u) h.c (fun e => hp (Option.some.inj e).symm), fun o => by simpa using h.f o⟩
/-- a fraction is made, and the way's error -/
def WayP (gw : Nat) (w : World) (t : Fr × Int) (e : Ending) (w' : World) : Prop :=
  ∃ A c B d, e = .returned (.agg #[.bool t.1.neg, .slice A t.1.num.length c, .slice B t.1.den.length d]) ∧ Own w' w.heap.size A c t.1.num ∧ Own w' w.heap.size B d t.1.den ∧ (∀ a b, A = some a → B = some b → a.block ≠ b.block) ∧ w.grownBy w' (some gw) ∧ Way gw t.2 w'
theorem grown_setNewU {w w' : World} {row : Option Nat} {p : Addr} {u : Value} (h : w.grownBy w' row) (hp : w.heap.size ≤ p.block) : w.grownBy (w'.setCell p u) row :=
  ⟨h.os, h.tape, h.output, by simpa using h.size, fun k hk hr => (Below.heap_setCell _ _ _ _ (by omega)).trans (h.block k hk hr)⟩
theorem grown_setWay {w w' : World} {gw : Nat} {u : Value} (h : w.grownBy w' (some gw)) : w.grownBy (w'.setCell ⟨gw, 0, none⟩ u) (some gw) := grown_trans h (grown_setCell w' ⟨gw, 0, none⟩ u)

set_option maxHeartbeats 1000000 in
/-- made, of a fraction whose words are anywhere -/
theorem made_any (gw : Nat) (e0 : Int) (t : Fr) (er : Int) (A B : Option Addr) (c1 c2 : Nat) (w : World) (hw : Way gw e0 w) :
    Calls Tryz.prog 168 #[.pointer (some ⟨gw, 0, none⟩), .agg #[.bool t.neg, .slice A t.num.length c1, .slice B t.den.length c2], .int .i64 er] w fun e w' =>
      (e0 ≠ 0 → e = .returned (.agg #[.bool false, .slice none 0 0, .slice none 0 0])) ∧ (e0 = 0 → e = .returned (.agg #[.bool t.neg, .slice A t.num.length c1, .slice B t.den.length c2])) ∧ w.grownBy w' (some gw) ∧ Way gw (if e0 ≠ 0 then e0 else er) w' := by
  have hl := hw.lt
  have HW := Lib.hid hw
  have hc := hw.c
  have hf := hw.f 0
  have hg := fun o => (hw.ext ((Ext.refl w).alloc o)).c
  clear hw
  by_cases h0 : e0 ≠ 0
  · have hb : (e0 != 0) = true := bne_iff_ne.2 h0
    rw [if_pos h0]
    go_enter Tryz.func168, Tryz.ntmps168
    go_wp2_with fail
    exact bodyPost_ret (v := .agg #[.bool false, .slice none 0 0, .slice none 0 0]) (by simp [results, Tryz.results168, go_sem]) rfl ⟨fun _ => rfl, fun h => absurd h h0, (by repeat (first | (with_reducible exact World.grownBy.refl w _) | (with_reducible refine grown_alloc ?_ _) | (with_reducible refine grown_setWay ?_) | (with_reducible refine grown_setNewU ?_ (by simp)))), by repeat (first | (with_reducible exact HW.out) | (with_reducible refine Way.setNe ?_ (by simp; omega)) | refine Way.ext ?_ ((Ext.refl _).alloc _))⟩
  · obtain rfl : e0 = 0 := by simpa using h0
    have hb : ((0 : Int) != 0) = false := rfl
    rw [if_neg (by simp)]
    go_enter Tryz.func168, Tryz.ntmps168
    go_wp2_with fail
    exact bodyPost_ret (v := .agg #[.bool t.neg, .slice A t.num.length c1, .slice B t.den.length c2]) (by simp [results, Tryz.results168, go_sem]) rfl ⟨fun h => absurd rfl h, fun _ => rfl, (by repeat (first | (with_reducible exact World.grownBy.refl w _) | (with_reducible refine grown_alloc ?_ _) | (with_reducible refine grown_setWay ?_) | (with_reducible refine grown_setNewU ?_ (by simp)))), Way.ext (Way.set HW.out) (((Ext.refl _).alloc _).alloc _)⟩

set_option maxRecDepth 4000 in
set_option maxHeartbeats 2000000 in
theorem wadd_any (gw : Nat) (e0 : Int) (a b : Fr) (A B C D : Option Addr) (c1 c2 c3 c4 : Nat) (w : World) (ha : Rd w A c1 a.num) (hb : Rd w B c2 a.den) (hc : Rd w C c3 b.num) (hd : Rd w D c4 b.den) (wa : a.Wf) (wb : b.Wf) (hw : Way gw e0 w) :
    Calls Tryz.prog 166 #[.pointer (some ⟨gw, 0, none⟩), .agg #[.bool a.neg, .slice A a.num.length c1, .slice B a.den.length c2], .agg #[.bool b.neg, .slice C b.num.length c3, .slice D b.den.length c4]] w (WayP gw w (wadd e0 a b)) := by
  have HA := Lib.hid ha
  have HB := Lib.hid hb
  have HC := Lib.hid hc
  have HD := Lib.hid hd
  clear ha hb hc hd
  have HW := Lib.hid hw
  have hl := hw.lt
  clear hw
  obtain ⟨t, ht⟩ : ∃ t, t = fadd a b := ⟨_, rfl⟩
  have HT := Lib.hid (show wadd e0 a b = stp e0 t by rw [ht]; rfl)
  have HC' := Lib.hid (fun wx (hx : Ext w wx) => add_fr a b A B C D c1 c2 c3 c4 wx (HA.out.ext hx) (HB.out.ext hx) (HC.out.ext hx) (HD.out.ext hx) wa wb)
  rw [← ht] at HC'
  rw [HT.out]
  clear ht
  go_enter Tryz.func166, Tryz.ntmps166
  go_wp2_with fail
  obtain ⟨W, hW⟩ : ∃ W, W = ((w.alloc (.cells #[.bool a.neg, .slice A a.num.length c1, .slice B a.den.length c2] 24)).alloc (.cells #[.bool b.neg, .slice C b.num.length c3, .slice D b.den.length c4] 24)).alloc (.cells #[.bool false, .slice none 0 0, .slice none 0 0] 24) := ⟨_, rfl⟩
  have F0 : Six W w.heap.size (.bool a.neg) (.slice A a.num.length c1) (.slice B a.den.length c2) (.bool b.neg) (.slice C b.num.length c3) (.slice D b.den.length c4) := by rw [hW]; refine ⟨?_, ?_, ?_, ?_, ?_, ?_⟩ <;> simp [go_sem]
  have HX : Hid (Ext w W) := by rw [hW]; exact (((Ext.refl w).alloc _).alloc _).alloc _
  have HV : Hid (VarF (w.heap.size + 2) W.heap.size Fr.zero none 0 none 0 W) := by
    have h1 := VarF.zero ((w.alloc (.cells #[.bool a.neg, .slice A a.num.length c1, .slice B a.den.length c2] 24)).alloc (.cells #[.bool b.neg, .slice C b.num.length c3, .slice D b.den.length c4] 24)) W.heap.size
    rw [← hW] at h1
    unfold Hid
    simpa using h1
  have HZ := Lib.hid (show W.heap.size = w.heap.size + 3 by rw [hW]; simp)
  try rw [← hW]
  clear hW
  refine (HC'.out _ HX.out).mono ?_; rintro e w1 ⟨A9, c9, B9, d9, rfl, o1, o2, ap, hx⟩
  have O1 := Lib.hid (o1.lower (show w.heap.size + 3 ≤ W.heap.size by have := HZ.out; omega))
  have O2 := Lib.hid (o2.lower (show w.heap.size + 3 ≤ W.heap.size by have := HZ.out; omega))
  have AP := Lib.hid ap
  have HX1 := Lib.hid (HX.out.trans hx)
  have HV1 := Lib.hid (HV.out.ext hx)
  have HW1 := Lib.hid (HW.out.ext HX1.out)
  clear o1 o2 ap hx F0 HX HV
  go_wp2_with fail
  refine (made_any gw e0 t.1 t.2 A9 B9 c9 d9 _ HW1.out).mono ?_; rintro e w2 ⟨k1, k2, hg, hw2⟩
  have HG := Lib.hid (grown_trans (HX1.out.by_ _) hg)
  have HW2 := Lib.hid hw2
  have hng : w.heap.size + 2 ≠ gw := by omega
  have r0 := cell_keep hg HV1.out.c0 (fun e => hng (Option.some.inj e))
  have r1 := cell_keep hg HV1.out.c1 (fun e => hng (Option.some.inj e))
  have r2 := cell_keep hg HV1.out.c2 (fun e => hng (Option.some.inj e))
  have s0 := (World.frozen?_of_block (a := ⟨w.heap.size + 2, 0, none⟩) (hg.block (w.heap.size + 2) HV1.out.lt (fun e => hng (Option.some.inj e)))).trans (HV1.out.fr 0)
  have s1 := (World.frozen?_of_block (a := ⟨w.heap.size + 2, 1, none⟩) (hg.block (w.heap.size + 2) HV1.out.lt (fun e => hng (Option.some.inj e)))).trans (HV1.out.fr 1)
  have s2 := (World.frozen?_of_block (a := ⟨w.heap.size + 2, 2, none⟩) (hg.block (w.heap.size + 2) HV1.out.lt (fun e => hng (Option.some.inj e)))).trans (HV1.out.fr 2)
  have nA : ∀ x, A9 = some x → some x.block ≠ some gw := fun x e e2 => by have h := O1.out; rw [e] at h; have h1 := h.block.1; have h2 := Option.some.inj e2; omega
  have nB : ∀ x, B9 = some x → some x.block ≠ some gw := fun x e e2 => by have h := O2.out; rw [e] at h; have h1 := h.block.1; have h2 := Option.some.inj e2; omega
  have P1 := Lib.hid (O1.out.kept hg nA)
  have P2 := Lib.hid (O2.out.kept hg nB)
  clear hg hw2 nA nB
  by_cases h0 : e0 ≠ 0
  · have HE := Lib.hid (k1 h0)
    have HS := Lib.hid (show stp e0 t = (Fr.zero, e0) from stp_bad h0)
    have HW3 := Lib.hid (show Way gw e0 w2 by have := HW2.out; rw [if_pos h0] at this; exact this)
    clear k1 k2 h0
    rw [HE.out]
    go_wp2_with fail
    exact bodyPost_ret (v := .agg #[.bool false, .slice none 0 0, .slice none 0 0]) (by simp [results, Tryz.results166, go_sem, r0, r1, r2]) rfl (by rw [HS.out]; exact ⟨none, 0, none, 0, rfl, Own.nil _ _, Own.nil _ _, (fun _ _ h => by cases h), by repeat (first | (with_reducible exact HG.out) | (with_reducible refine grown_setNewU ?_ (by simp only; omega))), by repeat (first | (with_reducible exact HW3.out) | (with_reducible refine Way.setNe ?_ (by simp only; omega)))⟩)
  · obtain rfl : e0 = 0 := by simpa using h0
    have HE := Lib.hid (k2 rfl)
    have HW3 := Lib.hid (show Way gw t.2 w2 by have := HW2.out; rw [if_neg (by simp)] at this; exact this)
    clear k1 k2 h0
    rw [HE.out]
    go_wp2_with fail
    exact bodyPost_ret (v := .agg #[.bool t.1.neg, .slice A9 t.1.num.length c9, .slice B9 t.1.den.length d9]) (by simp [results, Tryz.results166, go_sem, r0, r1, r2]) rfl (by rw [stp_ok]; exact ⟨A9, c9, B9, d9, rfl, (by refine Own.lower ?_ (show w.heap.size ≤ w.heap.size + 3 by omega); repeat (first | (with_reducible exact P1.out) | refine Own.setBelow ?_ (by simp; try omega) _)), (by refine Own.lower ?_ (show w.heap.size ≤ w.heap.size + 3 by omega); repeat (first | (with_reducible exact P2.out) | refine Own.setBelow ?_ (by simp; try omega) _)), AP.out, by repeat (first | (with_reducible exact HG.out) | (with_reducible refine grown_setNewU ?_ (by simp only; omega))), by repeat (first | (with_reducible exact HW3.out) | (with_reducible refine Way.setNe ?_ (by simp only; omega)))⟩)

set_option maxRecDepth 4000 in
set_option maxHeartbeats 2000000 in
theorem wsub_any (gw : Nat) (e0 : Int) (a b : Fr) (A B C D : Option Addr) (c1 c2 c3 c4 : Nat) (w : World) (ha : Rd w A c1 a.num) (hb : Rd w B c2 a.den) (hc : Rd w C c3 b.num) (hd : Rd w D c4 b.den) (wa : a.Wf) (wb : b.Wf) (hw : Way gw e0 w) :
    Calls Tryz.prog 173 #[.pointer (some ⟨gw, 0, none⟩), .agg #[.bool a.neg, .slice A a.num.length c1, .slice B a.den.length c2], .agg #[.bool b.neg, .slice C b.num.length c3, .slice D b.den.length c4]] w (WayP gw w (wsub e0 a b)) := by
  have HA := Lib.hid ha
  have HB := Lib.hid hb
  have HC := Lib.hid hc
  have HD := Lib.hid hd
  clear ha hb hc hd
  have HW := Lib.hid hw
  have hl := hw.lt
  clear hw
  obtain ⟨t, ht⟩ : ∃ t, t = fsub a b := ⟨_, rfl⟩
  have HT := Lib.hid (show wsub e0 a b = stp e0 t by rw [ht]; rfl)
  have HC' := Lib.hid (fun wx (hx : Ext w wx) => sub_fr a b A B C D c1 c2 c3 c4 wx (HA.out.ext hx) (HB.out.ext hx) (HC.out.ext hx) (HD.out.ext hx) wa wb)
  rw [← ht] at HC'
  rw [HT.out]
  clear ht
  go_enter Tryz.func173, Tryz.ntmps173
  go_wp2_with fail
  obtain ⟨W, hW⟩ : ∃ W, W = ((w.alloc (.cells #[.bool a.neg, .slice A a.num.length c1, .slice B a.den.length c2] 24)).alloc (.cells #[.bool b.neg, .slice C b.num.length c3, .slice D b.den.length c4] 24)).alloc (.cells #[.bool false, .slice none 0 0, .slice none 0 0] 24) := ⟨_, rfl⟩
  have F0 : Six W w.heap.size (.bool a.neg) (.slice A a.num.length c1) (.slice B a.den.length c2) (.bool b.neg) (.slice C b.num.length c3) (.slice D b.den.length c4) := by rw [hW]; refine ⟨?_, ?_, ?_, ?_, ?_, ?_⟩ <;> simp [go_sem]
  have HX : Hid (Ext w W) := by rw [hW]; exact (((Ext.refl w).alloc _).alloc _).alloc _
  have HV : Hid (VarF (w.heap.size + 2) W.heap.size Fr.zero none 0 none 0 W) := by
    have h1 := VarF.zero ((w.alloc (.cells #[.bool a.neg, .slice A a.num.length c1, .slice B a.den.length c2] 24)).alloc (.cells #[.bool b.neg, .slice C b.num.length c3, .slice D b.den.length c4] 24)) W.heap.size
    rw [← hW] at h1
    unfold Hid
    simpa using h1
  have HZ := Lib.hid (show W.heap.size = w.heap.size + 3 by rw [hW]; simp)
  try rw [← hW]
  clear hW
  refine (HC'.out _ HX.out).mono ?_; rintro e w1 ⟨A9, c9, B9, d9, rfl, o1, o2, ap, hx⟩
  have O1 := Lib.hid (o1.lower (show w.heap.size + 3 ≤ W.heap.size by have := HZ.out; omega))
  have O2 := Lib.hid (o2.lower (show w.heap.size + 3 ≤ W.heap.size by have := HZ.out; omega))
  have AP := Lib.hid ap
  have HX1 := Lib.hid (HX.out.trans hx)
  have HV1 := Lib.hid (HV.out.ext hx)
  have HW1 := Lib.hid (HW.out.ext HX1.out)
  clear o1 o2 ap hx F0 HX HV
  go_wp2_with fail
  refine (made_any gw e0 t.1 t.2 A9 B9 c9 d9 _ HW1.out).mono ?_; rintro e w2 ⟨k1, k2, hg, hw2⟩
  have HG := Lib.hid (grown_trans (HX1.out.by_ _) hg)
  have HW2 := Lib.hid hw2
  have hng : w.heap.size + 2 ≠ gw := by omega
  have r0 := cell_keep hg HV1.out.c0 (fun e => hng (Option.some.inj e))
  have r1 := cell_keep hg HV1.out.c1 (fun e => hng (Option.some.inj e))
  have r2 := cell_keep hg HV1.out.c2 (fun e => hng (Option.some.inj e))
  have s0 := (World.frozen?_of_block (a := ⟨w.heap.size + 2, 0, none⟩) (hg.block (w.heap.size + 2) HV1.out.lt (fun e => hng (Option.some.inj e)))).trans (HV1.out.fr 0)
  have s1 := (World.frozen?_of_block (a := ⟨w.heap.size + 2, 1, none⟩) (hg.block (w.heap.size + 2) HV1.out.lt (fun e => hng (Option.some.inj e)))).trans (HV1.out.fr 1)
  have s2 := (World.frozen?_of_block (a := ⟨w.heap.size + 2, 2, none⟩) (hg.block (w.heap.size + 2) HV1.out.lt (fun e => hng (Option.some.inj e)))).trans (HV1.out.fr 2)
  have nA : ∀ x, A9 = some x → some x.block ≠ some gw := fun x e e2 => by have h := O1.out; rw [e] at h; have h1 := h.block.1; have h2 := Option.some.inj e2; omega
  have nB : ∀ x, B9 = some x → some x.block ≠ some gw := fun x e e2 => by have h := O2.out; rw [e] at h; have h1 := h.block.1; have h2 := Option.some.inj e2; omega
  have P1 := Lib.hid (O1.out.kept hg nA)
  have P2 := Lib.hid (O2.out.kept hg nB)
  clear hg hw2 nA nB
  by_cases h0 : e0 ≠ 0
  · have HE := Lib.hid (k1 h0)
    have HS := Lib.hid (show stp e0 t = (Fr.zero, e0) from stp_bad h0)
    have HW3 := Lib.hid (show Way gw e0 w2 by have := HW2.out; rw [if_pos h0] at this; exact this)
    clear k1 k2 h0
    rw [HE.out]
    go_wp2_with fail
    exact bodyPost_ret (v := .agg #[.bool false, .slice none 0 0, .slice none 0 0]) (by simp [results, Tryz.results173, go_sem, r0, r1, r2]) rfl (by rw [HS.out]; exact ⟨none, 0, none, 0, rfl, Own.nil _ _, Own.nil _ _, (fun _ _ h => by cases h), by repeat (first | (with_reducible exact HG.out) | (with_reducible refine grown_setNewU ?_ (by simp only; omega))), by repeat (first | (with_reducible exact HW3.out) | (with_reducible refine Way.setNe ?_ (by simp only; omega)))⟩)
  · obtain rfl : e0 = 0 := by simpa using h0
    have HE := Lib.hid (k2 rfl)
    have HW3 := Lib.hid (show Way gw t.2 w2 by have := HW2.out; rw [if_neg (by simp)] at this; exact this)
    clear k1 k2 h0
    rw [HE.out]
    go_wp2_with fail
    exact bodyPost_ret (v := .agg #[.bool t.1.neg, .slice A9 t.1.num.length c9, .slice B9 t.1.den.length d9]) (by simp [results, Tryz.results173, go_sem, r0, r1, r2]) rfl (by rw [stp_ok]; exact ⟨A9, c9, B9, d9, rfl, (by refine Own.lower ?_ (show w.heap.size ≤ w.heap.size + 3 by omega); repeat (first | (with_reducible exact P1.out) | refine Own.setBelow ?_ (by simp; try omega) _)), (by refine Own.lower ?_ (show w.heap.size ≤ w.heap.size + 3 by omega); repeat (first | (with_reducible exact P2.out) | refine Own.setBelow ?_ (by simp; try omega) _)), AP.out, by repeat (first | (with_reducible exact HG.out) | (with_reducible refine grown_setNewU ?_ (by simp only; omega))), by repeat (first | (with_reducible exact HW3.out) | (with_reducible refine Way.setNe ?_ (by simp only; omega)))⟩)

set_option maxRecDepth 4000 in
set_option maxHeartbeats 2000000 in
theorem wmul_any (gw : Nat) (e0 : Int) (a b : Fr) (A B C D : Option Addr) (c1 c2 c3 c4 : Nat) (w : World) (ha : Rd w A c1 a.num) (hb : Rd w B c2 a.den) (hc : Rd w C c3 b.num) (hd : Rd w D c4 b.den) (wa : a.Wf) (wb : b.Wf) (hw : Way gw e0 w) :
    Calls Tryz.prog 178 #[.pointer (some ⟨gw, 0, none⟩), .agg #[.bool a.neg, .slice A a.num.length c1, .slice B a.den.length c2], .agg #[.bool b.neg, .slice C b.num.length c3, .slice D b.den.length c4]] w (WayP gw w (wmul e0 a b)) := by
  have HA := Lib.hid ha
  have HB := Lib.hid hb
  have HC := Lib.hid hc
  have HD := Lib.hid hd
  clear ha hb hc hd
  have HW := Lib.hid hw
  have hl := hw.lt
  clear hw
  obtain ⟨t, ht⟩ : ∃ t, t = fmul a b := ⟨_, rfl⟩
  have HT := Lib.hid (show wmul e0 a b = stp e0 t by rw [ht]; rfl)
  have HC' := Lib.hid (fun wx (hx : Ext w wx) => mul_fr a b A B C D c1 c2 c3 c4 wx (HA.out.ext hx) (HB.out.ext hx) (HC.out.ext hx) (HD.out.ext hx) wa wb)
  rw [← ht] at HC'
  rw [HT.out]
  clear ht
  go_enter Tryz.func178, Tryz.ntmps178
  go_wp2_with fail
  obtain ⟨W, hW⟩ : ∃ W, W = ((w.alloc (.cells #[.bool a.neg, .slice A a.num.length c1, .slice B a.den.length c2] 24)).alloc (.cells #[.bool b.neg, .slice C b.num.length c3, .slice D b.den.length c4] 24)).alloc (.cells #[.bool false, .slice none 0 0, .slice none 0 0] 24) := ⟨_, rfl⟩
  have F0 : Six W w.heap.size (.bool a.neg) (.slice A a.num.length c1) (.slice B a.den.length c2) (.bool b.neg) (.slice C b.num.length c3) (.slice D b.den.length c4) := by rw [hW]; refine ⟨?_, ?_, ?_, ?_, ?_, ?_⟩ <;> simp [go_sem]
  have HX : Hid (Ext w W) := by rw [hW]; exact (((Ext.refl w).alloc _).alloc _).alloc _
  have HV : Hid (VarF (w.heap.size + 2) W.heap.size Fr.zero none 0 none 0 W) := by
    have h1 := VarF.zero ((w.alloc (.cells #[.bool a.neg, .slice A a.num.length c1, .slice B a.den.length c2] 24)).alloc (.cells #[.bool b.neg, .slice C b.num.length c3, .slice D b.den.length c4] 24)) W.heap.size
    rw [← hW] at h1
    unfold Hid
    simpa using h1
  have HZ := Lib.hid (show W.heap.size = w.heap.size + 3 by rw [hW]; simp)
  try rw [← hW]
  clear hW
  refine (HC'.out _ HX.out).mono ?_; rintro e w1 ⟨A9, c9, B9, d9, rfl, o1, o2, ap, hx⟩
  have O1 := Lib.hid (o1.lower (show w.heap.size + 3 ≤ W.heap.size by have := HZ.out; omega))
  have O2 := Lib.hid (o2.lower (show w.heap.size + 3 ≤ W.heap.size by have := HZ.out; omega))
  have AP := Lib.hid ap
  have HX1 := Lib.hid (HX.out.trans hx)
  have HV1 := Lib.hid (HV.out.ext hx)
  have HW1 := Lib.hid (HW.out.ext HX1.out)
  clear o1 o2 ap hx F0 HX HV
  go_wp2_with fail
  refine (made_any gw e0 t.1 t.2 A9 B9 c9 d9 _ HW1.out).mono ?_; rintro e w2 ⟨k1, k2, hg, hw2⟩
  have HG := Lib.hid (grown_trans (HX1.out.by_ _) hg)
  have HW2 := Lib.hid hw2
  have hng : w.heap.size + 2 ≠ gw := by omega
  have r0 := cell_keep hg HV1.out.c0 (fun e => hng (Option.some.inj e))
  have r1 := cell_keep hg HV1.out.c1 (fun e => hng (Option.some.inj e))
  have r2 := cell_keep hg HV1.out.c2 (fun e => hng (Option.some.inj e))
  have s0 := (World.frozen?_of_block (a := ⟨w.heap.size + 2, 0, none⟩) (hg.block (w.heap.size + 2) HV1.out.lt (fun e => hng (Option.some.inj e)))).trans (HV1.out.fr 0)
  have s1 := (World.frozen?_of_block (a := ⟨w.heap.size + 2, 1, none⟩) (hg.block (w.heap.size + 2) HV1.out.lt (fun e => hng (Option.some.inj e)))).trans (HV1.out.fr 1)
  have s2 := (World.frozen?_of_block (a := ⟨w.heap.size + 2, 2, none⟩) (hg.block (w.heap.size + 2) HV1.out.lt (fun e => hng (Option.some.inj e)))).trans (HV1.out.fr 2)
  have nA : ∀ x, A9 = some x → some x.block ≠ some gw := fun x e e2 => by have h := O1.out; rw [e] at h; have h1 := h.block.1; have h2 := Option.some.inj e2; omega
  have nB : ∀ x, B9 = some x → some x.block ≠ some gw := fun x e e2 => by have h := O2.out; rw [e] at h; have h1 := h.block.1; have h2 := Option.some.inj e2; omega
  have P1 := Lib.hid (O1.out.kept hg nA)
  have P2 := Lib.hid (O2.out.kept hg nB)
  clear hg hw2 nA nB
  by_cases h0 : e0 ≠ 0
  · have HE := Lib.hid (k1 h0)
    have HS := Lib.hid (show stp e0 t = (Fr.zero, e0) from stp_bad h0)
    have HW3 := Lib.hid (show Way gw e0 w2 by have := HW2.out; rw [if_pos h0] at this; exact this)
    clear k1 k2 h0
    rw [HE.out]
    go_wp2_with fail
    exact bodyPost_ret (v := .agg #[.bool false, .slice none 0 0, .slice none 0 0]) (by simp [results, Tryz.results178, go_sem, r0, r1, r2]) rfl (by rw [HS.out]; exact ⟨none, 0, none, 0, rfl, Own.nil _ _, Own.nil _ _, (fun _ _ h => by cases h), by repeat (first | (with_reducible exact HG.out) | (with_reducible refine grown_setNewU ?_ (by simp only; omega))), by repeat (first | (with_reducible exact HW3.out) | (with_reducible refine Way.setNe ?_ (by simp only; omega)))⟩)
  · obtain rfl : e0 = 0 := by simpa using h0
    have HE := Lib.hid (k2 rfl)
    have HW3 := Lib.hid (show Way gw t.2 w2 by have := HW2.out; rw [if_neg (by simp)] at this; exact this)
    clear k1 k2 h0
    rw [HE.out]
    go_wp2_with fail
    exact bodyPost_ret (v := .agg #[.bool t.1.neg, .slice A9 t.1.num.length c9, .slice B9 t.1.den.length d9]) (by simp [results, Tryz.results178, go_sem, r0, r1, r2]) rfl (by rw [stp_ok]; exact ⟨A9, c9, B9, d9, rfl, (by refine Own.lower ?_ (show w.heap.size ≤ w.heap.size + 3 by omega); repeat (first | (with_reducible exact P1.out) | refine Own.setBelow ?_ (by simp; try omega) _)), (by refine Own.lower ?_ (show w.heap.size ≤ w.heap.size + 3 by omega); repeat (first | (with_reducible exact P2.out) | refine Own.setBelow ?_ (by simp; try omega) _)), AP.out, by repeat (first | (with_reducible exact HG.out) | (with_reducible refine grown_setNewU ?_ (by simp only; omega))), by repeat (first | (with_reducible exact HW3.out) | (with_reducible refine Way.setNe ?_ (by simp only; omega)))⟩)

set_option maxRecDepth 4000 in
set_option maxHeartbeats 2000000 in
theorem wquo_any (gw : Nat) (e0 : Int) (a b : Fr) (A B C D : Option Addr) (c1 c2 c3 c4 : Nat) (w : World) (ha : Rd w A c1 a.num) (hb : Rd w B c2 a.den) (hc : Rd w C c3 b.num) (hd : Rd w D c4 b.den) (wa : a.Wf) (wb : b.Wf) (hw : Way gw e0 w) :
    Calls Tryz.prog 176 #[.pointer (some ⟨gw, 0, none⟩), .agg #[.bool a.neg, .slice A a.num.length c1, .slice B a.den.length c2], .agg #[.bool b.neg, .slice C b.num.length c3, .slice D b.den.length c4]] w (WayP gw w (wquo e0 a b)) := by
  have HA := Lib.hid ha
  have HB := Lib.hid hb
  have HC := Lib.hid hc
  have HD := Lib.hid hd
  clear ha hb hc hd
  have HW := Lib.hid hw
  have hl := hw.lt
  clear hw
  obtain ⟨t, ht⟩ : ∃ t, t = fquo a b := ⟨_, rfl⟩
  have HT := Lib.hid (show wquo e0 a b = stp e0 t by rw [ht]; rfl)
  have HC' := Lib.hid (fun wx (hx : Ext w wx) => quo_fr a b A B C D c1 c2 c3 c4 wx (HA.out.ext hx) (HB.out.ext hx) (HC.out.ext hx) (HD.out.ext hx) wa wb)
  rw [← ht] at HC'
  rw [HT.out]
  clear ht
  go_enter Tryz.func176, Tryz.ntmps176
  go_wp2_with fail
  obtain ⟨W, hW⟩ : ∃ W, W = ((w.alloc (.cells #[.bool a.neg, .slice A a.num.length c1, .slice B a.den.length c2] 24)).alloc (.cells #[.bool b.neg, .slice C b.num.length c3, .slice D b.den.length c4] 24)).alloc (.cells #[.bool false, .slice none 0 0, .slice none 0 0] 24) := ⟨_, rfl⟩
  have F0 : Six W w.heap.size (.bool a.neg) (.slice A a.num.length c1) (.slice B a.den.length c2) (.bool b.neg) (.slice C b.num.length c3) (.slice D b.den.length c4) := by rw [hW]; refine ⟨?_, ?_, ?_, ?_, ?_, ?_⟩ <;> simp [go_sem]
  have HX : Hid (Ext w W) := by rw [hW]; exact (((Ext.refl w).alloc _).alloc _).alloc _
  have HV : Hid (VarF (w.heap.size + 2) W.heap.size Fr.zero none 0 none 0 W) := by
    have h1 := VarF.zero ((w.alloc (.cells #[.bool a.neg, .slice A a.num.length c1, .slice B a.den.length c2] 24)).alloc (.cells #[.bool b.neg, .slice C b.num.length c3, .slice D b.den.length c4] 24)) W.heap.size
    rw [← hW] at h1
    unfold Hid
    simpa using h1
  have HZ := Lib.hid (show W.heap.size = w.heap.size + 3 by rw [hW]; simp)
  try rw [← hW]
  clear hW
  refine (HC'.out _ HX.out).mono ?_; rintro e w1 ⟨A9, c9, B9, d9, rfl, o1, o2, ap, hx⟩
  have O1 := Lib.hid (o1.lower (show w.heap.size + 3 ≤ W.heap.size by have := HZ.out; omega))
  have O2 := Lib.hid (o2.lower (show w.heap.size + 3 ≤ W.heap.size by have := HZ.out; omega))
  have AP := Lib.hid ap
  have HX1 := Lib.hid (HX.out.trans hx)
  have HV1 := Lib.hid (HV.out.ext hx)
  have HW1 := Lib.hid (HW.out.ext HX1.out)
  clear o1 o2 ap hx F0 HX HV
  go_wp2_with fail
  refine (made_any gw e0 t.1 t.2 A9 B9 c9 d9 _ HW1.out).mono ?_; rintro e w2 ⟨k1, k2, hg, hw2⟩
  have HG := Lib.hid (grown_trans (HX1.out.by_ _) hg)
  have HW2 := Lib.hid hw2
  have hng : w.heap.size + 2 ≠ gw := by omega
  have r0 := cell_keep hg HV1.out.c0 (fun e => hng (Option.some.inj e))
  have r1 := cell_keep hg HV1.out.c1 (fun e => hng (Option.some.inj e))
  have r2 := cell_keep hg HV1.out.c2 (fun e => hng (Option.some.inj e))
  have s0 := (World.frozen?_of_block (a := ⟨w.heap.size + 2, 0, none⟩) (hg.block (w.heap.size + 2) HV1.out.lt (fun e => hng (Option.some.inj e)))).trans (HV1.out.fr 0)
  have s1 := (World.frozen?_of_block (a := ⟨w.heap.size + 2, 1, none⟩) (hg.block (w.heap.size + 2) HV1.out.lt (fun e => hng (Option.some.inj e)))).trans (HV1.out.fr 1)
  have s2 := (World.frozen?_of_block (a := ⟨w.heap.size + 2, 2, none⟩) (hg.block (w.heap.size + 2) HV1.out.lt (fun e => hng (Option.some.inj e)))).trans (HV1.out.fr 2)
  have nA : ∀ x, A9 = some x → some x.block ≠ some gw := fun x e e2 => by have h := O1.out; rw [e] at h; have h1 := h.block.1; have h2 := Option.some.inj e2; omega
  have nB : ∀ x, B9 = some x → some x.block ≠ some gw := fun x e e2 => by have h := O2.out; rw [e] at h; have h1 := h.block.1; have h2 := Option.some.inj e2; omega
  have P1 := Lib.hid (O1.out.kept hg nA)
  have P2 := Lib.hid (O2.out.kept hg nB)
  clear hg hw2 nA nB
  by_cases h0 : e0 ≠ 0
  · have HE := Lib.hid (k1 h0)
    have HS := Lib.hid (show stp e0 t = (Fr.zero, e0) from stp_bad h0)
    have HW3 := Lib.hid (show Way gw e0 w2 by have := HW2.out; rw [if_pos h0] at this; exact this)
    clear k1 k2 h0
    rw [HE.out]
    go_wp2_with fail
    exact bodyPost_ret (v := .agg #[.bool false, .slice none 0 0, .slice none 0 0]) (by simp [results, Tryz.results176, go_sem, r0, r1, r2]) rfl (by rw [HS.out]; exact ⟨none, 0, none, 0, rfl, Own.nil _ _, Own.nil _ _, (fun _ _ h => by cases h), by repeat (first | (with_reducible exact HG.out) | (with_reducible refine grown_setNewU ?_ (by simp only; omega))), by repeat (first | (with_reducible exact HW3.out) | (with_reducible refine Way.setNe ?_ (by simp only; omega)))⟩)
  · obtain rfl : e0 = 0 := by simpa using h0
    have HE := Lib.hid (k2 rfl)
    have HW3 := Lib.hid (show Way gw t.2 w2 by have := HW2.out; rw [if_neg (by simp)] at this; exact this)
    clear k1 k2 h0
    rw [HE.out]
    go_wp2_with fail
    exact bodyPost_ret (v := .agg #[.bool t.1.neg, .slice A9 t.1.num.length c9, .slice B9 t.1.den.length d9]) (by simp [results, Tryz.results176, go_sem, r0, r1, r2]) rfl (by rw [stp_ok]; exact ⟨A9, c9, B9, d9, rfl, (by refine Own.lower ?_ (show w.heap.size ≤ w.heap.size + 3 by omega); repeat (first | (with_reducible exact P1.out) | refine Own.setBelow ?_ (by simp; try omega) _)), (by refine Own.lower ?_ (show w.heap.size ≤ w.heap.size + 3 by omega); repeat (first | (with_reducible exact P2.out) | refine Own.setBelow ?_ (by simp; try omega) _)), AP.out, by repeat (first | (with_reducible exact HG.out) | (with_reducible refine grown_setNewU ?_ (by simp only; omega))), by repeat (first | (with_reducible exact HW3.out) | (with_reducible refine Way.setNe ?_ (by simp only; omega)))⟩)

end Go.Proofs.YtifonmdcicegdaaGreat

/- gauss: told. -/
namespace Go.Proofs.YtifonmdcicegdaaGreat
open Go Go.RowKit

set_option maxRecDepth 4000 in
set_option maxHeartbeats 2000000 in
theorem told_any (gw : Nat) (e0 : Int) (a b : Fr) (A B C D : Option Addr) (c1 c2 c3 c4 : Nat) (w : World) (hw : Way gw e0 w) :
    Calls Tryz.prog 167 #[.pointer (some ⟨gw, 0, none⟩), .agg #[.bool a.neg, .slice A a.num.length c1, .slice B a.den.length c2], .agg #[.bool b.neg, .slice C b.num.length c3, .slice D b.den.length c4]] w fun e w' => (e0 ≠ 0 → e = .returned (.tuple #[.agg #[.bool false, .slice none 0 0, .slice none 0 0, .bool false, .slice none 0 0, .slice none 0 0], .int .i64 e0])) ∧ (e0 = 0 → e = .returned (.tuple #[.agg #[.bool a.neg, .slice A a.num.length c1, .slice B a.den.length c2, .bool b.neg, .slice C b.num.length c3, .slice D b.den.length c4], .int .i64 0])) ∧ Ext w w' := by
  have hl := hw.lt
  have HW := Lib.hid hw
  clear hw
  by_cases h0 : e0 ≠ 0
  · have hb : (e0 != 0) = true := bne_iff_ne.2 h0
    have g0 := (HW.out.ext ((((Ext.refl w).alloc (.cells #[.bool a.neg, .slice A a.num.length c1, .slice B a.den.length c2] 24)).alloc (.cells #[.bool b.neg, .slice C b.num.length c3, .slice D b.den.length c4] 24)).alloc (.cells #[.bool false, .slice none 0 0, .slice none 0 0, .bool false, .slice none 0 0, .slice none 0 0] 46))).c
    go_enter Tryz.func167, Tryz.ntmps167
    go_wp2_with fail
    go_region
    all_goals
      go_wp2_with fail
      exact bodyPost_ret (v := .tuple #[.agg #[.bool false, .slice none 0 0, .slice none 0 0, .bool false, .slice none 0 0, .slice none 0 0], .int .i64 e0]) (by simp [results, Tryz.results167, go_sem]) rfl ⟨fun _ => rfl, fun h => absurd h h0, by repeat (first | (with_reducible exact Ext.refl w) | (with_reducible refine Ext.alloc ?_ _) | (with_reducible refine Ext.drew ?_) | refine Ext.setCell ?_ (by simp; try omega) _)⟩
  · obtain rfl : e0 = 0 := by simpa using h0
    have hb : ((0 : Int) != 0) = false := rfl
    have g0 := (HW.out.ext ((((Ext.refl w).alloc (.cells #[.bool a.neg, .slice A a.num.length c1, .slice B a.den.length c2] 24)).alloc (.cells #[.bool b.neg, .slice C b.num.length c3, .slice D b.den.length c4] 24)).alloc (.cells #[.bool false, .slice none 0 0, .slice none 0 0, .bool false, .slice none 0 0, .slice none 0 0] 46))).c
    go_enter Tryz.func167, Tryz.ntmps167
    go_wp2_with fail
    exact bodyPost_ret (v := .tuple #[.agg #[.bool a.neg, .slice A a.num.length c1, .slice B a.den.length c2, .bool b.neg, .slice C b.num.length c3, .slice D b.den.length c4], .int .i64 0]) (by simp [results, Tryz.results167, go_sem]) rfl ⟨fun h => absurd rfl h, fun _ => rfl, by repeat (first | (with_reducible exact Ext.refl w) | (with_reducible refine Ext.alloc ?_ _) | (with_reducible refine Ext.drew ?_) | refine Ext.setCell ?_ (by simp; try omega) _)⟩

end Go.Proofs.YtifonmdcicegdaaGreat

