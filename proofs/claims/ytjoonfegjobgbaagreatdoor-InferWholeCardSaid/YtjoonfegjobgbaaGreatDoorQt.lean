/- Texts of this claim, joined: H1 P10 P11 P12 A30 E2 Sh2 H2 E6. -/
import Derived.Shelf.Small.Wraps
import Derived.Ground.MpProg
import Derived.Shelf.Pu.ParseUintPublic10
import Derived.Shelf.Strings.Search2
import Derived.Shelf.Strings.Trim
import Derived.Test.YtjoonfegjobgbaaGreatDoorProg
import Derived.Shelf.Strings.SlTrimAscii
import Derived.Lib.AtoiErrMem
import Derived.WideShapes
import Derived.Test.YtjoonfegjobgbaaGreatDoorQs
set_option linter.unusedVariables false
set_option linter.unusedSimpArgs false
set_option maxRecDepth 100000
namespace Go.Proofs.YtjoonfegjobgbaaGreatDoor
open Go Go.RowKit
theorem calls_st {P : Program} {f : Nat} {ts : List Ty} {pre : El .un → Els ts → Option Prop} {F : Els ts → ByteArray} {W : World} {Z : Nat → Prop} {x : Els ts} {vs : List Value} (h : FnOk P f { q := .un, ps := ts, rs := [.st], fresh := true, pre := pre, post := fun _ x => ((), (F x, ())) }) (hp : holds (pre () x)) (hz : ZOk Z W) (hv : RVs Z W ts x vs) : Calls P f vs.toArray W fun e W' => e = .returned (.string (F x)) ∧ Ext W W' := by
  refine (h.2 Z W 0 vs () x hz hv hp (fun e => by cases e) (fun _ => rfl)).mono ?_
  rintro e w' ⟨v, us, bs, Z', rfl, t1, t2, _, _, _, _, _, t8, _⟩
  have t8 : W.grownBy w' none := t8
  refine ⟨?_, ⟨t8.os, t8.tape, t8.output, t8.size, fun k hk => t8.block k hk (by simp)⟩⟩
  match us, t2 with
  | [u], ⟨b, b', _, h1, h2⟩ =>
    have h1 : RT _ w' .st (F x) [u] ∧ b = [] := h1
    rw [RT] at h1
    have e1 : u = .string (F x) := by simpa using h1.1.1
    rcases t1 with ⟨u', e2, rfl⟩ | ⟨h3, _⟩
    · cases e2; rw [e1]
    · simp at h3
theorem fmt_any {Z : Nat → Prop} (n : Nat) (w : World) (hn : n < 100) (hz : ZOk Z w) : Calls Tryz.prog 186 #[.int .u64 (n : Int), .int .i64 10] w fun e w' => e = .returned (.string (dgB n)) ∧ Ext w w' := by
  refine (calls_st (Z := Z) (x := ((n : Int), (10 : Int), ())) (vs := [.int .u64 (n : Int), .int .i64 10]) fo_sfmt ?_ hz ⟨?_, ?_, trivial⟩).mono ?_
  · show (0 : Int) ≤ (n : Int) ∧ (n : Int) < 100 ∧ (10 : Int) = 10
    omega
  · unfold RV
    rw [if_neg (by decide), RT]
    exact ⟨rfl, Int.le_trans (show IntKind.u64.min ≤ 0 by decide) (by omega), Int.le_trans (show (n : Int) ≤ 100 by omega) (by decide)⟩
  · unfold RV
    rw [if_neg (by decide), RT]
    exact ⟨rfl, show IntKind.i64.min ≤ 10 by decide, show (10 : Int) ≤ IntKind.i64.max by decide⟩
  · rintro e w' ⟨rfl, hx⟩
    exact ⟨rfl, hx⟩
theorem rev_one (A : Option Addr) (c : Nat) (w : World) : Calls Tryz.prog 188 #[.slice A 1 c] w fun e w' => (∃ v, e = .returned v) ∧ w' = w := by
  go_enter Tryz.func188, Tryz.ntmps188
  go_wp2_with fail
  go_loopw [2, 3] (fun i j wr => i = .int .i64 0 ∧ j = .int .i64 0 ∧ wr = w) (fun _ _ _ => 0)
  case atStart => exact ⟨rfl, rfl, rfl⟩
  case round =>
    obtain ⟨rfl, rfl, rfl⟩ := hrel
    go_wp2_with fail
    go_end0
    exact ⟨⟨_, rfl⟩, rfl⟩
theorem join_one (g c : Nat) (s p : ByteArray) (w : World) (hc : w.cell? ⟨g, 0, none⟩ = some (.string s)) : Calls Tryz.prog 117 #[.slice (some ⟨g, 0, none⟩) 1 c, .string p] w fun e w' => e = .returned (.string s) ∧ w' = w := by
  go_enter Tryz.func117, Tryz.ntmps117
  go_wp2_with fail
  go_ret
  exact ⟨rfl, rfl⟩
theorem info_str : (Tryz.prog.info? 9).map (fun i => (i.zero, i.size, i.bytes)) = some (some (.string ⟨#[]⟩), 1, 16) := by kernel_rfl
theorem wpList_appS {w : World} {ops : Array Oper} {rest : List Oper} {o : Oper} {a : Act} {Q : Exit → Act → World → Prop} (hgd : o.guard = none) (s x : Operand)
    (ho : o.op = .call { callee := .builtin .append, args := #[s, x], argTypes := #[72, 72] })
    (hs : a.eval s = .slice none 0 0) (b : Nat) (y : ByteArray) (hx : a.eval x = .slice (some ⟨b, 0, none⟩) 1 1) (hc : w.cell? ⟨b, 0, none⟩ = some (.string y))
    (h : ∀ g c' w', w'.cell? ⟨g, 0, none⟩ = some (.string y) → w.heap.size ≤ g → w.grownBy w' none → wpList Tryz.prog ops Q rest (a.put o.dst (.slice (some ⟨g, 0, none⟩) 1 c')) w') : wpList Tryz.prog ops Q (o :: rest) a w := by
  obtain ⟨i0, hi, hz0, hz1, hz2⟩ := info_parts info_str
  refine wpList_append_own w hgd s x 72 ho w.heap.size 9 i0 (.string ⟨#[]⟩) 1 16 Tryz.underlying72 hi hz0 hz1 hz2 rfl (by decide) _ _ _ hs (World.ownsRow_nil w w.heap.size _ 1) ⟨b, 0, none⟩ 1 1 [.string y] hx rfl
    (fun j u hu => ?_) (fun u hu => ?_) (by unfold maxLen; omega) (by omega) (Nat.le_refl _) ?_
  · match j, hu with
    | 0, hu => cases hu; exact hc
    | j + 1, hu => simp at hu
  · rw [List.mem_singleton] at hu
    subst hu
    rfl
  intro v' w' h2 h3 _
  have h4 := h2
  rcases h2.2 with ⟨_, h1⟩ | ⟨g, cap, cur, rfl, g1, g2, g3, g4, g5, g6⟩
  · simp at h1
  · exact h g cap w' (World.ownsRow.cells h4 (g := g) rfl 0 _ rfl) g1 h3
theorem wd_small {n : Nat} (h0 : n ≠ 0) (hn : n < 4294967296) : (wd n).length = 1 := by
  have h1 : (wd n).length ≤ 1 := wd_len_le n 1 (by show (n : Int) < 4294967296; omega)
  have h2 : (wd n).length ≠ 0 := fun e => h0 (wd_len_zero.1 e)
  omega
theorem nprint_small {Z : Nat → Prop} (A : Option Addr) (c n : Nat) (w : World) (ha : Rd w A c (wd n)) (hn : n < 100) (hz : ZOk Z w) :
    Calls Tryz.prog 150 #[.slice A (wd n).length c] w fun e w' => e = .returned (.tuple #[.string (dgB n), .int .i64 0]) ∧ Ext w w' := by
  have HA := Lib.hid ha
  have HZ := Lib.hid hz
  clear hz
  have hl : (wd n).length ≤ 1 := wd_len_le n 1 (by show (n : Int) < 4294967296; omega)
  clear ha
  go_enter Tryz.func150, Tryz.ntmps150
  go_wp2_with fail
  refine (check_any A _ c w HA.out).mono ?_; rintro e w' ⟨rfl, rfl⟩
  rw [chk_wd n (by omega)]
  by_cases h0 : n = 0
  · subst h0
    have hb : (((wd 0).length : Int) == 0) = true := by rw [wd_zero]; rfl
    go_wp2_with fail
    go_ret2
    exact ⟨rfl, Ext.refl _⟩
  · have h1 := Lib.hid (wd_small h0 (by omega))
    have hb : (((wd n).length : Int) == 0) = false := beq_eq_false_iff_ne.2 (by have := h1.out; omega)
    go_wp2_with fail
    refine (clone_any A _ c _ HA.out (by omega)).mono ?_; rintro e w1 ⟨A1, c1, rfl, k1, k2⟩
    have H1 := Lib.hid k1
    have HX := Lib.hid k2
    clear k1 k2 hb
    go_wp2_with fail
    go_loopg [5, 6] 1 (fun k p x wr => (k = 1 ∧ p = .slice none 0 0 ∧ x = .slice A1 (wd n).length c1 ∧ Hid (Own wr w.heap.size A1 c1 (wd n)) ∧ Hid (Ext w wr)) ∨ (k = 0 ∧ ∃ g cp cx, p = .slice (some ⟨g, 0, none⟩) 1 cp ∧ x = .slice A1 0 cx ∧ Hid (wr.cell? ⟨g, 0, none⟩ = some (.string (dgB n))) ∧ Hid (Ext w wr)))
    case atStart => exact .inl ⟨rfl, rfl, rfl, H1.out, HX.out⟩
    case round =>
      clear H1 HX
      rcases hrel with ⟨hk, rfl, rfl, HO, HX⟩ | ⟨hk, g, cp, cx, rfl, rfl, HC, HX⟩
      · have hb : 0 < (wd n).length := by have := h1.out; omega
        go_wp2_with fail
        refine (small_any A1 n 1000000000 c1 w.heap.size _ HO.out (by omega) (by omega) (by omega) 0 n (Nat.div_eq_of_lt (by omega)) (Nat.mod_eq_of_lt (by omega))).mono ?_; rintro e w2 ⟨rfl, k1, k2⟩
        rw [wd_zero]
        have HX2 := Lib.hid (HX.out.grown k2 (fun b hb => by
          cases A1 with
          | none => cases hb
          | some a => cases hb; exact (HO.out.block).1))
        clear k1 k2
        go_wp2_with fail
        refine (fmt_any n _ hn (HZ.out.ext HX2.out)).mono ?_; rintro e w3 ⟨rfl, hx⟩
        have HX3 := Lib.hid (HX2.out.trans hx)
        clear hx
        go_wp2_with (at_builtin; refine wpList_appS rfl _ _ rfl rfl _ (dgB n) rfl (by simp [go_sem]) ?_; intro g c' w4 hc hg hgr)
        have HX4 := Lib.hid ((HX3.out.alloc _).grownNone hgr)
        have HC := Lib.hid hc
        clear hc hgr
        go_roundg 0
        case measure => omega
        case rel => exact .inr ⟨rfl, g, c', c1, rfl, rfl, HC.out, HX4.out⟩
      · go_wp2_with fail
        refine (rev_one _ _ _).mono ?_; rintro e w5 ⟨⟨v, rfl⟩, rfl⟩
        go_wp2_with fail
        refine (join_one g cp (dgB n) _ _ HC.out).mono ?_; rintro e w6 ⟨rfl, rfl⟩
        go_wp2_with fail
        go_ret2
        exact ⟨rfl, HX.out⟩
def sp_aPrint : Spec := { q := .un, ps := [tW32], rs := [.st, .it .i64], fresh := true, pre := fun _ x => some (nrm x.1 ∧ toN x.1 < 100), post := fun _ x => ((), (dgB (toN x.1), 0, ())) }
theorem dgB_size : ∀ n, n < 100 → (dgB (n : Nat)).size ≤ 2 := by decide +kernel
theorem fo_aPrint : FnOk Tryz.prog 150 sp_aPrint := by
  refine ⟨callFunc_enter Tryz.func150 (by kernel_rfl) rfl, fun Z w gv vs y x hZ hv hp _ _ => ?_⟩
  obtain ⟨xs, u⟩ := x
  match vs, hv with
  | [u], ⟨h1, _⟩ =>
    obtain ⟨p1, p2⟩ : nrm xs ∧ toN xs < 100 := hp
    obtain ⟨n, rfl⟩ := nrm_ex p1
    rw [toN_wd] at p2
    obtain ⟨A, c, rfl, k1, _⟩ := rv_wd h1
    refine (nprint_small A c n w k1 p2 hZ).mono fun e w' ⟨e1, e2⟩ => ?_
    subst e1
    refine told_new (S := sp_aPrint) (r := (dgB (toN (wd n)), 0, ())) (us := [_, _]) (bs := []) rfl rfl (.inr ⟨by simp, rfl⟩) hZ ⟨[], [], rfl, ⟨?_, rfl⟩, [], [], rfl, rq_err (base := w.heap.size) Er.zero, rfl⟩ List.nodup_nil (fun g hg => by simp at hg) e2
    rw [RT, toN_wd]
    exact ⟨rfl, Nat.le_trans (dgB_size n p2) (by decide)⟩
end Go.Proofs.YtjoonfegjobgbaaGreatDoor
namespace Go.Proofs.YtjoonfegjobgbaaGreatDoor
open Go
def sm (q : Rat) : Bool := decide (q.num.natAbs < 4294967296) && decide (q.den < 4294967296)
theorem wd_one_len {n : Nat} (h : n < 4294967296) : (wd n).length ≤ 1 := wd_len_le n 1 (by show (n : Int) < 4294967296; omega)
theorem sm_lng {q : Rat} (h : sm q = true) : ¬ lng q = true := by
  unfold sm at h
  simp only [Bool.and_eq_true, decide_eq_true_eq] at h
  exact lng_of (Nat.le_trans (wd_one_len h.1) (by decide)) (Nat.le_trans (wd_one_len h.2) (by decide))
theorem fchk_s {q : Rat} (h : sm q = true) : fchk (enc q) = 0 := fchk_enc q (sm_lng h)
section
variable {p q r : Rat}
theorem fadd_s (h : (sm p && sm q && sm r) = true) (e : p + q = r) : fadd (enc p) (enc q) = (enc r, 0) := by
  simp only [Bool.and_eq_true] at h
  rw [fadd_enc (sm_lng h.1.1) (sm_lng h.1.2), e, tell_ok (sm_lng h.2)]
theorem fsmall_s {n d : Int} (h0 : d ≠ 0) (h : sm r = true) (e : mkRat (sg (decide (n < 0) != decide (d < 0)) n.natAbs) d.natAbs = r) : fsmall n d = (enc r, 0) := by
  unfold fsmall
  rw [if_neg h0, e, tell_ok (sm_lng h)]
end
def ge (p q : Rat) : Ga := ⟨enc p, enc q⟩
section
variable {a b c d u v x y r i : Rat}
end
end Go.Proofs.YtjoonfegjobgbaaGreatDoor
namespace Go.Proofs.YtjoonfegjobgbaaGreatDoor
theorem both_in {a b : Fr} {r : Rat → Rat → Fr × Int} (wa : a.Wf) (wb : b.Wf) (h : (both a b r).2 = 0) : ∃ p q, a = enc p ∧ b = enc q ∧ ¬ lng p = true ∧ ¬ lng q = true ∧ both a b r = r p q := by
  by_cases hc : fchk2 a b = 0
  · obtain ⟨p, q, rfl, rfl, h1, h2⟩ := fchk2_ok wa wb hc
    exact ⟨p, q, rfl, rfl, h1, h2, both_ok h1 h2⟩
  · rw [both_bad hc] at h
    exact absurd h hc
theorem tell_in {q : Rat} (h : (tell q).2 = 0) : ¬ lng q = true ∧ tell q = (enc q, 0) := by
  by_cases hl : lng q = true
  · unfold tell at h
    rw [if_pos hl] at h
    cases h
  · exact ⟨hl, tell_ok hl⟩
theorem fadd_in {a b : Fr} (wa : a.Wf) (wb : b.Wf) (h : (fadd a b).2 = 0) : ∃ p q, a = enc p ∧ b = enc q ∧ ¬ lng p = true ∧ ¬ lng q = true ∧ ¬ lng (p + q) = true ∧ fadd a b = (enc (p + q), 0) := by
  obtain ⟨p, q, e1, e2, h1, h2, e3⟩ := both_in wa wb h
  have h : (both a b _).2 = 0 := h
  rw [e3] at h
  obtain ⟨h3, e4⟩ := tell_in h
  exact ⟨p, q, e1, e2, h1, h2, h3, e3.trans e4⟩
theorem fmul_enc {p q : Rat} (h : ¬ lng p = true) (k : ¬ lng q = true) : fmul (enc p) (enc q) = tell (p * q) := both_ok h k
theorem fquo_enc {p q : Rat} (h : ¬ lng p = true) (k : ¬ lng q = true) (n : q ≠ 0) : fquo (enc p) (enc q) = tell (p / q) := (both_ok h k).trans (if_neg n)
theorem fsign_in {q : Rat} (h : fsign (enc q) ≠ 0) : q ≠ 0 := fun e => by
  subst e
  exact h (by decide +kernel)
theorem field_law {a b c : Fr} (wa : a.Wf) (wb : b.Wf) (wc : c.Wf) (h1 : (fadd a b).2 = 0) (h2 : (fadd (fadd a b).1 c).2 = 0) (h3 : (fadd b c).2 = 0) (h4 : (fmul a (fadd b c).1).2 = 0) (h5 : (fmul a b).2 = 0) (h6 : (fmul a c).2 = 0) (h7 : (fneg b).2 = 0) :
    (fadd a b).1 = (fadd b a).1 ∧ (fadd (fadd a b).1 c).1 = (fadd a (fadd b c).1).1 ∧ (fmul a b).1 = (fmul b a).1 ∧ (fmul a (fadd b c).1).1 = (fadd (fmul a b).1 (fmul a c).1).1 ∧ (fsub (fadd a b).1 b).1 = a ∧ (fadd (fadd a b).1 (fneg b).1).1 = a ∧
      (fsign b ≠ 0 → fquo (fmul a b).1 b = (a, 0)) := by
  obtain ⟨p, q, rfl, rfl, lp, lq, l1, e1⟩ := fadd_in wa wb h1
  obtain ⟨q', r, eq, rfl, _, lr, l3, e3⟩ := fadd_in wb wc h3
  cases enc_inj eq
  rw [e1] at h2 ⊢
  rw [e3] at h4 ⊢
  dsimp only at h2 h4 ⊢
  rw [fadd_enc l1 lr] at h2 ⊢
  rw [fmul_enc lp l3] at h4 ⊢
  rw [fmul_enc lp lq] at h5 ⊢
  rw [fmul_enc lp lr] at h6 ⊢
  obtain ⟨l2, e2⟩ := tell_in h2
  obtain ⟨l4, e4⟩ := tell_in h4
  obtain ⟨l5, e5⟩ := tell_in h5
  obtain ⟨l6, e6⟩ := tell_in h6
  rw [e2, e4, e5, e6, fneg_enc lq]
  dsimp only
  have ln : ¬ lng (-q) = true := by rw [lng_negQ]; exact lq
  refine ⟨?_, ?_, ?_, ?_, ?_, ?_, fun hs => ?_⟩
  · rw [fadd_enc lq lp, show q + p = p + q by grind, tell_ok l1]
  · rw [fadd_enc lp l3, show p + (q + r) = p + q + r by grind, tell_ok l2]
  · rw [fmul_enc lq lp, show q * p = p * q by grind, tell_ok l5]
  · rw [fadd_enc l5 l6, show p * q + p * r = p * (q + r) by grind, tell_ok l4]
  · rw [fsub_enc l1 lq, show p + q - q = p by grind, tell_ok lp]
  · rw [fadd_enc l1 ln, show p + q + -q = p by grind, tell_ok lp]
  · have n := fsign_in hs
    rw [fquo_enc l5 lq n, show p * q / q = p by grind, tell_ok lp]
section
variable {m n : Nat} {p q a b c d : Rat}
theorem sq_nonneg (x : Rat) : 0 ≤ x * x := by
  rcases Rat.le_total (a := 0) (b := x) with h | h
  · exact Rat.mul_nonneg h h
  · have : 0 ≤ -x := by grind
    have := Rat.mul_nonneg this this
    grind
theorem norm_zero {x y : Rat} (h : x * x + y * y = 0) : x = 0 ∧ y = 0 := by
  have h1 := sq_nonneg x
  have h2 := sq_nonneg y
  have e1 : x * x = 0 := by grind
  have e2 : y * y = 0 := by grind
  exact ⟨by rcases Rat.mul_eq_zero.1 e1 with e | e <;> exact e, by rcases Rat.mul_eq_zero.1 e2 with e | e <;> exact e⟩
end
end Go.Proofs.YtjoonfegjobgbaaGreatDoor
namespace Go.Proofs.YtjoonfegjobgbaaGreatDoor
open Go Go.RowKit
def p_sure (p : Prim) : Prim := fun az O n => match p az O n with
  | some (c, G) => match G.ef with
    | ⟨.c (.sc (.bool b)), ob, k⟩ => some (some (oc c (b = true)), .e ⟨.c .tt, ob, k⟩)
    | _ => none
  | none => none
theorem Sim.tt {gp : Option Nat} {Z0 : Nat → Prop} {w0 : Base} {w : World} {N : Nat} {d : Option Nat} {D : Nat → Prop} {c : Cf} {T : Nat → Option AV} {O : Store} {tm : Array Value} (h : Sim gp Z0 w0 N D c (upT T d (.c (.sc (.bool true)))) O tm w) : Sim gp Z0 w0 N D c (upT T d (.c .tt)) O tm w := by
  cases d with
  | none => exact h
  | some d =>
    exact { h with
      tmp := fun t v hv => by
        have hv : (bif Nat.beq d t then some (.c .tt) else T t) = some v := hv
        cases e : Nat.beq d t with
        | true =>
          rw [e] at hv
          cases hv
          obtain ⟨u, h1, h2⟩ := h.tmp t (.c (.sc (.bool true))) (by show (bif Nat.beq d t then _ else _) = _; rw [e]; rfl)
          exact ⟨u, h1, h2.1⟩
        | false =>
          rw [e] at hv
          exact h.tmp t v (by show (bif Nat.beq d t then _ else _) = _; rw [e]; exact hv) }
theorem pr_sure {P : Program} {f : Nat} {p : Prim} (hp : PrimOk P f p) : PrimOk P f (p_sure p) := by
  refine ⟨hp.1, fun gp Z0 w0 N D c T O O' a w xs vs n cd G hS hO hl hv hG hD hc => ?_⟩
  unfold p_sure at hG
  cases h1 : p xs O' n with
  | none => rw [h1] at hG; cases hG
  | some q =>
    obtain ⟨c1, G1⟩ := q
    rw [h1] at hG
    dsimp only at hG
    split at hG
    · rename_i b ob k hef
      cases hG
      have hc : oc c1 (b = true) := hc
      have hb : b = true ∧ holds c1 := by
        cases c1 with
        | none => exact ⟨hc, trivial⟩
        | some X => exact ⟨hc.2, hc.1⟩
      obtain ⟨rfl, hc1⟩ := hb
      have := hp.2 gp Z0 w0 N D c T O O' a w xs vs n c1 G1 hS hO hl hv h1 (by rw [hef]; exact hD) hc1
      rw [hef] at this
      refine this.mono ?_
      rintro e w' ⟨v, c', rfl, h2⟩
      exact ⟨v, c', rfl, fun d hd => Sim.tt (h2 d hd)⟩
    · cases hG
def sP (f : Fr) : Prop := fchk f = 0 ∧ toN f.num < 100 ∧ toN f.den < 100
def txR (f : Fr) : ByteArray := if toN f.den = 1 then (if f.neg = true then ⟨#[45]⟩ ++ dgB (toN f.num) else dgB (toN f.num)) else (if f.neg = true then ⟨#[45]⟩ ++ dgB (toN f.num) else dgB (toN f.num)) ++ (⟨#[47]⟩ ++ dgB (toN f.den))
theorem nrm_1 : nrm [1] := by
  rw [← wd_one]
  exact nrm_wd 1
theorem toN_1 : toN [1] = 1 := by rw [← wd_one, toN_wd]
theorem nrm_of {f : Fr} (wf : f.Wf) (h : fchk f = 0) : nrm f.num ∧ nrm f.den := by
  obtain ⟨q, rfl, _⟩ := fchk_ok wf h
  exact ⟨nrm_wd _, nrm_wd _⟩
theorem cmp1_T {n : Nat} (h : ((cmp n (toN [1]) : Int) != 0) = true) : n ≠ 1 := fun e => by
  rw [e, toN_1] at h
  exact absurd h (by decide)
theorem cmp1_F {n : Nat} (h : ((cmp n (toN [1]) : Int) != 0) = false) : n = 1 := by
  rw [toN_1] at h
  have h := bne_eq_false_iff_eq.1 h
  unfold cmp at h
  split at h
  · cases h
  · split at h
    · cases h
    · omega
noncomputable def sp_rPrint : Spec := { q := .un, ps := [tR], rs := [.st, .it .i64], fresh := true, pre := fun _ x => some (sP (toFr x.1)), post := fun _ x => ((), (txR (toFr x.1), 0, ())) }
noncomputable def iv_rPrint (y : El sp_rPrint.q) (x : Els sp_rPrint.ps) : Nat → Option Inv := fun _ => none
noncomputable abbrev c_rPrint : Cfg := cfgS (Tryz.f105).ntmps false [(24, sp_rCheck.prim), (150, sp_aPrint.prim), (84, sp_aCmp.prim)]
def F_rPrint (y : El sp_rPrint.q) (x : Els sp_rPrint.ps) : Prop :=
  ∀ (r : Ro [Ty.it IntKind.i64]), r = ((), fchk (toFr x.1), ()) → ((r.2.1 != (0 : Int)) = true → ((⟨#[]⟩ : ByteArray), r.2) = (txR (toFr x.1), (0 : El (Ty.it IntKind.i64)), ())) ∧ ((r.2.1 != (0 : Int)) = false → (x.1.2.1 = wd (toN x.1.2.1) ∧ toN x.1.2.1 < (100 : Nat)) ∧ ∀ (r : Ro [Ty.st, Ty.it IntKind.i64]), r = ((), dgB (toN x.1.2.1), (0 : El (Ty.it IntKind.i64)), ()) → (x.1.1 = true → (⟨#[(45 : UInt8)]⟩ : ByteArray).size + ByteArray.size r.2.1 ≤ (9223372036854775807 : Nat) ∧ (x.1.2.2.1 = wd (toN x.1.2.2.1) ∧ [(1 : Int)] = wd (toN [(1 : Int)])) ∧ ∀ (r_1 : Ro [Ty.it IntKind.i64]), r_1 = ((), cmp (toN x.1.2.2.1) (toN [(1 : Int)]), ()) → ((r_1.2.1 != (0 : Int)) = true → (x.1.2.2.1 = wd (toN x.1.2.2.1) ∧ toN x.1.2.2.1 < (100 : Nat)) ∧ ∀ (r_2 : Ro [Ty.st, Ty.it IntKind.i64]), r_2 = ((), dgB (toN x.1.2.2.1), (0 : El (Ty.it IntKind.i64)), ()) → (⟨#[(47 : UInt8)]⟩ : ByteArray).size + ByteArray.size r_2.2.1 ≤ (9223372036854775807 : Nat) ∧ ((⟨#[(45 : UInt8)]⟩ : ByteArray) ++ r.2.1).size + ((⟨#[(47 : UInt8)]⟩ : ByteArray) ++ r_2.2.1).size ≤ (9223372036854775807 : Nat) ∧ ((⟨#[(45 : UInt8)]⟩ : ByteArray) ++ r.2.1 ++ ((⟨#[(47 : UInt8)]⟩ : ByteArray) ++ r_2.2.1), (0 : Int), ()) = (txR (toFr x.1), (0 : El (Ty.it IntKind.i64)), ())) ∧ ((r_1.2.1 != (0 : Int)) = false → ((⟨#[(45 : UInt8)]⟩ : ByteArray) ++ r.2.1, (0 : Int), ()) = (txR (toFr x.1), (0 : El (Ty.it IntKind.i64)), ()))) ∧ (x.1.1 = false → (x.1.2.2.1 = wd (toN x.1.2.2.1) ∧ [(1 : Int)] = wd (toN [(1 : Int)])) ∧ ∀ (r_1 : Ro [Ty.it IntKind.i64]), r_1 = ((), cmp (toN x.1.2.2.1) (toN [(1 : Int)]), ()) → ((r_1.2.1 != (0 : Int)) = true → (x.1.2.2.1 = wd (toN x.1.2.2.1) ∧ toN x.1.2.2.1 < (100 : Nat)) ∧ ∀ (r_2 : Ro [Ty.st, Ty.it IntKind.i64]), r_2 = ((), dgB (toN x.1.2.2.1), (0 : El (Ty.it IntKind.i64)), ()) → (⟨#[(47 : UInt8)]⟩ : ByteArray).size + ByteArray.size r_2.2.1 ≤ (9223372036854775807 : Nat) ∧ ByteArray.size r.2.1 + ((⟨#[(47 : UInt8)]⟩ : ByteArray) ++ r_2.2.1).size ≤ (9223372036854775807 : Nat) ∧ (r.2.1 ++ ((⟨#[(47 : UInt8)]⟩ : ByteArray) ++ r_2.2.1), (0 : Int), ()) = (txR (toFr x.1), (0 : El (Ty.it IntKind.i64)), ())) ∧ ((r_1.2.1 != (0 : Int)) = false → (r.2.1, (0 : Int), ()) = (txR (toFr x.1), (0 : El (Ty.it IntKind.i64)), ()))))
theorem w_rPrint (y : El sp_rPrint.q) (x : Els sp_rPrint.ps) : aW c_rPrint (iv_rPrint y x) Tryz.f105 sp_rPrint y x = F_rPrint y x := by kernel_rfl
theorem m_rPrint (y : El (.un)) (x : Els [tR]) (h2 : wfE (.un) y) (h3 : wfEs [tR] x) (h4 : sP (toFr x.1)) : F_rPrint y x := by
  unfold F_rPrint
  have q : sP (toFr x.1) := h4
  obtain ⟨q0, q1, q2⟩ := q
  obtain ⟨n1, n2⟩ := nrm_of (wf_fr h3.1) q0
  have z1 := dgB_size _ q1
  have z2 := dgB_size _ q2
  have z3 : (⟨#[45]⟩ : ByteArray).size = 1 := rfl
  have z4 : (⟨#[47]⟩ : ByteArray).size = 1 := rfl
  rintro _ rfl
  refine ⟨fun h => absurd q0 (neT h), fun _ => ⟨⟨n1, q1⟩, ?_⟩⟩
  rintro _ rfl
  refine ⟨fun hn => ⟨?_, ⟨n2, nrm_1⟩, ?_⟩, fun hn => ⟨⟨n2, nrm_1⟩, ?_⟩⟩
  · show (⟨#[45]⟩ : ByteArray).size + (dgB (toN (toFr x.1).num)).size ≤ _
    omega
  · rintro _ rfl
    refine ⟨fun hd => ⟨⟨n2, q2⟩, ?_⟩, fun hd => ?_⟩
    · have hd := cmp1_T hd
      rintro _ rfl
      refine ⟨?_, ?_, ?_⟩
      · show (⟨#[47]⟩ : ByteArray).size + (dgB (toN (toFr x.1).den)).size ≤ _
        omega
      · show ((⟨#[45]⟩ : ByteArray) ++ dgB (toN (toFr x.1).num)).size + ((⟨#[47]⟩ : ByteArray) ++ dgB (toN (toFr x.1).den)).size ≤ _
        rw [ByteArray.size_append, ByteArray.size_append]
        omega
      · unfold txR
        rw [if_neg hd, if_pos (show (toFr x.1).neg = true from hn)]
    · have hd := cmp1_F hd
      unfold txR
      rw [if_pos hd, if_pos (show (toFr x.1).neg = true from hn)]
  · have hn' : ¬ (toFr x.1).neg = true := fun e => by
      have hn : (toFr x.1).neg = false := hn
      rw [hn] at e
      cases e
    rintro _ rfl
    refine ⟨fun hd => ⟨⟨n2, q2⟩, ?_⟩, fun hd => ?_⟩
    · have hd := cmp1_T hd
      rintro _ rfl
      refine ⟨?_, ?_, ?_⟩
      · show (⟨#[47]⟩ : ByteArray).size + (dgB (toN (toFr x.1).den)).size ≤ _
        omega
      · show (dgB (toN (toFr x.1).num)).size + ((⟨#[47]⟩ : ByteArray) ++ dgB (toN (toFr x.1).den)).size ≤ _
        rw [ByteArray.size_append]
        omega
      · unfold txR
        rw [if_neg hd, if_neg hn']
    · have hd := cmp1_F hd
      unfold txR
      rw [if_pos hd, if_neg hn']
theorem fo_rPrint : FnOk Tryz.prog 105 sp_rPrint := fnOk_of (C := c_rPrint) iv_rPrint Tryz.func105 rfl (by kernel_rfl) tys_ok (prims_cons (spec_prim fo_rCheck) (prims_cons (spec_prim fo_aPrint) (prims_cons (spec_prim fo_aCmp) prims_nil))) mixed_ (Nat.le_refl _) rfl fun y x h1 h2 h3 h4 =>
  Eq.mpr (w_rPrint y x) (m_rPrint y x h2 h3 h4)
end Go.Proofs.YtjoonfegjobgbaaGreatDoor
namespace Go.Proofs.YtjoonfegjobgbaaGreatDoor
open Go.Shelf
def Sh.lays103_ren : Go.Shelf.Ren := ⟨fun | 103 => 132 | 210 => 172 | 206 => 204 | n => n, fun | 9 => 9 | 4 => 4 | 24 => 139 | 3 => 3 | n => n, fun | n => n⟩
theorem Sh.lays103 : Go.Proofs.Lays.n103 Tryz.prog Sh.lays103_ren := {
  mixed := by kernel_rfl
  f103 := Tryz.func132.trans (congrArg some (by kernel_rfl))
  f206 := Tryz.func204.trans (congrArg some (by kernel_rfl))
  f210 := Tryz.func172.trans (congrArg some (by kernel_rfl))
  t3 := Tryz.underlying3
  a3 := Tryz.isAgg3
  z3 := Tryz.sizeOf3
  v3 := Tryz.zeroValue3
  t4 := Tryz.underlying4
  a4 := Tryz.isAgg4
  z4 := Tryz.sizeOf4
  v4 := Tryz.zeroValue4
  t9 := Tryz.underlying9
  a9 := Tryz.isAgg9
  z9 := Tryz.sizeOf9
  v9 := Tryz.zeroValue9
  t24 := Tryz.underlying139
  a24 := Tryz.isAgg139
  z24 := Tryz.sizeOf139
  v24 := Tryz.zeroValue139 }
def Sh.lays160_ren : Go.Shelf.Ren := ⟨fun | 160 => 173 | 232 => 206 | 231 => 205 | 227 => 207 | 234 => 209 | 233 => 208 | 236 => 211 | 235 => 210 | 228 => 238 | 271 => 241 | 151 => 240 | 197 => 239 | 120 => 263 | 152 => 262 | 260 => 261 | 137 => 269 | 119 => 270 | 224 => 221 | 225 => 220 | 217 => 219 | 266 => 246 | n => n, fun | 9 => 9 | 4 => 4 | 3 => 3 | 5 => 5 | 117 => 198 | 116 => 197 | 0 => 0 | 124 => 201 | 21 => 21 | 105 => 223 | 46 => 150 | 119 => 250 | 139 => 253 | 138 => 252 | n => n, fun | 3 => 4 | 4 => 5 | n => n⟩
theorem Sh.lays160 : Go.Proofs.Lays.n160 Tryz.prog Sh.lays160_ren := {
  mixed := by kernel_rfl
  f119 := Tryz.func270.trans (congrArg some (by kernel_rfl))
  f120 := Tryz.func263.trans (congrArg some (by kernel_rfl))
  f137 := Tryz.func269.trans (congrArg some (by kernel_rfl))
  f151 := Tryz.func240.trans (congrArg some (by kernel_rfl))
  f152 := Tryz.func262.trans (congrArg some (by kernel_rfl))
  f160 := Tryz.func173.trans (congrArg some (by kernel_rfl))
  f197 := Tryz.func239.trans (congrArg some (by kernel_rfl))
  f217 := Tryz.func219.trans (congrArg some (by kernel_rfl))
  f224 := Tryz.func221.trans (congrArg some (by kernel_rfl))
  f225 := Tryz.func220.trans (congrArg some (by kernel_rfl))
  f227 := Tryz.func207.trans (congrArg some (by kernel_rfl))
  f228 := Tryz.func238.trans (congrArg some (by kernel_rfl))
  f231 := Tryz.func205.trans (congrArg some (by kernel_rfl))
  f232 := Tryz.func206.trans (congrArg some (by kernel_rfl))
  f233 := Tryz.func208.trans (congrArg some (by kernel_rfl))
  f234 := Tryz.func209.trans (congrArg some (by kernel_rfl))
  f235 := Tryz.func210.trans (congrArg some (by kernel_rfl))
  f236 := Tryz.func211.trans (congrArg some (by kernel_rfl))
  f260 := Tryz.func261.trans (congrArg some (by kernel_rfl))
  f266 := Tryz.func246.trans (congrArg some (by kernel_rfl))
  f271 := Tryz.func241.trans (congrArg some (by kernel_rfl))
  t0 := Tryz.underlying0
  a0 := Tryz.isAgg0
  z0 := Tryz.sizeOf0
  v0 := Tryz.zeroValue0
  t3 := Tryz.underlying3
  a3 := Tryz.isAgg3
  z3 := Tryz.sizeOf3
  v3 := Tryz.zeroValue3
  t4 := Tryz.underlying4
  a4 := Tryz.isAgg4
  z4 := Tryz.sizeOf4
  v4 := Tryz.zeroValue4
  t5 := Tryz.underlying5
  a5 := Tryz.isAgg5
  z5 := Tryz.sizeOf5
  v5 := Tryz.zeroValue5
  t9 := Tryz.underlying9
  a9 := Tryz.isAgg9
  z9 := Tryz.sizeOf9
  v9 := Tryz.zeroValue9
  t21 := Tryz.underlying21
  a21 := Tryz.isAgg21
  z21 := Tryz.sizeOf21
  v21 := Tryz.zeroValue21
  t46 := Tryz.underlying150
  a46 := Tryz.isAgg150
  z46 := Tryz.sizeOf150
  v46 := Tryz.zeroValue150
  t105 := Tryz.underlying223
  a105 := Tryz.isAgg223
  z105 := Tryz.sizeOf223
  v105 := Tryz.zeroValue223
  t116 := Tryz.underlying197
  a116 := Tryz.isAgg197
  z116 := Tryz.sizeOf197
  t117 := Tryz.underlying198
  a117 := Tryz.isAgg198
  z117 := Tryz.sizeOf198
  v117 := Tryz.zeroValue198
  t119 := Tryz.underlying250
  a119 := Tryz.isAgg250
  z119 := Tryz.sizeOf250
  t124 := Tryz.underlying201
  a124 := Tryz.isAgg201
  z124 := Tryz.sizeOf201
  v124 := Tryz.zeroValue201
  t138 := Tryz.underlying252
  a138 := Tryz.isAgg252
  z138 := Tryz.sizeOf252
  v138 := Tryz.zeroValue252
  t139 := Tryz.underlying253
  a139 := Tryz.isAgg253
  z139 := Tryz.sizeOf253
  v139 := Tryz.zeroValue253
  g3 := by kernel_rfl
  g4 := by kernel_rfl }
def Sh.lays219_ren : Go.Shelf.Ren := ⟨fun | 219 => 192 | 217 => 219 | 225 => 220 | 224 => 221 | 267 => 222 | 266 => 246 | 314 => 247 | n => n, fun | 9 => 9 | 3 => 3 | 4 => 4 | 5 => 5 | 46 => 150 | 146 => 227 | 51 => 46 | n => n, fun | 1 => 0 | n => n⟩
theorem Sh.lays219 : Go.Proofs.Lays.n219 Tryz.prog Sh.lays219_ren := {
  mixed := by kernel_rfl
  f217 := Tryz.func219.trans (congrArg some (by kernel_rfl))
  f219 := Tryz.func192.trans (congrArg some (by kernel_rfl))
  f224 := Tryz.func221.trans (congrArg some (by kernel_rfl))
  f225 := Tryz.func220.trans (congrArg some (by kernel_rfl))
  f266 := Tryz.func246.trans (congrArg some (by kernel_rfl))
  f267 := Tryz.func222.trans (congrArg some (by kernel_rfl))
  f314 := Tryz.func247.trans (congrArg some (by kernel_rfl))
  t3 := Tryz.underlying3
  a3 := Tryz.isAgg3
  z3 := Tryz.sizeOf3
  v3 := Tryz.zeroValue3
  t4 := Tryz.underlying4
  a4 := Tryz.isAgg4
  z4 := Tryz.sizeOf4
  v4 := Tryz.zeroValue4
  t5 := Tryz.underlying5
  a5 := Tryz.isAgg5
  z5 := Tryz.sizeOf5
  v5 := Tryz.zeroValue5
  t9 := Tryz.underlying9
  a9 := Tryz.isAgg9
  z9 := Tryz.sizeOf9
  v9 := Tryz.zeroValue9
  t46 := Tryz.underlying150
  a46 := Tryz.isAgg150
  z46 := Tryz.sizeOf150
  v46 := Tryz.zeroValue150
  t51 := Tryz.underlying46
  a51 := Tryz.isAgg46
  z51 := Tryz.sizeOf46
  v51 := Tryz.zeroValue46
  t146 := Tryz.underlying227
  a146 := Tryz.isAgg227
  z146 := Tryz.sizeOf227
  v146 := Tryz.zeroValue227
  g1 := by kernel_rfl }
def Sh.laysPu14_ren : Go.Shelf.Ren := ⟨fun | 14 => 174 | 16 => 212 | 17 => 203 | 19 => 242 | 20 => 243 | 21 => 234 | 22 => 235 | 23 => 236 | 24 => 237 | 25 => 259 | 27 => 118 | 26 => 260 | 28 => 165 | 29 => 201 | 30 => 229 | 31 => 230 | 32 => 231 | 33 => 232 | 35 => 255 | 34 => 254 | 36 => 256 | 37 => 257 | 38 => 258 | 39 => 267 | 40 => 268 | n => n, fun | 9 => 9 | 3 => 3 | 22 => 146 | 24 => 167 | 25 => 173 | 4 => 4 | 34 => 217 | 5 => 5 | 36 => 150 | 37 => 162 | 0 => 0 | 39 => 220 | 21 => 21 | 44 => 242 | 47 => 191 | 50 => 249 | 48 => 247 | 2 => 2 | 52 => 212 | 55 => 215 | 59 => 236 | 60 => 46 | 20 => 20 | 61 => 237 | 65 => 255 | 66 => 256 | 67 => 170 | n => n, fun | 0 => 2 | 1 => 3 | 2 => 1 | 3 => 6 | 4 => 7 | n => n⟩
theorem Sh.laysPu14 : Go.Proofs.LaysPu.n14 Tryz.prog Sh.laysPu14_ren := {
  mixed := by kernel_rfl
  f14 := Tryz.func174.trans (congrArg some (by kernel_rfl))
  f16 := Tryz.func212.trans (congrArg some (by kernel_rfl))
  f17 := Tryz.func203.trans (congrArg some (by kernel_rfl))
  f19 := Tryz.func242.trans (congrArg some (by kernel_rfl))
  f20 := Tryz.func243.trans (congrArg some (by kernel_rfl))
  f21 := Tryz.func234.trans (congrArg some (by kernel_rfl))
  f22 := Tryz.func235.trans (congrArg some (by kernel_rfl))
  f23 := Tryz.func236.trans (congrArg some (by kernel_rfl))
  f24 := Tryz.func237.trans (congrArg some (by kernel_rfl))
  f25 := Tryz.func259.trans (congrArg some (by kernel_rfl))
  f26 := Tryz.func260.trans (congrArg some (by kernel_rfl))
  f27 := Tryz.func118.trans (congrArg some (by kernel_rfl))
  f28 := Tryz.func165.trans (congrArg some (by kernel_rfl))
  f29 := Tryz.func201.trans (congrArg some (by kernel_rfl))
  f30 := Tryz.func229.trans (congrArg some (by kernel_rfl))
  f31 := Tryz.func230.trans (congrArg some (by kernel_rfl))
  f32 := Tryz.func231.trans (congrArg some (by kernel_rfl))
  f33 := Tryz.func232.trans (congrArg some (by kernel_rfl))
  f34 := Tryz.func254.trans (congrArg some (by kernel_rfl))
  f35 := Tryz.func255.trans (congrArg some (by kernel_rfl))
  f36 := Tryz.func256.trans (congrArg some (by kernel_rfl))
  f37 := Tryz.func257.trans (congrArg some (by kernel_rfl))
  f38 := Tryz.func258.trans (congrArg some (by kernel_rfl))
  f39 := Tryz.func267.trans (congrArg some (by kernel_rfl))
  f40 := Tryz.func268.trans (congrArg some (by kernel_rfl))
  t0 := Tryz.underlying0
  a0 := Tryz.isAgg0
  z0 := Tryz.sizeOf0
  v0 := Tryz.zeroValue0
  i0 := by kernel_rfl
  t2 := Tryz.underlying2
  a2 := Tryz.isAgg2
  z2 := Tryz.sizeOf2
  v2 := Tryz.zeroValue2
  i2 := by kernel_rfl
  t3 := Tryz.underlying3
  a3 := Tryz.isAgg3
  z3 := Tryz.sizeOf3
  v3 := Tryz.zeroValue3
  i3 := by kernel_rfl
  t4 := Tryz.underlying4
  a4 := Tryz.isAgg4
  z4 := Tryz.sizeOf4
  v4 := Tryz.zeroValue4
  i4 := by kernel_rfl
  t5 := Tryz.underlying5
  a5 := Tryz.isAgg5
  z5 := Tryz.sizeOf5
  v5 := Tryz.zeroValue5
  i5 := by kernel_rfl
  t9 := Tryz.underlying9
  a9 := Tryz.isAgg9
  z9 := Tryz.sizeOf9
  v9 := Tryz.zeroValue9
  i9 := by kernel_rfl
  t20 := Tryz.underlying20
  a20 := Tryz.isAgg20
  z20 := Tryz.sizeOf20
  v20 := Tryz.zeroValue20
  i20 := by kernel_rfl
  t21 := Tryz.underlying21
  a21 := Tryz.isAgg21
  z21 := Tryz.sizeOf21
  v21 := Tryz.zeroValue21
  i21 := by kernel_rfl
  t22 := Tryz.underlying146
  a22 := Tryz.isAgg146
  z22 := Tryz.sizeOf146
  v22 := Tryz.zeroValue146
  i22 := by kernel_rfl
  t24 := Tryz.underlying167
  a24 := Tryz.isAgg167
  z24 := Tryz.sizeOf167
  v24 := Tryz.zeroValue167
  i24 := by kernel_rfl
  t25 := Tryz.underlying173
  a25 := Tryz.isAgg173
  z25 := Tryz.sizeOf173
  v25 := Tryz.zeroValue173
  i25 := by kernel_rfl
  t34 := Tryz.underlying217
  a34 := Tryz.isAgg217
  z34 := Tryz.sizeOf217
  v34 := Tryz.zeroValue217
  i34 := by kernel_rfl
  c34 := by kernel_rfl
  t36 := Tryz.underlying150
  a36 := Tryz.isAgg150
  z36 := Tryz.sizeOf150
  v36 := Tryz.zeroValue150
  i36 := by kernel_rfl
  t37 := Tryz.underlying162
  a37 := Tryz.isAgg162
  z37 := Tryz.sizeOf162
  v37 := Tryz.zeroValue162
  i37 := by kernel_rfl
  t39 := Tryz.underlying220
  a39 := Tryz.isAgg220
  z39 := Tryz.sizeOf220
  v39 := Tryz.zeroValue220
  i39 := by kernel_rfl
  t44 := Tryz.underlying242
  a44 := Tryz.isAgg242
  z44 := Tryz.sizeOf242
  v44 := Tryz.zeroValue242
  i44 := by kernel_rfl
  t47 := Tryz.underlying191
  a47 := Tryz.isAgg191
  z47 := Tryz.sizeOf191
  v47 := Tryz.zeroValue191
  i47 := by kernel_rfl
  t48 := Tryz.underlying247
  a48 := Tryz.isAgg247
  z48 := Tryz.sizeOf247
  v48 := Tryz.zeroValue247
  i48 := by kernel_rfl
  t50 := Tryz.underlying249
  a50 := Tryz.isAgg249
  z50 := Tryz.sizeOf249
  v50 := Tryz.zeroValue249
  i50 := by kernel_rfl
  t52 := Tryz.underlying212
  a52 := Tryz.isAgg212
  z52 := Tryz.sizeOf212
  v52 := Tryz.zeroValue212
  i52 := by kernel_rfl
  t55 := Tryz.underlying215
  a55 := Tryz.isAgg215
  z55 := Tryz.sizeOf215
  v55 := Tryz.zeroValue215
  i55 := by kernel_rfl
  t59 := Tryz.underlying236
  a59 := Tryz.isAgg236
  z59 := Tryz.sizeOf236
  v59 := Tryz.zeroValue236
  i59 := by kernel_rfl
  t60 := Tryz.underlying46
  a60 := Tryz.isAgg46
  z60 := Tryz.sizeOf46
  v60 := Tryz.zeroValue46
  i60 := by kernel_rfl
  t61 := Tryz.underlying237
  a61 := Tryz.isAgg237
  z61 := Tryz.sizeOf237
  t65 := Tryz.underlying255
  a65 := Tryz.isAgg255
  z65 := Tryz.sizeOf255
  v65 := Tryz.zeroValue255
  i65 := by kernel_rfl
  t66 := Tryz.underlying256
  a66 := Tryz.isAgg256
  z66 := Tryz.sizeOf256
  v66 := Tryz.zeroValue256
  i66 := by kernel_rfl
  t67 := Tryz.underlying170
  a67 := Tryz.isAgg170
  z67 := Tryz.sizeOf170
  v67 := Tryz.zeroValue170
  i67 := by kernel_rfl
  g0 := by kernel_rfl
  m0 := by kernel_rfl
  g1 := by kernel_rfl
  m1 := by kernel_rfl
  g2 := by kernel_rfl
  m2 := by kernel_rfl
  g3 := by kernel_rfl
  m3 := by kernel_rfl
  g4 := by kernel_rfl
  m4 := by kernel_rfl }
open Go.RowKit in
theorem Sh.strings_CutPrefix (s p : ByteArray) (w : World) :
    Calls Tryz.prog 132 #[.string s, .string p] w fun e w' => e = .returned (.tuple #[.string ⟨(Lib.trimPrefix s.data.toList p.data.toList).toArray⟩, .bool (Lib.hasPrefix s.data.toList p.data.toList)]) ∧ w' = w := Any.strings_CutPrefix Sh.lays103 s p w
open Go.RowKit Go.Lib in
theorem Sh.stringslite_Index_one (s : ByteArray) (c : UInt8) (w : World) :
    Calls Tryz.prog 192 #[.string s, .string ⟨#[c]⟩] w fun e w' => e = .returned (.int .i64 (Lib.indexByte s.data.toList c)) ∧ w' = w := Any.stringslite_Index_one Sh.lays219 s c w
open Go.RowKit in
theorem Sh.strconv_ParseUint_10_at32_ok (s : ByteArray) (hmax : s.size ≤ 9223372036854775806) (u : Nat) (h : Lib.parseUintB 32 s.data.toList = .ok u) (w : World) :
    Calls Tryz.prog 174 #[.string s, .int .i64 10, .int .i64 32] w fun e w' => e = .returned (.tuple #[.int .u64 u, .nilIface]) ∧ (w' = w ∨ w' = Lib.bytesWorld w 5 s) := Any.strconv_ParseUint_10_at32_ok Sh.laysPu14 s hmax u h w
open Go.RowKit in
theorem Sh.strings_Trim_set (s cutset : ByteArray) (w : World) (hs : s.size ≤ 9223372036854775807) (hcs : cutset.size < 4294967281) (hascii : ∀ (j : Nat) b, cutset.data.toList[j]? = some b → b.toNat < 128) :
    Calls Tryz.prog 173 #[.string s, .string cutset] w fun e w' => e = .returned (.string ⟨(Lib.trimS s.data.toList cutset.data.toList).toArray⟩) ∧ Below w.heap.size w w' := Any.strings_Trim_laid Sh.lays160 (by kernel_rfl) s cutset w hs hcs hascii
end Go.Proofs.YtjoonfegjobgbaaGreatDoor
namespace Go.Proofs.YtjoonfegjobgbaaGreatDoor
open Go Go.RowKit
theorem wd_single {x : Nat} (h0 : x ≠ 0) (hx : x < 4294967296) : wd x = [(x : Int)] := by
  rw [wd_pos x h0, Nat.mod_eq_of_lt hx, Nat.div_eq_of_lt hx, wd_zero]
theorem grow_nil (x : Nat) (w : World) (hx : x < 4294967296) :
    Calls Tryz.prog 175 #[.slice none 0 0, .int .u32 1000000000, .int .u32 (x : Int)] w fun e w' => ∃ A c, e = .returned (.slice A (wd x).length c) ∧ Own w' w.heap.size A c (wd x) ∧ Ext w w' := by
  go_enter Tryz.func175, Tryz.ntmps175
  go_wp2_with fail
  go_loopw [7, 14] (fun c i wr => c = .int .u64 (x : Int) ∧ i = .int .i64 0 ∧ wr = w) (fun _ _ _ => 0)
  case atStart => exact ⟨rfl, rfl, rfl⟩
  case round =>
    obtain ⟨rfl, rfl, rfl⟩ := hrel
    by_cases h0 : x = 0
    · subst h0
      go_wp2_with fail
      go_ret
      rw [wd_zero]
      exact ⟨none, 0, rfl, Own.nil _ _, Ext.refl _⟩
    · have hb : decide ((x : Int) > 0) = true := decide_eq_true (by omega)
      have hp : 0 < x := by omega
      have E := Lib.hid (wd_single h0 hx)
      have HR := Lib.hid (Own.lit wr #[.int .u32 (x : Int)] [(x : Int)] rfl (by simp)).rd
      go_wp2_with (at_builtin; refine wpList_app rfl _ _ rfl wr.heap.size none 0 [] 0 rfl rfl (Own.nil _ _) _ _ [(x : Int)] 1 rfl rfl HR.out (by omega) (by simp) ?_; intro A' c' w1 hO hg)
      have HO := Lib.hid hO
      have HX := Lib.hid (((Ext.refl wr).alloc (.cells #[.int .u32 (x : Int)] 46)).grownNone hg)
      clear hO hg
      go_wp2_with fail
      go_ret
      refine ⟨A', c', ?_, ?_, HX.out⟩
      · rw [E.out]; rfl
      · rw [E.out]; exact HO.out
def dig10 : ByteArray := ⟨#[48, 49, 50, 51, 52, 53, 54, 55, 56, 57]⟩
theorem nl_of {s : ByteArray} (h : 0 < s.size) : ¬ s.toList = [] := fun e => by
  have h : ([] : List UInt8).length = s.size := by rw [← e, Lib.toList_data]; rfl
  simp at h
  omega
theorem ext_all (s : ByteArray) (k : Nat) (h : s.size = k) : s.extract 0 k = s := by
  subst h
  exact ByteArray.extract_zero_size
theorem ext_none (s : ByteArray) (k : Nat) (h : s.size = k) : s.extract k s.size = ⟨#[]⟩ := by
  refine Go.WideShapes.bytes_inj ?_
  rw [Lib.extract_data, h, Nat.sub_self, List.take_zero]
theorem bw_ext {w w' : World} {s : ByteArray} (h : w' = w ∨ w' = Lib.bytesWorld w 5 s) : Ext w w' := by
  rcases h with rfl | rfl
  · exact Ext.refl _
  · exact Lib.bytesWorld_below _ _ _
theorem nparse_small (s : ByteArray) (n : Nat) (w : World) (h0 : 0 < s.size) (h9 : s.size ≤ 9) (ht : Lib.trimS s.data.toList dig10.data.toList = []) (hz : (s.get! 0).toNat ≠ 48 ∨ s.size = 1) (hp : Lib.parseUintB 32 s.data.toList = .ok n) :
    Calls Tryz.prog 133 #[.string s] w fun e w' => ∃ A c, e = .returned (.tuple #[.slice A (wd n).length c, .int .i64 0]) ∧ Own w' w.heap.size A c (wd n) ∧ Ext w w' := by
  have HT := Lib.hid ht
  have HP := Lib.hid hp
  have hn : n ≤ 4294967295 := Lib.parseUintB_le hp
  clear ht hp
  have hnb : (s.toList == ByteArray.toList ⟨#[]⟩) = false := by rw [ba_0]; exact decide_eq_false (by omega)
  have hnl : ¬ s.toList = [] := fun e => by
    have h : ([] : List UInt8).length = s.size := by rw [← e, Lib.toList_data]; rfl
    simp at h
    omega
  have hni : s.toList.isEmpty = false := by simpa using hnl
  go_enter Tryz.func133, Tryz.ntmps133
  go_wp2_with fail
  refine (Sh.strings_Trim_set s dig10 w (by omega) (by decide) (fun j b hb => (show ∀ b ∈ dig10.data.toList, b.toNat < 128 by decide) b (List.mem_of_getElem? hb))).mono ?_; rintro e w1 ⟨rfl, hx1⟩
  rw [HT.out]
  have HX1 := Lib.hid hx1
  clear hx1
  obtain ⟨c0, hc0, hc1⟩ : ∃ c0 : UInt8, s[0]? = some c0 ∧ s.get! 0 = c0 := by
    refine ⟨s.get! 0, ?_, rfl⟩
    rw [getElem?_pos s 0 h0]
    obtain ⟨d⟩ := s
    have hj' : 0 < d.size := h0
    show some d[0] = some d[0]!
    rw [getElem!_pos d 0 hj']
  have hgo : (¬ c0.toNat = 48) ∨ s.size ≤ 1 := by
    rw [hc1] at hz
    rcases hz with hz | hz
    · exact .inl hz
    · exact .inr (by omega)
  clear hz hc1
  have hge : s[0]'h0 = c0 := by
    rw [getElem?_pos s 0 h0] at hc0
    exact Option.some.inj hc0
  rcases hgo with hq | hq
  · have hqb : ¬ ((c0.toNat : Int) = 48) := by omega
    have hqc : (((c0.toNat : Int)) == 48) = false := beq_eq_false_iff_ne.2 hqb
    go_wp2_with fail
    clear hnb hnl hni hc0 hge
    go_loopg [0, 4] 1 (fun k t q wr => (k = 1 ∧ t = .string s ∧ q = .slice none 0 0 ∧ Hid (Ext w wr)) ∨ (k = 0 ∧ t = .string ⟨#[]⟩ ∧ ∃ A c, q = .slice A (wd n).length c ∧ Hid (Own wr w.heap.size A c (wd n)) ∧ Hid (Ext w wr)))
    case atStart => exact .inl ⟨rfl, rfl, rfl, HX1.out⟩
    case round =>
      clear HX1
      rcases hrel with ⟨hk, rfl, rfl, HX⟩ | ⟨hk, rfl, A, c, rfl, HO, HX⟩
      · have hnb : (s.toList == ByteArray.toList ⟨#[]⟩) = false := by rw [ba_0]; exact decide_eq_false (by omega)
        have hnl : ¬ s.toList = [] := nl_of h0
        have hni : s.toList.isEmpty = false := by simpa using hnl
        by_cases h99 : s.size = 9
        · have hex := Lib.hid (ext_all s 9 h99)
          have hex2 := Lib.hid (ext_none s 9 h99)
          have hm : s.size % 9 = 0 := by rw [h99]
          have h9' : 9 ≤ s.size := by omega
          clear h99
          go_wp2_with fail
          try rw [hex.out]
          refine (Sh.strconv_ParseUint_10_at32_ok s (by omega) n HP.out _).mono ?_; rintro e w2 ⟨rfl, hw⟩
          have HX2 := Lib.hid (HX.out.trans (bw_ext hw))
          clear hw
          go_wp2_with fail
          refine (grow_nil n _ (by omega)).mono ?_; rintro e w3 ⟨A, c, rfl, HO, hx⟩
          have HO3 := Lib.hid (HO.lower HX2.out.size)
          have HX3 := Lib.hid (HX2.out.trans hx)
          clear HO hx
          go_wp2_with fail
          go_roundg 0
          case measure => omega
          case rel => exact .inr ⟨rfl, by first | rfl | rw [hex2.out] | rw [hm, hex2.out], A, c, rfl, HO3.out, HX3.out⟩
        · have hex := Lib.hid (ext_all s s.size rfl)
          have hex2 := Lib.hid (ext_none s s.size rfl)
          have hm : s.size % 9 = s.size := Nat.mod_eq_of_lt (by omega)
          have hz0 : ((s.size : Int) == 0) = false := beq_eq_false_iff_ne.2 (by omega)
          go_wp2_with fail
          try rw [hex.out]
          refine (Sh.strconv_ParseUint_10_at32_ok s (by omega) n HP.out _).mono ?_; rintro e w2 ⟨rfl, hw⟩
          have HX2 := Lib.hid (HX.out.trans (bw_ext hw))
          clear hw
          go_wp2_with fail
          refine (grow_nil n _ (by omega)).mono ?_; rintro e w3 ⟨A, c, rfl, HO, hx⟩
          have HO3 := Lib.hid (HO.lower HX2.out.size)
          have HX3 := Lib.hid (HX2.out.trans hx)
          clear HO hx
          go_wp2_with fail
          go_roundg 0
          case measure => omega
          case rel => exact .inr ⟨rfl, by first | rfl | rw [hex2.out] | rw [hm, hex2.out], A, c, rfl, HO3.out, HX3.out⟩
      · go_wp2_with fail
        refine (told_ok A (wd n) c w.heap.size _ _ HO.out rfl (wf_wd n) n (val_wd n) (by have := wd_len_le n 1 (by show (n : Int) < 4294967296; omega); omega)).mono ?_; rintro e w3 ⟨rfl, HO2, rfl⟩
        go_wp2_with fail
        go_ret2
        exact ⟨A, c, rfl, HO2, HX.out⟩
  · by_cases hqz : c0.toNat = 48
    · have hqb : ((c0.toNat : Int) = 48) := by omega
      have hqc : (((c0.toNat : Int)) == 48) = true := beq_iff_eq.2 hqb
      go_wp2_with fail
      clear hnb hnl hni hc0 hge
      go_loopg [0, 4] 1 (fun k t q wr => (k = 1 ∧ t = .string s ∧ q = .slice none 0 0 ∧ Hid (Ext w wr)) ∨ (k = 0 ∧ t = .string ⟨#[]⟩ ∧ ∃ A c, q = .slice A (wd n).length c ∧ Hid (Own wr w.heap.size A c (wd n)) ∧ Hid (Ext w wr)))
      case atStart => exact .inl ⟨rfl, rfl, rfl, HX1.out⟩
      case round =>
        clear HX1
        rcases hrel with ⟨hk, rfl, rfl, HX⟩ | ⟨hk, rfl, A, c, rfl, HO, HX⟩
        · have hnb : (s.toList == ByteArray.toList ⟨#[]⟩) = false := by rw [ba_0]; exact decide_eq_false (by omega)
          have hnl : ¬ s.toList = [] := nl_of h0
          have hni : s.toList.isEmpty = false := by simpa using hnl
          by_cases h99 : s.size = 9
          · exact absurd h99 (by omega)
          · have hex := Lib.hid (ext_all s s.size rfl)
            have hex2 := Lib.hid (ext_none s s.size rfl)
            have hm : s.size % 9 = s.size := Nat.mod_eq_of_lt (by omega)
            have hz0 : ((s.size : Int) == 0) = false := beq_eq_false_iff_ne.2 (by omega)
            go_wp2_with fail
            try rw [hex.out]
            refine (Sh.strconv_ParseUint_10_at32_ok s (by omega) n HP.out _).mono ?_; rintro e w2 ⟨rfl, hw⟩
            have HX2 := Lib.hid (HX.out.trans (bw_ext hw))
            clear hw
            go_wp2_with fail
            refine (grow_nil n _ (by omega)).mono ?_; rintro e w3 ⟨A, c, rfl, HO, hx⟩
            have HO3 := Lib.hid (HO.lower HX2.out.size)
            have HX3 := Lib.hid (HX2.out.trans hx)
            clear HO hx
            go_wp2_with fail
            go_roundg 0
            case measure => omega
            case rel => exact .inr ⟨rfl, by first | rfl | rw [hex2.out] | rw [hm, hex2.out], A, c, rfl, HO3.out, HX3.out⟩
        · go_wp2_with fail
          refine (told_ok A (wd n) c w.heap.size _ _ HO.out rfl (wf_wd n) n (val_wd n) (by have := wd_len_le n 1 (by show (n : Int) < 4294967296; omega); omega)).mono ?_; rintro e w3 ⟨rfl, HO2, rfl⟩
          go_wp2_with fail
          go_ret2
          exact ⟨A, c, rfl, HO2, HX.out⟩
    · have hqb : ¬ ((c0.toNat : Int) = 48) := by omega
      have hqc : (((c0.toNat : Int)) == 48) = false := beq_eq_false_iff_ne.2 hqb
      go_wp2_with fail
      clear hnb hnl hni hc0 hge
      go_loopg [0, 4] 1 (fun k t q wr => (k = 1 ∧ t = .string s ∧ q = .slice none 0 0 ∧ Hid (Ext w wr)) ∨ (k = 0 ∧ t = .string ⟨#[]⟩ ∧ ∃ A c, q = .slice A (wd n).length c ∧ Hid (Own wr w.heap.size A c (wd n)) ∧ Hid (Ext w wr)))
      case atStart => exact .inl ⟨rfl, rfl, rfl, HX1.out⟩
      case round =>
        clear HX1
        rcases hrel with ⟨hk, rfl, rfl, HX⟩ | ⟨hk, rfl, A, c, rfl, HO, HX⟩
        · have hnb : (s.toList == ByteArray.toList ⟨#[]⟩) = false := by rw [ba_0]; exact decide_eq_false (by omega)
          have hnl : ¬ s.toList = [] := nl_of h0
          have hni : s.toList.isEmpty = false := by simpa using hnl
          by_cases h99 : s.size = 9
          · exact absurd h99 (by omega)
          · have hex := Lib.hid (ext_all s s.size rfl)
            have hex2 := Lib.hid (ext_none s s.size rfl)
            have hm : s.size % 9 = s.size := Nat.mod_eq_of_lt (by omega)
            have hz0 : ((s.size : Int) == 0) = false := beq_eq_false_iff_ne.2 (by omega)
            go_wp2_with fail
            try rw [hex.out]
            refine (Sh.strconv_ParseUint_10_at32_ok s (by omega) n HP.out _).mono ?_; rintro e w2 ⟨rfl, hw⟩
            have HX2 := Lib.hid (HX.out.trans (bw_ext hw))
            clear hw
            go_wp2_with fail
            refine (grow_nil n _ (by omega)).mono ?_; rintro e w3 ⟨A, c, rfl, HO, hx⟩
            have HO3 := Lib.hid (HO.lower HX2.out.size)
            have HX3 := Lib.hid (HX2.out.trans hx)
            clear HO hx
            go_wp2_with fail
            go_roundg 0
            case measure => omega
            case rel => exact .inr ⟨rfl, by first | rfl | rw [hex2.out] | rw [hm, hex2.out], A, c, rfl, HO3.out, HX3.out⟩
        · go_wp2_with fail
          refine (told_ok A (wd n) c w.heap.size _ _ HO.out rfl (wf_wd n) n (val_wd n) (by have := wd_len_le n 1 (by show (n : Int) < 4294967296; omega); omega)).mono ?_; rintro e w3 ⟨rfl, HO2, rfl⟩
          go_wp2_with fail
          go_ret2
          exact ⟨A, c, rfl, HO2, HX.out⟩
theorem rv_str {Z : Nat → Prop} {w : World} {x : ByteArray} {v : Value} (h : RV Z w .st x v) : v = .string x ∧ x.size ≤ maxI := by
  unfold RV at h
  rw [if_neg (by simp [Ty.agg]), RT] at h
  exact ⟨by simpa using h.1, h.2⟩
theorem rq_str {Z : Nat → Prop} {w : World} {base : Nat} {x : ByteArray} (h : x.size ≤ maxI) : RQ true Z w base .st x [.string x] [] := by
  refine ⟨?_, rfl⟩
  rw [RT]
  exact ⟨rfl, h⟩
theorem rq_bool {Z : Nat → Prop} {w : World} {base : Nat} {b : Bool} : RQ true Z w base .bo b [.bool b] [] := by
  refine ⟨?_, rfl⟩
  rw [RT]
def ixB (s p : ByteArray) : Int := Lib.indexByte s.data.toList (p.get! 0)
def sp_sIdx : Spec := { q := .un, ps := [.st, .st], rs := [.it .i64], fresh := true, pre := fun _ x => some (ByteArray.size x.2.1 = 1), post := fun _ x => ((), (ixB x.1 x.2.1, ())) }
theorem ib_rng : ∀ (l : List UInt8) (c : UInt8), Lib.indexByte l c = -1 ∨ (0 ≤ Lib.indexByte l c ∧ Lib.indexByte l c < l.length)
  | [], c => .inl rfl
  | b :: l, c => by
    have ih := ib_rng l c
    unfold Lib.indexByte
    by_cases h : (b == c) = true
    · rw [if_pos h]
      exact .inr ⟨by omega, by simp only [List.length_cons]; omega⟩
    · rw [if_neg h]
      by_cases k : (Lib.indexByte l c == -1) = true
      · rw [if_pos k]
        exact .inl rfl
      · rw [if_neg k]
        rcases ih with ih | ih
        · exact absurd (by rw [ih]; rfl) k
        · exact .inr ⟨by omega, by simp only [List.length_cons]; omega⟩
theorem ixB_rng (s p : ByteArray) : ixB s p = -1 ∨ (0 ≤ ixB s p ∧ ixB s p < s.size) := by
  have := ib_rng s.data.toList (p.get! 0)
  have e : s.data.toList.length = s.size := by simp
  rw [e] at this
  exact this
theorem one_byte {p : ByteArray} (h : p.size = 1) : p = ⟨#[p.get! 0]⟩ := by
  obtain ⟨⟨l⟩⟩ := p
  match l, h with
  | [c], _ => rfl
theorem fo_sIdx : FnOk Tryz.prog 192 sp_sIdx := by
  refine ⟨callFunc_enter Tryz.func192 (by kernel_rfl) rfl, fun Z w gv vs y x hZ hv hp _ _ => ?_⟩
  obtain ⟨s, p, u⟩ := x
  match vs, hv with
  | [v1, v2], ⟨h1, h2, _⟩ =>
    have hp : ByteArray.size p = 1 := hp
    obtain ⟨rfl, s1⟩ := rv_str h1
    obtain ⟨rfl, s2⟩ := rv_str h2
    have e := one_byte hp
    have := Sh.stringslite_Index_one s (p.get! 0) w
    rw [← e] at this
    refine this.mono fun e w' ⟨e1, e2⟩ => ?_
    subst e1 e2
    refine told_new (S := sp_sIdx) (r := (ixB s p, ())) (us := [_]) (bs := []) rfl rfl (.inl ⟨_, rfl, rfl⟩) hZ ⟨[], [], rfl, ⟨?_, rfl⟩, rfl⟩ List.nodup_nil (fun g hg => by simp at hg) (Ext.refl _)
    rw [RT]
    have r := ixB_rng s p
    have m : IntKind.i64.min = -9223372036854775808 := rfl
    have m' : IntKind.i64.max = 9223372036854775807 := rfl
    have m2 : s.size ≤ 9223372036854775807 := s1
    refine ⟨rfl, ?_, ?_⟩
    · show _ ≤ ixB s p
      omega
    · show ixB s p ≤ _
      omega
def cutP (s p : ByteArray) : ByteArray × Bool := (⟨(Lib.trimPrefix s.data.toList p.data.toList).toArray⟩, Lib.hasPrefix s.data.toList p.data.toList)
def sp_sCutP : Spec := { q := .un, ps := [.st, .st], rs := [.st, .bo], fresh := true, pre := fun _ _ => none, post := fun _ x => ((), ((cutP x.1 x.2.1).1, (cutP x.1 x.2.1).2, ())) }
theorem cutP_size (s p : ByteArray) : (cutP s p).1.size ≤ s.size := by
  have := Lib.trimPrefix_le s.data.toList p.data.toList
  show (Lib.trimPrefix s.data.toList p.data.toList).toArray.size ≤ s.data.size
  simpa using this
theorem fo_sCutP : FnOk Tryz.prog 132 sp_sCutP := by
  refine ⟨callFunc_enter Tryz.func132 (by kernel_rfl) rfl, fun Z w gv vs y x hZ hv hp _ _ => ?_⟩
  obtain ⟨s, p, u⟩ := x
  match vs, hv with
  | [v1, v2], ⟨h1, h2, _⟩ =>
    obtain ⟨rfl, s1⟩ := rv_str h1
    obtain ⟨rfl, s2⟩ := rv_str h2
    refine (Sh.strings_CutPrefix s p w).mono fun e w' ⟨e1, e2⟩ => ?_
    subst e1 e2
    exact told_new (S := sp_sCutP) (r := ((cutP s p).1, (cutP s p).2, ())) (us := [_, _]) (bs := []) rfl rfl (.inr ⟨by simp, rfl⟩) hZ ⟨[], [], rfl, rq_str (base := w'.heap.size) (Nat.le_trans (cutP_size s p) s1), [], [], rfl, rq_bool (base := w'.heap.size), rfl⟩ List.nodup_nil (fun g hg => by simp at hg) (Ext.refl _)
def pV (s : ByteArray) : Nat := match Lib.parseUintB 32 s.data.toList with
  | .ok n => n
  | _ => 0
def pOk (s : ByteArray) : Bool := decide (0 < s.size ∧ s.size ≤ 9) && decide (Lib.trimS s.data.toList dig10.data.toList = []) && (decide ((s.get! 0).toNat ≠ 48) || decide (s.size = 1)) && (match Lib.parseUintB 32 s.data.toList with
  | .ok _ => true
  | _ => false)
theorem pOk_of {s : ByteArray} (h : pOk s = true) : 0 < s.size ∧ s.size ≤ 9 ∧ Lib.trimS s.data.toList dig10.data.toList = [] ∧ ((s.get! 0).toNat ≠ 48 ∨ s.size = 1) ∧ Lib.parseUintB 32 s.data.toList = .ok (pV s) := by
  unfold pOk at h
  simp only [Bool.and_eq_true, Bool.or_eq_true, decide_eq_true_eq] at h
  obtain ⟨⟨⟨h1, h2⟩, h3⟩, h4⟩ := h
  refine ⟨h1.1, h1.2, h2, h3, ?_⟩
  unfold pV
  cases hc : Lib.parseUintB 32 s.data.toList
  case ok n => rfl
  all_goals (rw [hc] at h4; cases h4)
def sp_aParse : Spec := { q := .un, ps := [.st], rs := [tW32, .it .i64], fresh := true, pre := fun _ x => some (pOk x.1 = true), post := fun _ x => ((), (wd (pV x.1), 0, ())) }
theorem fo_aParse : FnOk Tryz.prog 133 sp_aParse := by
  refine ⟨callFunc_enter Tryz.func133 (by kernel_rfl) rfl, fun Z w gv vs y x hZ hv hp _ _ => ?_⟩
  obtain ⟨s, u⟩ := x
  match vs, hv with
  | [v1], ⟨h1, _⟩ =>
    obtain ⟨p1, p2, p3, p4, p5⟩ := pOk_of (show pOk s = true from hp)
    obtain ⟨rfl, s1⟩ := rv_str h1
    refine (nparse_small s (pV s) w p1 p2 p3 p4 p5).mono fun e w' ⟨A, c, e1, e2, e3⟩ => ?_
    subst e1
    exact told_WE (S := sp_aParse) rfl rfl rfl Er.zero e2 e3 hZ rfl
end Go.Proofs.YtjoonfegjobgbaaGreatDoor
