/- Texts of this claim, joined: R13 R2s Y1 G1 G2 G3 G4 G5 G6 G7 G8 G9a G10 G11 G12 G13 G14 G15 G16 G17 G18 G19 G20 G9s Y3 B1 A29 B2 B19 R14 G21 B26 R2. -/
import Derived.Handy
import Derived.Lib.ItoaWalk
import Derived.Deep.RegionHeld3
import Derived.Test.YtjoonfegjobgbaaGreatDoorQo
set_option linter.unusedVariables false
set_option linter.unusedSimpArgs false
set_option maxRecDepth 100000
namespace Go.Proofs.YtjoonfegjobgbaaGreatDoor
open Go Go.RowKit
set_option maxRecDepth 4000 in
set_option maxHeartbeats 2000000 in
theorem neg_fr (a : Fr) (A B : Option Addr) (c1 c2 : Nat) (w : World) (ha : Rd w A c1 a.num) (hb : Rd w B c2 a.den) (wa : a.Wf) :
    Calls Tryz.prog 19 #[.agg #[.bool a.neg, .slice A a.num.length c1, .slice B a.den.length c2]] w (RatP w (fneg a)) := by
  have HA := Lib.hid ha
  have HB := Lib.hid hb
  clear ha hb
  by_cases hk : fchk a ≠ 0
  · have HT := Lib.hid (show fneg a = (Fr.zero, fchk a) from if_pos hk)
    have hb1 : (fchk a != 0) = true := bne_iff_ne.2 hk
    clear hk
    go_enter Tryz.func19, Tryz.ntmps19
    go_wp2_with fail
    obtain ⟨W, hW⟩ : ∃ W, W = (w.alloc (.cells #[.bool a.neg, .slice A a.num.length c1, .slice B a.den.length c2] 24)).alloc (.cells #[.bool false, .slice none 0 0, .slice none 0 0] 24) := ⟨_, rfl⟩
    have F0 : Thr W w.heap.size (.bool a.neg) (.slice A a.num.length c1) (.slice B a.den.length c2) := by rw [hW]; refine ⟨?_, ?_, ?_⟩ <;> simp [go_sem]
    have HX : Hid (Ext w W) := by rw [hW]; exact ((Ext.refl w).alloc _).alloc _
    have HV : Hid (VarF (w.heap.size + 1) W.heap.size Fr.zero none 0 none 0 W) := by
      have h1 := VarF.zero (w.alloc (.cells #[.bool a.neg, .slice A a.num.length c1, .slice B a.den.length c2] 24)) W.heap.size
      rw [← hW] at h1
      unfold Hid
      simpa using h1
    have HZ := Lib.hid (show W.heap.size = w.heap.size + 2 by rw [hW]; simp)
    try rw [← hW]
    clear hW
    refine (rcheck_fr a A B c1 c2 W (HA.out.ext HX.out) (HB.out.ext HX.out) wa).mono ?_; rintro e w1 ⟨rfl, hx1⟩
    have F1 := thr_ext hx1 F0
    have HX1 := Lib.hid (HX.out.trans hx1)
    have HV1 := Lib.hid (HV.out.ext hx1)
    have HZ1 := Lib.hid (show w.heap.size + 2 ≤ w1.heap.size by have := hx1.size; have := HZ.out; omega)
    clear hx1 F0 HX HV
    have r0 := HV1.out.c0
    have s0 := HV1.out.fr 0
    have r1 := HV1.out.c1
    have s1 := HV1.out.fr 1
    have r2 := HV1.out.c2
    have s2 := HV1.out.fr 2
    clear F1
    go_wp2_with fail
    exact bodyPost_ret (v := .tuple #[.agg #[.bool false, .slice none 0 0, .slice none 0 0], .int .i64 (fchk a)]) (by simp [results, Tryz.results19, go_sem, r0, r1, r2]) rfl (RatP.nil HT.out rfl (by repeat (first | (with_reducible exact HX1.out) | refine Ext.setCell ?_ (by simp; try omega) _)))
  have h0 : fchk a = 0 := by simpa using hk
  have hb1 : (fchk a != 0) = false := bne_eq_false_iff_eq.2 h0
  have HT := Lib.hid (fneg_ok wa h0)
  obtain ⟨t1, t2⟩ := trimW_ok wa h0
  have HCP := Lib.hid (fun wx (hx : Ext w wx) => copied_any a A B c1 c2 wx (HA.out.ext hx) (HB.out.ext hx) t1 t2)
  clear hk h0 t1 t2
  go_enter Tryz.func19, Tryz.ntmps19
  go_wp2_with fail
  obtain ⟨W, hW⟩ : ∃ W, W = (w.alloc (.cells #[.bool a.neg, .slice A a.num.length c1, .slice B a.den.length c2] 24)).alloc (.cells #[.bool false, .slice none 0 0, .slice none 0 0] 24) := ⟨_, rfl⟩
  have F0 : Thr W w.heap.size (.bool a.neg) (.slice A a.num.length c1) (.slice B a.den.length c2) := by rw [hW]; refine ⟨?_, ?_, ?_⟩ <;> simp [go_sem]
  have HX : Hid (Ext w W) := by rw [hW]; exact ((Ext.refl w).alloc _).alloc _
  have HV : Hid (VarF (w.heap.size + 1) W.heap.size Fr.zero none 0 none 0 W) := by
    have h1 := VarF.zero (w.alloc (.cells #[.bool a.neg, .slice A a.num.length c1, .slice B a.den.length c2] 24)) W.heap.size
    rw [← hW] at h1
    unfold Hid
    simpa using h1
  have HZ := Lib.hid (show W.heap.size = w.heap.size + 2 by rw [hW]; simp)
  try rw [← hW]
  clear hW
  refine (rcheck_fr a A B c1 c2 W (HA.out.ext HX.out) (HB.out.ext HX.out) wa).mono ?_; rintro e w1 ⟨rfl, hx1⟩
  have F1 := thr_ext hx1 F0
  have HX1 := Lib.hid (HX.out.trans hx1)
  have HV1 := Lib.hid (HV.out.ext hx1)
  have HZ1 := Lib.hid (show w.heap.size + 2 ≤ w1.heap.size by have := hx1.size; have := HZ.out; omega)
  clear hx1 F0 HX HV
  obtain ⟨u0, u1, u2⟩ := F1
  go_wp2_with fail
  refine (HCP.out _ HX1.out).mono ?_; rintro e w2 ⟨A9, c9, B9, d9, rfl, o1, o2, ap, hx⟩
  have hzz := HZ1.out
  have O1 := Lib.hid (o1.lower (show w.heap.size + 2 ≤ w1.heap.size by omega))
  have O2 := Lib.hid (o2.lower (show w.heap.size + 2 ≤ w1.heap.size by omega))
  have AP := Lib.hid ap
  have HX2 := Lib.hid (HX1.out.trans hx)
  have HV2 := Lib.hid (HV1.out.ext hx)
  clear o1 o2 ap hx u0 u1 u2 HV1
  go_wp2_with fail
  refine (turned_any a A9 B9 c9 d9 _).mono ?_; rintro e w3 ⟨rfl, hx⟩
  have O1 := Lib.hid (O1.out.ext hx)
  have O2 := Lib.hid (O2.out.ext hx)
  have HX9 := Lib.hid (HX2.out.trans hx)
  have HV9 := Lib.hid (HV2.out.ext hx)
  have r0 := HV9.out.c0
  have s0 := HV9.out.fr 0
  have r1 := HV9.out.c1
  have s1 := HV9.out.fr 1
  have r2 := HV9.out.c2
  have s2 := HV9.out.fr 2
  clear hx
  go_wp2_with fail
  exact bodyPost_ret (v := .tuple #[.agg #[.bool (fturn a).neg, .slice A9 a.num.length c9, .slice B9 a.den.length d9], .int .i64 0]) (by simp [results, Tryz.results19, go_sem, r0, r1, r2]) rfl (RatP.mk (s := (fturn a).neg) (xs := a.num) (ys := a.den) HT.out rfl (by refine Own.lower ?_ (show w.heap.size ≤ w.heap.size + 2 by omega); repeat (first | (with_reducible exact O1.out) | refine Own.setBelow ?_ (by simp; try omega) _)) (by refine Own.lower ?_ (show w.heap.size ≤ w.heap.size + 2 by omega); repeat (first | (with_reducible exact O2.out) | refine Own.setBelow ?_ (by simp; try omega) _)) AP.out (by repeat (first | (with_reducible exact HX9.out) | refine Ext.setCell ?_ (by simp; try omega) _)))
set_option maxHeartbeats 2000000 in
theorem sign_fr_raw (s : Bool) (xs ys : List Int) (A B : Option Addr) (c1 c2 : Nat) (w : World) (ha : Rd w A c1 xs) (hb : Rd w B c2 ys) (wa : (⟨s, xs, ys⟩ : Fr).Wf) :
    Calls Tryz.prog 20 #[.agg #[.bool s, .slice A xs.length c1, .slice B ys.length c2]] w fun e w' => e = .returned (.int .i64 (fsign ⟨s, xs, ys⟩)) ∧ Ext w w' := by
  obtain ⟨k, hk⟩ : ∃ k, k = fchk ⟨s, xs, ys⟩ := ⟨_, rfl⟩
  have HCK := Lib.hid (fun wx (h1 : Rd wx A c1 xs) (h2 : Rd wx B c2 ys) => rcheck_fr ⟨s, xs, ys⟩ A B c1 c2 wx h1 h2 wa)
  rw [← hk] at HCK
  simp only at HCK
  have HA := Lib.hid ha
  have HB := Lib.hid hb
  clear ha hb
  have HX := Lib.hid ((Ext.refl w).alloc (.cells #[.bool s, .slice A xs.length c1, .slice B ys.length c2] 24))
  by_cases h1 : k ≠ 0
  · have HE := Lib.hid (show fsign ⟨s, xs, ys⟩ = 0 by unfold fsign; rw [if_pos (by rw [← hk]; exact h1)])
    have hb1 : (k != 0) = true := bne_iff_ne.2 h1
    rw [HE.out]
    clear h1 hk wa
    go_enter Tryz.func20, Tryz.ntmps20
    go_wp2_with fail
    refine (HCK.out _ (HA.out.ext HX.out) (HB.out.ext HX.out)).mono ?_; rintro e w1 ⟨rfl, hx1⟩
    obtain ⟨hc, hf⟩ := bcell hx1
    have HX1 := Lib.hid (HX.out.trans hx1)
    clear hx1
    go_wp2_with fail
    go_ret
    exact ⟨rfl, HX1.out⟩
  have hb1 : (k != 0) = false := bne_eq_false_iff_eq.2 (by simpa using h1)
  have h0 : k = 0 := by simpa using h1
  by_cases h2 : xs.length = 0
  · have HE := Lib.hid (show fsign ⟨s, xs, ys⟩ = 0 by unfold fsign; rw [if_neg (by rw [← hk]; exact fun h => h h0), if_pos h2])
    have hb2 : ((xs.length : Int) == 0) = true := beq_iff_eq.2 (by omega)
    rw [HE.out]
    clear h1 hk wa h0 h2
    go_enter Tryz.func20, Tryz.ntmps20
    go_wp2_with fail
    refine (HCK.out _ (HA.out.ext HX.out) (HB.out.ext HX.out)).mono ?_; rintro e w1 ⟨rfl, hx1⟩
    obtain ⟨hc, hf⟩ := bcell hx1
    have HX1 := Lib.hid (HX.out.trans hx1)
    clear hx1
    go_wp2_with fail
    go_ret
    exact ⟨rfl, HX1.out⟩
  have hb2 : ((xs.length : Int) == 0) = false := beq_eq_false_iff_ne.2 (by omega)
  have HE := Lib.hid (show fsign ⟨s, xs, ys⟩ = if s = true then -1 else 1 by unfold fsign; rw [if_neg (by rw [← hk]; exact fun h => h h0), if_neg h2])
  rw [HE.out]
  clear h1 hk wa h0 h2
  cases s
  all_goals
    go_enter Tryz.func20, Tryz.ntmps20
    go_wp2_with fail
    refine (HCK.out _ (HA.out.ext HX.out) (HB.out.ext HX.out)).mono ?_; rintro e w1 ⟨rfl, hx1⟩
    obtain ⟨hc, hf⟩ := bcell hx1
    have HX1 := Lib.hid (HX.out.trans hx1)
    clear hx1
    go_wp2_with fail
    go_ret
    exact ⟨rfl, HX1.out⟩
theorem sign_fr (a : Fr) (A B : Option Addr) (c1 c2 : Nat) (w : World) (ha : Rd w A c1 a.num) (hb : Rd w B c2 a.den) (wa : a.Wf) :
    Calls Tryz.prog 20 #[.agg #[.bool a.neg, .slice A a.num.length c1, .slice B a.den.length c2]] w fun e w' => e = .returned (.int .i64 (fsign a)) ∧ Ext w w' :=
  sign_fr_raw a.neg a.num a.den A B c1 c2 w ha hb wa
set_option maxHeartbeats 1000000 in
theorem size_any (x : Int) (w : World) (h0 : -9223372036854775808 ≤ x) (h1 : x ≤ 9223372036854775807) :
    Calls Tryz.prog 129 #[.int .i64 x] w fun e w' => ∃ A' c', e = .returned (.slice A' (wd x.natAbs).length c') ∧ Own w' w.heap.size A' c' (wd x.natAbs) ∧ Ext w w' := by
  obtain ⟨m, hm⟩ : ∃ m, m = x.natAbs := ⟨_, rfl⟩
  rw [← hm]
  have H := Lib.hid (of_any m w (by omega))
  by_cases hx : x < 0
  · have HE := Lib.hid (show IntKind.u64.wrap (-IntKind.u64.wrap x) = (m : Int) by rw [IntKind.wrap_u64, IntKind.wrap_u64]; omega)
    clear hm
    go_enter Tryz.func129, Tryz.ntmps129
    go_wp2_with fail
    rw [HE.out]
    refine H.out.mono ?_; rintro e w1 ⟨A1, c1, rfl, h1, hx1⟩
    have H1 := Lib.hid h1
    have HX1 := Lib.hid hx1
    clear h1 hx1
    go_wp2_with fail
    go_ret
    exact ⟨_, _, rfl, H1.out, HX1.out⟩
  · obtain rfl : x = (m : Int) := by omega
    clear hm
    go_enter Tryz.func129, Tryz.ntmps129
    go_wp2_with fail
    refine H.out.mono ?_; rintro e w1 ⟨A1, c1, rfl, h1, hx1⟩
    have H1 := Lib.hid h1
    have HX1 := Lib.hid hx1
    clear h1 hx1
    go_wp2_with fail
    go_ret
    exact ⟨_, _, rfl, H1.out, HX1.out⟩
def fsmall (n d : Int) : Fr × Int := if d = 0 then (Fr.zero, 7) else tell (mkRat (sg (decide (n < 0) != decide (d < 0)) n.natAbs) d.natAbs)
theorem wd_len_64 (x : Int) (h0 : -9223372036854775808 ≤ x) (h1 : x ≤ 9223372036854775807) : (wd x.natAbs).length ≤ 2 := wd_two' _ (by omega)
set_option maxHeartbeats 1000000 in
theorem small_frac (n d : Int) (w : World) (h0 : -9223372036854775808 ≤ n) (h1 : n ≤ 9223372036854775807) (k0 : -9223372036854775808 ≤ d) (k1 : d ≤ 9223372036854775807) :
    Calls Tryz.prog 69 #[.int .i64 n, .int .i64 d] w (RatP w (fsmall n d)) := by
  by_cases hd : d = 0
  · have HT := Lib.hid (show fsmall n d = (Fr.zero, 7) from if_pos hd)
    subst hd
    go_enter Tryz.func69, Tryz.ntmps69
    go_wp2_with fail
    exact bodyPost_ret (v := .tuple #[.agg #[.bool false, .slice none 0 0, .slice none 0 0], .int .i64 7]) (by simp [results, Tryz.results69, go_sem]) rfl (RatP.nil HT.out rfl (by repeat (first | exact Ext.refl w | refine Ext.setCell ?_ (Nat.le_refl _) _ | refine Ext.alloc ?_ _)))
  · have hdb : (d == 0) = false := beq_eq_false_iff_ne.2 hd
    have Hn := Lib.hid (wd_len_64 n h0 h1)
    have Hd := Lib.hid (wd_len_64 d k0 k1)
    have Hz := Lib.hid (show d.natAbs ≠ 0 by omega)
    obtain ⟨t, ht⟩ : ∃ t, t = tell (mkRat (sg (decide (n < 0) != decide (d < 0)) n.natAbs) d.natAbs) := ⟨_, rfl⟩
    have HT := Lib.hid (show fsmall n d = t by rw [ht]; exact if_neg hd)
    have HL := fun (wx : World) (b : Bool) (A B : Option Addr) (c e : Nat) (ha : Rd wx A c (wd n.natAbs)) (hb : Rd wx B e (wd d.natAbs)) (hbb : b = (decide (n < 0) != decide (d < 0))) => Lib.hid (show Calls Tryz.prog 79 #[.bool b, .slice A (wd n.natAbs).length c, .slice B (wd d.natAbs).length e] wx (RatP wx t) by
      subst hbb; rw [ht]; exact lowest_any _ A B _ _ c e wx ha hb Hz.out (by have := Hn.out; omega) (by have := Hd.out; omega))
    have HLL := Lib.hid HL
    clear HL ht hd
    go_enter Tryz.func69, Tryz.ntmps69
    go_wp2_with fail
    refine (size_any n _ h0 h1).mono ?_; rintro e w1 ⟨A1, c1, rfl, h1', hx1⟩
    have H1 := Lib.hid h1'
    have HX1 := Lib.hid hx1
    clear h1' hx1
    go_wp2_with fail
    refine (size_any d _ k0 k1).mono ?_; rintro e w2 ⟨A2, c2, rfl, h2, hx2⟩
    have H2 := Lib.hid h2
    have H1 := Lib.hid (H1.out.ext hx2)
    have HX2 := Lib.hid (HX1.out.trans hx2)
    clear h2 hx2
    go_wp2_with fail
    refine (HLL.out _ _ _ _ _ _ H1.out.rd H2.out.rd rfl).out.mono ?_; rintro e w3 ⟨A3, c3, B3, d3, rfl, h3, h4, h5, hx3⟩
    have H3 := Lib.hid (h3.lower (show w.heap.size + 1 ≤ w2.heap.size by have := HX2.out.size; simp at this; omega))
    have H4 := Lib.hid (h4.lower (show w.heap.size + 1 ≤ w2.heap.size by have := HX2.out.size; simp at this; omega))
    have HAp := Lib.hid h5
    have HX3 := Lib.hid (HX2.out.trans hx3)
    have HXw := Lib.hid (((Ext.refl w).alloc _).trans HX3.out)
    have hz3 : w.heap.size < w3.heap.size := by have := HX3.out.size; simp at this; omega
    clear h3 h4 h5 hx3
    obtain ⟨hc, hf⟩ := bcell HX3.out
    go_wp2_with fail
    exact bodyPost_ret (v := .tuple #[.agg #[.bool t.1.neg, .slice A3 t.1.num.length c3, .slice B3 t.1.den.length d3], .int .i64 t.2]) (by simp [results, Tryz.results69, go_sem, hc]) rfl (RatP.mk HT.out rfl (by refine Own.lower ?_ (Nat.le_succ _); repeat (first | exact H3.out | refine Own.setBelow ?_ (Nat.lt_succ_self _) _)) (by refine Own.lower ?_ (Nat.le_succ _); repeat (first | exact H4.out | refine Own.setBelow ?_ (Nat.lt_succ_self _) _)) HAp.out (by repeat (first | exact HXw.out | refine Ext.setCell ?_ (Nat.le_refl _) _)))
structure Adr where
  A : Option Addr
  c : Nat
  B : Option Addr
  d : Nat
structure RF (w : World) (p : Adr) (f : Fr) : Prop where
  num : Rd w p.A p.c f.num
  den : Rd w p.B p.d f.den
  wf : f.Wf
structure OF (w : World) (base : Nat) (p : Adr) (f : Fr) : Prop where
  num : Own w base p.A p.c f.num
  den : Own w base p.B p.d f.den
  ap : ∀ a b, p.A = some a → p.B = some b → a.block ≠ b.block
  wf : f.Wf
def TF (w : World) (t : Fr × Int) (e : Ending) (w' : World) : Prop :=
  ∃ p : Adr, e = .returned (.tuple #[.agg #[.bool t.1.neg, .slice p.A t.1.num.length p.c, .slice p.B t.1.den.length p.d], .int .i64 t.2]) ∧ OF w' w.heap.size p t.1 ∧ Below w.heap.size w w'
theorem RatP.tf {w w' : World} {t : Fr × Int} {e : Ending} (h : RatP w t e w') (hg : t.1.Wf) : TF w t e w' := by
  obtain ⟨A, c, B, d, h1, h2, h3, h4, h5⟩ := h
  exact ⟨⟨A, c, B, d⟩, h1, ⟨h2, h3, h4, hg⟩, h5⟩
section
variable (a b : Fr) (p q : Adr) (w : World) (ha : RF w p a) (hb : RF w q b)
include ha hb
theorem rAdd : Calls Tryz.prog 15 #[.agg #[.bool a.neg, .slice p.A a.num.length p.c, .slice p.B a.den.length p.d], .agg #[.bool b.neg, .slice q.A b.num.length q.c, .slice q.B b.den.length q.d]] w (TF w (fadd a b)) :=
  (add_fr a b _ _ _ _ _ _ _ _ w ha.num ha.den hb.num hb.den ha.wf hb.wf).mono fun _ _ h => h.tf (fadd_good a b).wf
theorem rSub : Calls Tryz.prog 18 #[.agg #[.bool a.neg, .slice p.A a.num.length p.c, .slice p.B a.den.length p.d], .agg #[.bool b.neg, .slice q.A b.num.length q.c, .slice q.B b.den.length q.d]] w (TF w (fsub a b)) :=
  (sub_fr a b _ _ _ _ _ _ _ _ w ha.num ha.den hb.num hb.den ha.wf hb.wf).mono fun _ _ h => h.tf (fsub_good a b).wf
theorem rMul : Calls Tryz.prog 17 #[.agg #[.bool a.neg, .slice p.A a.num.length p.c, .slice p.B a.den.length p.d], .agg #[.bool b.neg, .slice q.A b.num.length q.c, .slice q.B b.den.length q.d]] w (TF w (fmul a b)) :=
  (mul_fr a b _ _ _ _ _ _ _ _ w ha.num ha.den hb.num hb.den ha.wf hb.wf).mono fun _ _ h => h.tf (fmul_good a b).wf
theorem rQuo : Calls Tryz.prog 21 #[.agg #[.bool a.neg, .slice p.A a.num.length p.c, .slice p.B a.den.length p.d], .agg #[.bool b.neg, .slice q.A b.num.length q.c, .slice q.B b.den.length q.d]] w (TF w (fquo a b)) :=
  (quo_fr a b _ _ _ _ _ _ _ _ w ha.num ha.den hb.num hb.den ha.wf hb.wf).mono fun _ _ h => h.tf (fquo_good a b).wf
end
theorem fneg_wf {a : Fr} (wa : a.Wf) : (fneg a).1.Wf := by
  unfold fneg
  split
  · exact Fr.zero_wf
  · exact enc_wf _
theorem rNeg (a : Fr) (p : Adr) (w : World) (ha : RF w p a) : Calls Tryz.prog 19 #[.agg #[.bool a.neg, .slice p.A a.num.length p.c, .slice p.B a.den.length p.d]] w (TF w (fneg a)) :=
  (neg_fr a _ _ _ _ w ha.num ha.den ha.wf).mono fun _ _ h => h.tf (fneg_wf ha.wf)
theorem rSame (a b : Fr) (p q : Adr) (w : World) (ha : RF w p a) (hb : RF w q b) : Calls Tryz.prog 22 #[.agg #[.bool a.neg, .slice p.A a.num.length p.c, .slice p.B a.den.length p.d], .agg #[.bool b.neg, .slice q.A b.num.length q.c, .slice q.B b.den.length q.d]] w fun e w' => e = .returned (.bool (decide (a = b))) ∧ Below w.heap.size w w' :=
  same_fr a b _ _ _ _ _ _ _ _ w ha.num ha.den hb.num hb.den _ rfl
theorem fsmall_wf (n d : Int) : (fsmall n d).1.Wf := by
  unfold fsmall
  split
  · exact Fr.zero_wf
  · exact tell_wf _
theorem rSmall (n d : Int) (w : World) (h0 : -9223372036854775808 ≤ n) (h1 : n ≤ 9223372036854775807) (k0 : -9223372036854775808 ≤ d) (k1 : d ≤ 9223372036854775807) : Calls Tryz.prog 69 #[.int .i64 n, .int .i64 d] w (TF w (fsmall n d)) :=
  (small_frac n d w h0 h1 k0 k1).mono fun _ _ h => h.tf (fsmall_wf n d)
section
variable (a b : Fr) (p q : Adr) (w : World) (ha : RF w p a) (hb : RF w q b)
include ha hb
end
abbrev toFr (x : El tR) : Fr := ⟨x.1, x.2.1, x.2.2.1⟩
abbrev ofFr (x : Fr) : El tR := (x.neg, x.num, x.den, ())
abbrev toGa (x : El tG) : Ga := ⟨toFr x.1, toFr x.2.1⟩
abbrev ofGa (x : Ga) : El tG := (ofFr x.re, ofFr x.im, ())
def Er (e : Int) : Prop := 0 ≤ e ∧ e ≤ 1000
theorem adr_add (g o j : Nat) : (⟨g, o, none⟩ : Addr).add j = ⟨g, o + j, none⟩ := by
  unfold Addr.add
  split
  · rename_i h; subst h; rfl
  · rfl
theorem rd_of {Z : Nat → Prop} {w : World} {l : List Int} {vs : List Value} (h : RT Z w tW32 l vs) : ∃ A c, vs = [.slice A l.length c] ∧ Rd w A c l ∧ Wf l := by
  have hw := h.wf32
  rw [RT] at h
  obtain ⟨A, c, h1, h2, h3, h4, h5⟩ := h
  refine ⟨A, c, h1, ⟨h2, h3, h4, fun j hj => ?_⟩, hw⟩
  obtain ⟨g, o, us, e1, _, e3, e4⟩ := h5 j hj
  rw [RT] at e3
  refine ⟨_, e1, ?_⟩
  rw [e3.1] at e4
  have := e4 0 _ rfl
  rw [nth_lt l j hj, adr_add]
  simpa [Ty.size] using this
theorem rv_fr {Z : Nat → Prop} {w : World} {x : El tR} {v : Value} (h : RV Z w tR x v) : ∃ p : Adr, v = .agg #[.bool (toFr x).neg, .slice p.A (toFr x).num.length p.c, .slice p.B (toFr x).den.length p.d] ∧ RF w p (toFr x) := by
  unfold RV at h
  rw [if_pos (show tR.agg = true from rfl)] at h
  obtain ⟨us, rfl, h⟩ := h
  obtain ⟨u1, u2, e, h1, h2⟩ : ∃ u u', us.toList = u ++ u' ∧ RT Z w .bo x.1 u ∧ RT Z w (.pr tW32 (.pr tW32 .un)) x.2 u' := by rw [RT] at h; exact h
  obtain ⟨u3, u4, rfl, h3, h4⟩ : ∃ u u', u2 = u ++ u' ∧ RT Z w tW32 x.2.1 u ∧ RT Z w (.pr tW32 .un) x.2.2 u' := by rw [RT] at h2; exact h2
  obtain ⟨u5, u6, rfl, h5, h6⟩ : ∃ u u', u4 = u ++ u' ∧ RT Z w tW32 x.2.2.1 u ∧ RT Z w .un x.2.2.2 u' := by rw [RT] at h4; exact h4
  have h1 : u1 = [.bool x.1] := by rw [RT] at h1; exact h1
  have h6 : u6 = [] := by rw [RT] at h6; exact h6
  subst h1 h6
  obtain ⟨A, c, rfl, r1, w1⟩ := rd_of h3
  obtain ⟨B, d, rfl, r2, w2⟩ := rd_of h5
  refine ⟨⟨A, c, B, d⟩, ?_, r1, r2, w1, w2⟩
  congr 1
  apply Array.ext'
  rw [e]; rfl
def blkA : Option Addr → List Nat
  | none => []
  | some a => [a.block]
theorem rowQ_words {Z : Nat → Prop} {w : World} {base : Nat} {g c : Nat} {cur : Array Value} {xs : List Int} {m n : Nat} (hb : base ≤ g) (h2 : w.heap[g]? = some (.cells cur 46 (0, 0))) (h5 : cur.size = c) (h3 : xs.length + (mks m (.it .u32)).length ≤ c) (h4 : c ≤ maxI) (hw : Wf xs)
    (hc : ∀ (j : Nat) (h : j < xs.length), w.cell? ⟨g, j, none⟩ = some (.int .u32 (xs[j]'h))) (hm : MK w 1 (mks m (.it .u32)) g xs.length) : rowQ w base (.it .u32) (fun x us b => RQ true Z w base (.it .u32) x us b) xs (mks m (.it .u32)) n [.slice (some ⟨g, 0, none⟩) n c] [g] := by
  have := rowQ_of_ty (Z := Z) (Z' := Z) (w := w) (base := base) (t := .it .u32) (l := xs) (m := m) (g := g) (e := ⟨some g, n, c, []⟩) (vs := cur) rfl rfl hb rfl h2 (by rw [h5]; exact (Nat.mul_one c).symm) h3 h4 (fun j hj => ⟨[.int .u32 (xs[j]'hj)], ?_, fun i u hu => ?_⟩) (by rw [show xs.length * (Ty.it IntKind.u32).size = xs.length from Nat.mul_one _]; exact hm)
  · exact this
  · rw [RT]
    obtain ⟨e1, e2⟩ := hw _ (List.getElem_mem hj)
    exact ⟨rfl, e1, Int.le_of_lt_add_one e2⟩
  · cases i with
    | zero =>
      cases hu
      rw [show 0 + (j * (Ty.it IntKind.u32).size + 0) = j by show 0 + (j * 1 + 0) = j; omega]
      exact hc j hj
    | succ i => simp at hu
theorem rq_own {Z : Nat → Prop} {w : World} {base : Nat} {A : Option Addr} {c : Nat} {xs : List Int} (h : Own w base A c xs) (hw : Wf xs) : RQ true Z w base tW32 xs [.slice A xs.length c] (blkA A) := by
  unfold RQ
  rw [if_pos rfl]
  rcases h.cases with ⟨rfl, rfl, rfl⟩ | ⟨g, cur, rfl, h1, h2, h3, h4, h5, h6⟩
  · exact .inl ⟨rfl, rfl, rfl⟩
  · refine .inr (rowQ_words (m := 0) h1 h2 h5 h3 h4 hw (fun j hj => ?_) (fun j us hj => by simp [mks] at hj))
    obtain ⟨a, ha, hc⟩ := h.rd.at_ j hj
    cases ha
    rw [nth_lt xs j hj, adr_add] at hc
    simpa using hc
theorem rq_fr {Z : Nat → Prop} {w : World} {base : Nat} {p : Adr} {f : Fr} (h : OF w base p f) : RQ true Z w base tR (ofFr f) [.bool f.neg, .slice p.A f.num.length p.c, .slice p.B f.den.length p.d] (blkA p.A ++ blkA p.B) :=
  ⟨[_], _, [], _, rfl, rfl, ⟨by rw [RT], rfl⟩, [_], [_], _, _, rfl, rfl, rq_own h.num h.wf.num, [_], [], _, [], rfl, (List.append_nil _).symm, rq_own h.den h.wf.den, rfl, rfl⟩
theorem blkA_nodup {p : Adr} (h : ∀ a b, p.A = some a → p.B = some b → a.block ≠ b.block) : (blkA p.A ++ blkA p.B).Nodup := by
  cases hA : p.A <;> cases hB : p.B <;> simp [blkA]
  exact h _ _ hA hB
theorem blkA_base {w : World} {base : Nat} {p : Adr} {f : Fr} (h : OF w base p f) : ∀ g ∈ blkA p.A ++ blkA p.B, base ≤ g := fun g hg => by
  rcases List.mem_append.1 hg with hg | hg
  · cases hA : p.A with
    | none => rw [hA] at hg; simp [blkA] at hg
    | some a => rw [hA] at hg; simp [blkA] at hg; have := h.num; rw [hA] at this; rw [hg]; exact this.block.1
  · cases hB : p.B with
    | none => rw [hB] at hg; simp [blkA] at hg
    | some a => rw [hB] at hg; simp [blkA] at hg; have := h.den; rw [hB] at this; rw [hg]; exact this.block.1
theorem rv_int {Z : Nat → Prop} {w : World} {k : IntKind} {x : Int} {v : Value} (h : RV Z w (.it k) x v) : v = .int k x ∧ k.min ≤ x ∧ x ≤ k.max := by
  unfold RV at h
  rw [if_neg (by simp [Ty.agg]), RT] at h
  exact ⟨by simpa using h.1, h.2⟩
theorem rq_err {Z : Nat → Prop} {w : World} {base : Nat} {e : Int} (h : Er e) : RQ true Z w base (.it .i64) e [.int .i64 e] [] := by
  refine ⟨?_, rfl⟩
  rw [RT]
  refine ⟨rfl, ?_, ?_⟩
  · exact Int.le_trans (by decide) h.1
  · exact Int.le_trans h.2 (by decide)
def pR (t : Fr × Int) : El .un × Els [tR, .it .i64] := ((), (ofFr t.1, t.2, ()))
def sp1 (F : Fr → Fr × Int) : Spec := { q := .un, ps := [tR], rs := [tR, .it .i64], fresh := true, pre := fun _ _ => none, post := fun _ x => pR (F (toFr x.1)) }
def sp2 (F : Fr → Fr → Fr × Int) : Spec := { q := .un, ps := [tR, tR], rs := [tR, .it .i64], fresh := true, pre := fun _ _ => none, post := fun _ x => pR (F (toFr x.1) (toFr x.2.1)) }
def spI (F : Int → Int → Fr × Int) : Spec := { q := .un, ps := [.it .i64, .it .i64], rs := [tR, .it .i64], fresh := true, pre := fun _ _ => none, post := fun _ x => pR (F x.1 x.2.1) }
def spE1 (F : Fr → Int) : Spec := { q := .un, ps := [tR], rs := [.it .i64], fresh := true, pre := fun _ _ => none, post := fun _ x => ((), (F (toFr x.1), ())) }
def spB2 (F : Fr → Fr → Bool) : Spec := { q := .un, ps := [tR, tR], rs := [.bo], fresh := true, pre := fun _ _ => none, post := fun _ x => ((), (F (toFr x.1) (toFr x.2.1), ())) }
theorem told_new {gv : Nat} {S : Spec} {Z : Nat → Prop} {w w' : World} {us : List Value} {bs : List Nat} {r : Els S.rs} {v : Value} (hS : S.ptr = false) (hf : S.fresh = true) (ht : told_ us v) (hZ : ∀ g, Z g → g < w.heap.size) (hr : RQs true Z w' w.heap.size S.rs r us bs) (hn : bs.Nodup) (hb : ∀ g ∈ bs, w.heap.size ≤ g) (x : Below w.heap.size w w') {q : El S.q} :
    ∃ v' us bs Z', Ending.returned v = .returned v' ∧ told_ us v' ∧ RQs S.fresh Z' w' w.heap.size S.rs r us bs ∧ bs.Nodup ∧ (∀ g ∈ bs, ¬ Z' g) ∧
      (∀ g, Z g → Z' g) ∧ (∀ g, Z' g → Z g ∨ w.heap.size ≤ g) ∧ (∀ g, Z' g → g < w'.heap.size) ∧ w.grownBy w' (if S.ptr = true then some gv else none) ∧
      (S.ptr = true → ∃ cells et, w'.heap[gv]? = some (.cells cells et (0, 0)) ∧ RT Z' w' S.q q cells.toList) :=
  ⟨v, us, bs, Z, rfl, ht, by rw [hf]; exact hr, hn, fun g hg hz => absurd (hZ g hz) (by have := hb g hg; omega), fun g h => h, fun g h => .inl h, fun g h => Nat.lt_of_lt_of_le (hZ g h) (Below.size x), by rw [hS]; exact Ext.by_ x none, fun h => by rw [hS] at h; cases h⟩
theorem told_TF {gv : Nat} {S : Spec} {Z : Nat → Prop} {w w' : World} {t : Fr × Int} {e : Ending} (hS : S.ptr = false) (hf : S.fresh = true) (hrs : S.rs = [tR, .it .i64]) (he : Er t.2) (h : TF w t e w') (hZ : ∀ g, Z g → g < w.heap.size) {q : El S.q} {r : Els S.rs} (hr : r = hrs ▸ (ofFr t.1, t.2, ())) :
    ∃ v us bs Z', e = .returned v ∧ told_ us v ∧ RQs S.fresh Z' w' w.heap.size S.rs r us bs ∧ bs.Nodup ∧ (∀ g ∈ bs, ¬ Z' g) ∧
      (∀ g, Z g → Z' g) ∧ (∀ g, Z' g → Z g ∨ w.heap.size ≤ g) ∧ (∀ g, Z' g → g < w'.heap.size) ∧ w.grownBy w' (if S.ptr = true then some gv else none) ∧
      (S.ptr = true → ∃ cells et, w'.heap[gv]? = some (.cells cells et (0, 0)) ∧ RT Z' w' S.q q cells.toList) := by
  obtain ⟨p, rfl, h1, h2⟩ := h
  refine told_new (us := [.agg #[.bool t.1.neg, .slice p.A t.1.num.length p.c, .slice p.B t.1.den.length p.d], .int .i64 t.2]) (bs := blkA p.A ++ blkA p.B) hS hf (.inr ⟨by simp, rfl⟩) hZ ?_ (blkA_nodup h1.ap) (blkA_base h1) h2
  obtain ⟨qq, ps, rs, fresh, pre, post⟩ := S
  cases hrs
  subst hr
  exact ⟨_, [], (List.append_nil _).symm, ⟨_, rfl, rq_fr h1⟩, [], [], rfl, rq_err (base := w.heap.size) he, rfl⟩
section
variable {f : Nat} (hc : ∀ (vs : Array Value) (w : World), (callFunc f vs).run Tryz.prog w = .ok (.enter f vs) w)
include hc
theorem fnOk_2 {F : Fr → Fr → Fr × Int} (he : ∀ a b, Er (F a b).2) (h : ∀ (a b : Fr) (p q : Adr) (w : World), RF w p a → RF w q b → Calls Tryz.prog f #[.agg #[.bool a.neg, .slice p.A a.num.length p.c, .slice p.B a.den.length p.d], .agg #[.bool b.neg, .slice q.A b.num.length q.c, .slice q.B b.den.length q.d]] w (TF w (F a b))) : FnOk Tryz.prog f (sp2 F) := by
  refine ⟨hc, fun Z w gv vs y x hZ hv _ _ _ => ?_⟩
  match vs, hv with
  | [u, v], ⟨h1, h2, _⟩ =>
    obtain ⟨p, rfl, k1⟩ := rv_fr h1
    obtain ⟨q, rfl, k2⟩ := rv_fr h2
    exact (h _ _ p q w k1 k2).mono fun e w' ht => told_TF (S := sp2 F) rfl rfl rfl (he _ _) ht hZ rfl
theorem fnOk_1 {F : Fr → Fr × Int} (he : ∀ a, Er (F a).2) (h : ∀ (a : Fr) (p : Adr) (w : World), RF w p a → Calls Tryz.prog f #[.agg #[.bool a.neg, .slice p.A a.num.length p.c, .slice p.B a.den.length p.d]] w (TF w (F a))) : FnOk Tryz.prog f (sp1 F) := by
  refine ⟨hc, fun Z w gv vs y x hZ hv _ _ _ => ?_⟩
  match vs, hv with
  | [u], ⟨h1, _⟩ =>
    obtain ⟨p, rfl, k1⟩ := rv_fr h1
    exact (h _ p w k1).mono fun e w' ht => told_TF (S := sp1 F) rfl rfl rfl (he _) ht hZ rfl
theorem fnOk_I {F : Int → Int → Fr × Int} (he : ∀ a b, Er (F a b).2) (h : ∀ (n d : Int) (w : World), -9223372036854775808 ≤ n → n ≤ 9223372036854775807 → -9223372036854775808 ≤ d → d ≤ 9223372036854775807 → Calls Tryz.prog f #[.int .i64 n, .int .i64 d] w (TF w (F n d))) : FnOk Tryz.prog f (spI F) := by
  refine ⟨hc, fun Z w gv vs y x hZ hv _ _ _ => ?_⟩
  match vs, hv with
  | [u, v], ⟨h1, h2, _⟩ =>
    obtain ⟨rfl, k1, k2⟩ := rv_int h1
    obtain ⟨rfl, l1, l2⟩ := rv_int h2
    exact (h _ _ w k1 k2 l1 l2).mono fun e w' ht => told_TF (S := spI F) rfl rfl rfl (he _ _) ht hZ rfl
theorem fnOk_E1 {F : Fr → Int} (he : ∀ a, Er (F a)) (h : ∀ (a : Fr) (p : Adr) (w : World), RF w p a → Calls Tryz.prog f #[.agg #[.bool a.neg, .slice p.A a.num.length p.c, .slice p.B a.den.length p.d]] w fun e w' => e = .returned (.int .i64 (F a)) ∧ Below w.heap.size w w') : FnOk Tryz.prog f (spE1 F) := by
  refine ⟨hc, fun Z w gv vs y x hZ hv _ _ _ => ?_⟩
  match vs, hv with
  | [u], ⟨h1, _⟩ =>
    obtain ⟨p, rfl, k1⟩ := rv_fr h1
    refine (h _ p w k1).mono fun e w' ⟨e1, e2⟩ => ?_
    subst e1
    exact told_new (S := spE1 F) (r := (F (toFr x.1), ())) (us := [_]) (bs := []) rfl rfl (.inl ⟨_, rfl, rfl⟩) hZ ⟨[], [], rfl, rq_err (base := w.heap.size) (he _), rfl⟩ List.nodup_nil (fun g hg => by simp at hg) e2
theorem fnOk_B2 {F : Fr → Fr → Bool} (h : ∀ (a b : Fr) (p q : Adr) (w : World), RF w p a → RF w q b → Calls Tryz.prog f #[.agg #[.bool a.neg, .slice p.A a.num.length p.c, .slice p.B a.den.length p.d], .agg #[.bool b.neg, .slice q.A b.num.length q.c, .slice q.B b.den.length q.d]] w fun e w' => e = .returned (.bool (F a b)) ∧ Below w.heap.size w w') : FnOk Tryz.prog f (spB2 F) := by
  refine ⟨hc, fun Z w gv vs y x hZ hv _ _ _ => ?_⟩
  match vs, hv with
  | [u, v], ⟨h1, h2, _⟩ =>
    obtain ⟨p, rfl, k1⟩ := rv_fr h1
    obtain ⟨q, rfl, k2⟩ := rv_fr h2
    refine (h _ _ p q w k1 k2).mono fun e w' ⟨e1, e2⟩ => ?_
    subst e1
    exact told_new (S := spB2 F) (r := (F (toFr x.1) (toFr x.2.1), ())) (us := [_]) (bs := []) rfl rfl (.inl ⟨_, rfl, rfl⟩) hZ ⟨[], [], rfl, ⟨by rw [RT], rfl⟩, rfl⟩ List.nodup_nil (fun g hg => by simp at hg) e2
end
theorem Er.zero : Er 0 := ⟨by decide, by decide⟩
theorem er_fchk (a : Fr) : Er (fchk a) := by
  unfold fchk
  repeat' split
  all_goals exact ⟨by decide, by decide⟩
theorem er_tell (q : Rat) : Er (tell q).2 := by
  unfold tell
  split
  · exact ⟨by decide, by decide⟩
  · exact Er.zero
theorem er_both {a b : Fr} {r : Rat → Rat → Fr × Int} (h : ∀ p q, Er (r p q).2) : Er (both a b r).2 := by
  unfold both
  split
  · exact er_fchk a
  · split
    · exact er_fchk b
    · exact h _ _
theorem er_add (a b : Fr) : Er (fadd a b).2 := er_both fun _ _ => er_tell _
theorem er_sub (a b : Fr) : Er (fsub a b).2 := er_both fun _ _ => er_tell _
theorem er_mul (a b : Fr) : Er (fmul a b).2 := er_both fun _ _ => er_tell _
theorem er_quo (a b : Fr) : Er (fquo a b).2 := er_both fun _ _ => by
  split
  · exact ⟨by decide, by decide⟩
  · exact er_tell _
theorem er_neg (a : Fr) : Er (fneg a).2 := by
  unfold fneg
  split
  · exact er_fchk a
  · exact Er.zero
theorem er_small (n d : Int) : Er (fsmall n d).2 := by
  unfold fsmall
  split
  · exact ⟨by decide, by decide⟩
  · exact er_tell _
theorem RT.pr_ {Z : Nat → Prop} {w : World} {a b : Ty} {x : El (.pr a b)} {vs : List Value} (h : RT Z w (.pr a b) x vs) : ∃ us us', vs = us ++ us' ∧ RT Z w a x.1 us ∧ RT Z w b x.2 us' := by rw [RT] at h; exact h
theorem RT.bo_ {Z : Nat → Prop} {w : World} {x : Bool} {vs : List Value} (h : RT Z w .bo x vs) : vs = [.bool x] := by rw [RT] at h; exact h
theorem RT.un_ {Z : Nat → Prop} {w : World} {x : Unit} {vs : List Value} (h : RT Z w .un x vs) : vs = [] := by rw [RT] at h; exact h
abbrev tW : Ty := .pr (.it .i64) .un
def tysS : List (Nat × (Ty × Nat)) := [(4, (.bo, 0)), (3, (.it .i64, 0)), (46, (.it .u32, 0)), (22, (tW32, 46)),
 (24, (tR, 0)),
 (50, (tG, 0)),
 (30, (.it .i64, 0)),
 (52, (.sl tG, 50)),
 (27, (.sl tR, 24)),
 (119, (tW, 0)),
 (21, (.it .i32, 0)),
 (5, (.it .u8, 0)),
 (59, (tRot, 0)),
 (75, (tTide, 0)),
 (84, (.sl tTide, 75)),
 (43, (tWhole, 0)),
 (9, (.st, 0)),
 (29, (.pr .bo .un, 0)),
 (146, (.it .u64, 0)),
  (2, (.it .i64, 0))]
theorem tys_ok : tyB Tryz.prog tysS tysS = true := by kernel_rfl
abbrev cfgS (N : Nat) (hp : Bool) (pr : List (Nat × Prim)) : Cfg := { N, hp, ty := tysS, pr }
def codeOf (f : Func) : Code := match f.body with
  | some c => c
  | none => .skip
theorem mixed_ : Tryz.prog.follows .mixedOrders = true := by kernel_rfl
theorem prims_nil {P : Program} : ∀ f p, look ([] : List (Nat × Prim)) f = some p → PrimOk P f p := fun _ _ h => by cases h
theorem prims_cons {P : Program} {f : Nat} {p : Prim} {l : List (Nat × Prim)} (h : PrimOk P f p) (k : ∀ f p, look l f = some p → PrimOk P f p) : ∀ g q, look ((f, p) :: l) g = some q → PrimOk P g q := fun g q e => by
  unfold look at e
  cases hb : Nat.beq f g with
  | true => rw [hb] at e; cases e; rw [← Nat.eq_of_beq_eq_true hb]; exact h
  | false => rw [hb] at e; exact k g q e
theorem rcheck_rf_ (a : Fr) (p : Adr) (w : World) (ha : RF w p a) : Calls Tryz.prog 24 #[.agg #[.bool a.neg, .slice p.A a.num.length p.c, .slice p.B a.den.length p.d]] w fun e w' => e = .returned (.int .i64 (fchk a)) ∧ Below w.heap.size w w' :=
  rcheck_any a.neg p.A p.B a.num a.den p.c p.d w ha.num ha.den ha.wf.num ha.wf.den
def sp_rCheck : Spec := spE1 fchk
theorem fo_rCheck : FnOk Tryz.prog 24 sp_rCheck := fnOk_E1 (callFunc_enter Tryz.func24 (by kernel_rfl) rfl) er_fchk (fun a p w ha => rcheck_rf_ a p w ha)
def sp_rAdd : Spec := sp2 fadd
theorem fo_rAdd : FnOk Tryz.prog 15 sp_rAdd := fnOk_2 (callFunc_enter Tryz.func15 (by kernel_rfl) rfl) er_add (fun a b p q w ha hb => rAdd a b p q w ha hb)
def sp_rSub : Spec := sp2 fsub
theorem fo_rSub : FnOk Tryz.prog 18 sp_rSub := fnOk_2 (callFunc_enter Tryz.func18 (by kernel_rfl) rfl) er_sub (fun a b p q w ha hb => rSub a b p q w ha hb)
def sp_rMul : Spec := sp2 fmul
theorem fo_rMul : FnOk Tryz.prog 17 sp_rMul := fnOk_2 (callFunc_enter Tryz.func17 (by kernel_rfl) rfl) er_mul (fun a b p q w ha hb => rMul a b p q w ha hb)
def sp_rQuo : Spec := sp2 fquo
theorem fo_rQuo : FnOk Tryz.prog 21 sp_rQuo := fnOk_2 (callFunc_enter Tryz.func21 (by kernel_rfl) rfl) er_quo (fun a b p q w ha hb => rQuo a b p q w ha hb)
def sp_rNeg : Spec := sp1 fneg
theorem fo_rNeg : FnOk Tryz.prog 19 sp_rNeg := fnOk_1 (callFunc_enter Tryz.func19 (by kernel_rfl) rfl) er_neg (fun a p w ha => rNeg a p w ha)
def sp_rSmall : Spec := spI fsmall
theorem fo_rSmall : FnOk Tryz.prog 69 sp_rSmall := fnOk_I (callFunc_enter Tryz.func69 (by kernel_rfl) rfl) er_small (fun n d w h0 h1 k0 k1 => rSmall n d w h0 h1 k0 k1)
def sp_rSame : Spec := spB2 fun a b => decide (a = b)
theorem fo_rSame : FnOk Tryz.prog 22 sp_rSame := fnOk_B2 (callFunc_enter Tryz.func22 (by kernel_rfl) rfl)  (fun a b p q w ha hb => rSame a b p q w ha hb)
abbrev Ro (l : List Ty) : Type := El .un × Els l
abbrev aW (C : Cfg) (iv : Nat → Option Inv) (f : Func) (S : Spec) (y : El S.q) (x : Els S.ps) : Prop := aw C iv (codeOf f) 0 (retQ C S f.results.toList y x) (startT S x) (startO S y) 1
def toN (l : List Int) : Nat := (val l).toNat
def nrm (l : List Int) : Prop := l = wd (toN l)
theorem toN_wd (n : Nat) : toN (wd n) = n := by
  unfold toN
  rw [val_wd]
  rfl
theorem nrm_wd (n : Nat) : nrm (wd n) := by
  unfold nrm
  rw [toN_wd]
theorem nrm_ex {l : List Int} (h : nrm l) : ∃ n, l = wd n := ⟨_, h⟩
theorem rv_wd {Z : Nat → Prop} {w : World} {l : List Int} {v : Value} (h : RV Z w tW32 l v) : ∃ A c, v = .slice A l.length c ∧ Rd w A c l ∧ Wf l := by
  unfold RV at h
  rw [if_neg (by simp [Ty.agg])] at h
  obtain ⟨A, c, e, h1, h2⟩ := rd_of h
  exact ⟨A, c, by simpa using e, h1, h2⟩
theorem blkA1_nodup (A : Option Addr) : (blkA A).Nodup := by cases A <;> simp [blkA]
theorem blkA1_base {w : World} {base : Nat} {A : Option Addr} {c : Nat} {xs : List Int} (h : Own w base A c xs) : ∀ g ∈ blkA A, base ≤ g := fun g hg => by
  cases hA : A with
  | none => rw [hA] at hg; simp [blkA] at hg
  | some a => rw [hA] at hg; simp [blkA] at hg; rw [hA] at h; rw [hg]; exact h.block.1
theorem cmp_rng (m n : Nat) : -1 ≤ cmp m n ∧ cmp m n ≤ 1 := by
  unfold cmp
  repeat' split
  all_goals omega
section
variable {f : Nat} (hc : ∀ (vs : Array Value) (w : World), (callFunc f vs).run Tryz.prog w = .ok (.enter f vs) w)
include hc
end
def IntP (w : World) (t : Int × Int) (e : Ending) (w' : World) : Prop := e = .returned (.tuple #[.int .i64 t.1, .int .i64 t.2]) ∧ Ext w w'
set_option maxRecDepth 4000 in
set_option maxHeartbeats 2000000 in
theorem compareF_raw (s t : Bool) (xs ys us vs : List Int) (A B C D : Option Addr) (c1 c2 c3 c4 : Nat) (w : World) (ha : Rd w A c1 xs) (hb : Rd w B c2 ys) (hc : Rd w C c3 us) (hd : Rd w D c4 vs) (wa : (⟨s, xs, ys⟩ : Fr).Wf) (wb : (⟨t, us, vs⟩ : Fr).Wf) :
    Calls Tryz.prog 23 #[.agg #[.bool s, .slice A xs.length c1, .slice B ys.length c2], .agg #[.bool t, .slice C us.length c3, .slice D vs.length c4]] w (IntP w (fcmp ⟨s, xs, ys⟩ ⟨t, us, vs⟩)) := by
  have HCK := Lib.hid (fun wx (h1 : Rd wx A c1 xs) (h2 : Rd wx B c2 ys) (h3 : Rd wx C c3 us) (h4 : Rd wx D c4 vs) => show Calls Tryz.prog 77 #[.agg #[.bool s, .slice A xs.length c1, .slice B ys.length c2], .agg #[.bool t, .slice C us.length c3, .slice D vs.length c4]] wx (fun e w' => e = .returned (.int .i64 (fchk2 ⟨s, xs, ys⟩ ⟨t, us, vs⟩)) ∧ Ext wx w') from checks_any ⟨s, xs, ys⟩ ⟨t, us, vs⟩ A B C D c1 c2 c3 c4 wx h1 h2 h3 h4 wa wb)
  obtain ⟨a, ea⟩ : ∃ a : Fr, a = ⟨s, xs, ys⟩ := ⟨_, rfl⟩
  obtain ⟨b, eb⟩ : ∃ b : Fr, b = ⟨t, us, vs⟩ := ⟨_, rfl⟩
  rw [← ea, ← eb] at HCK ⊢
  rw [← ea] at wa
  rw [← eb] at wb
  have HA := Lib.hid ha
  have HB := Lib.hid hb
  have HC := Lib.hid hc
  have HD := Lib.hid hd
  clear ha hb hc hd
  by_cases hk : fchk2 a b ≠ 0
  · have HT := Lib.hid (show fcmp a b = (0, fchk2 a b) from if_pos hk)
    have hb1 : (fchk2 a b != 0) = true := bne_iff_ne.2 hk
    rw [HT.out]
    clear hk ea eb
    go_enter Tryz.func23, Tryz.ntmps23
    go_wp2_with fail
    obtain ⟨W, hW⟩ : ∃ W, W = (w.alloc (.cells #[.bool s, .slice A xs.length c1, .slice B ys.length c2] 24)).alloc (.cells #[.bool t, .slice C us.length c3, .slice D vs.length c4] 24) := ⟨_, rfl⟩
    have F0 : Six W w.heap.size (.bool s) (.slice A xs.length c1) (.slice B ys.length c2) (.bool t) (.slice C us.length c3) (.slice D vs.length c4) := by rw [hW]; refine ⟨?_, ?_, ?_, ?_, ?_, ?_⟩ <;> simp [go_sem]
    have HX : Hid (Ext w W) := by rw [hW]; exact ((Ext.refl w).alloc _).alloc _
    have HZ := Lib.hid (show W.heap.size = w.heap.size + 2 by rw [hW]; simp)
    try rw [← hW]
    clear hW
    refine (HCK.out W (HA.out.ext HX.out) (HB.out.ext HX.out) (HC.out.ext HX.out) (HD.out.ext HX.out)).mono ?_; rintro e w1 ⟨rfl, hx1⟩
    have F1 := six_ext hx1 F0
    have HX1 := Lib.hid (HX.out.trans hx1)
    clear hx1 F0 HX
    clear F1
    go_wp2_with fail
    go_ret2
    exact ⟨rfl, HX1.out⟩
  have h0 : fchk2 a b = 0 := by simpa using hk
  have hb1 : (fchk2 a b != 0) = false := bne_eq_false_iff_eq.2 h0
  obtain ⟨p, q, ep, eq, lp, lq⟩ := fchk2_ok wa wb h0
  have LP := not_lng lp
  have LQ := not_lng lq
  have E1 : a.num = wd p.num.natAbs := by rw [ep]; rfl
  have E2 : a.den = wd p.den := by rw [ep]; rfl
  have E3 : b.num = wd q.num.natAbs := by rw [eq]; rfl
  have E4 : b.den = wd q.den := by rw [eq]; rfl
  have E5 : a.neg = decide (p.num < 0) := by rw [ep]; rfl
  have E6 : b.neg = decide (q.num < 0) := by rw [eq]; rfl
  rw [ea] at E1 E2 E5
  rw [eb] at E3 E4 E6
  simp only at E1 E2 E3 E4 E5 E6
  obtain ⟨c, hcc⟩ : ∃ c, c = cmpq p q := ⟨_, rfl⟩
  have HT := Lib.hid (show fcmp a b = (c, 0) by unfold fcmp; rw [if_neg (by omega), ep, eq, dec_enc, dec_enc, hcc])
  rw [HT.out]
  have lX := wd_len_mul p.num.natAbs q.den
  have lY := wd_len_mul q.num.natAbs p.den
  obtain ⟨X, hX⟩ : ∃ X, X = p.num.natAbs * q.den := ⟨_, rfl⟩
  obtain ⟨Y, hY⟩ : ∃ Y, Y = q.num.natAbs * p.den := ⟨_, rfl⟩
  have HT1 := Lib.hid (fun wx (hx : Ext w wx) => by
    have h1 := times_any A D p.num.natAbs q.den c1 c4 wx (E1 ▸ HA.out.ext hx) (E4 ▸ HD.out.ext hx) (by omega)
    rw [← E1, ← E4, ← hX] at h1
    exact h1)
  have HT2 := Lib.hid (fun wx (hx : Ext w wx) => by
    have h1 := times_any C B q.num.natAbs p.den c3 c2 wx (E3 ▸ HC.out.ext hx) (E2 ▸ HB.out.ext hx) (by omega)
    rw [← E3, ← E2, ← hY] at h1
    exact h1)
  have HCM := Lib.hid (show (s = true → t = true → cmp Y X = c) ∧ (s = true → t = false → c = -1) ∧ (s = false → t = true → c = 1) ∧ (s = false → t = false → cmp X Y = c) from by
    rw [hX, hY, hcc, E5, E6]
    exact ⟨fun h k => cmpq_nn p q (of_decide_eq_true h) (of_decide_eq_true k), fun h k => cmpq_np p q (of_decide_eq_true h) (of_decide_eq_false k), fun h k => cmpq_pn p q (of_decide_eq_false h) (of_decide_eq_true k), fun h k => cmpq_pp p q (of_decide_eq_false h) (of_decide_eq_false k)⟩)
  rw [← hX] at lX
  rw [← hY] at lY
  clear hX hY hk h0 ep eq E1 E2 E3 E4 E5 E6 ea eb hcc wa wb HT
  go_enter Tryz.func23, Tryz.ntmps23
  go_wp2_with fail
  obtain ⟨W, hW⟩ : ∃ W, W = (w.alloc (.cells #[.bool s, .slice A xs.length c1, .slice B ys.length c2] 24)).alloc (.cells #[.bool t, .slice C us.length c3, .slice D vs.length c4] 24) := ⟨_, rfl⟩
  have F0 : Six W w.heap.size (.bool s) (.slice A xs.length c1) (.slice B ys.length c2) (.bool t) (.slice C us.length c3) (.slice D vs.length c4) := by rw [hW]; refine ⟨?_, ?_, ?_, ?_, ?_, ?_⟩ <;> simp [go_sem]
  have HX : Hid (Ext w W) := by rw [hW]; exact ((Ext.refl w).alloc _).alloc _
  have HZ := Lib.hid (show W.heap.size = w.heap.size + 2 by rw [hW]; simp)
  try rw [← hW]
  clear hW
  refine (HCK.out W (HA.out.ext HX.out) (HB.out.ext HX.out) (HC.out.ext HX.out) (HD.out.ext HX.out)).mono ?_; rintro e w1 ⟨rfl, hx1⟩
  have F1 := six_ext hx1 F0
  have HX1 := Lib.hid (HX.out.trans hx1)
  clear hx1 F0 HX
  obtain ⟨u0, u1, u2, v0, v1, v2⟩ := id F1
  go_wp2_with fail
  go_region_held3 (fun w' => w'.cell? ⟨w.heap.size, 0, none⟩ = some (.bool s) ∧ w'.cell? ⟨w.heap.size, 1, none⟩ = some (.slice A xs.length c1) ∧ w'.cell? ⟨w.heap.size, 2, none⟩ = some (.slice B ys.length c2) ∧ w'.cell? ⟨w.heap.size + 1, 0, none⟩ = some (.bool t) ∧ w'.cell? ⟨w.heap.size + 1, 1, none⟩ = some (.slice C us.length c3) ∧ w'.cell? ⟨w.heap.size + 1, 2, none⟩ = some (.slice D vs.length c4)) (repeat (first | (with_reducible exact F1) | (with_reducible exact F2) | (with_reducible exact F3) | (with_reducible exact F4) | (with_reducible refine six_drew ?_)))
    (first
      | (go_at_call 80; ((with_reducible refine (HT1.out _ HX1.out.drew).mono ?_)); rintro e w2 ⟨A5, c5, rfl, p1, hx2⟩; have P1 := Lib.hid p1; have HX2 := Lib.hid hx2; have F2 := six_ext hx2 (six_drew F1); clear p1 hx2)
      | (go_at_call 80; ((with_reducible refine (HT2.out _ (HX1.out.drew.trans HX2.out)).mono ?_)); rintro e w3 ⟨A6, c6, rfl, p1, hx3⟩; have P2 := Lib.hid p1; have HX3 := Lib.hid hx3; have F3 := six_ext hx3 F2; clear p1 hx3))
  all_goals
    have HX9 := Lib.hid ((HX1.out.drew.trans HX2.out).trans HX3.out)
    have P1 := Lib.hid (P1.out.ext HX3.out)
    clear u0 u1 u2 v0 v1 v2 F1 F2
    obtain ⟨u0, u1, u2, v0, v1, v2⟩ := F3
    cases s with
    | true =>
      cases t with
      | true =>
        have HE := Lib.hid (HCM.out.1 rfl rfl)
        go_wp2_with fail
        refine (compare_any A6 A5 Y X _ _ _ P2.out.rd P1.out.rd).mono ?_; rintro e w4 ⟨rfl, hx⟩
        rw [HE.out]
        have HX4 := Lib.hid (HX9.out.trans hx)
        clear hx
        go_wp2_with fail
        go_ret2
        exact ⟨rfl, HX4.out⟩
      | false =>
        have HE := Lib.hid (HCM.out.2.1 rfl rfl)
        go_wp2_with fail
        go_ret2
        exact ⟨by rw [HE.out]; rfl, HX9.out⟩
    | false =>
      cases t with
      | true =>
        have HE := Lib.hid (HCM.out.2.2.1 rfl rfl)
        go_wp2_with fail
        go_ret2
        exact ⟨by rw [HE.out]; rfl, HX9.out⟩
      | false =>
        have HE := Lib.hid (HCM.out.2.2.2 rfl rfl)
        go_wp2_with fail
        refine (compare_any A5 A6 X Y _ _ _ P1.out.rd P2.out.rd).mono ?_; rintro e w4 ⟨rfl, hx⟩
        rw [HE.out]
        have HX4 := Lib.hid (HX9.out.trans hx)
        clear hx
        go_wp2_with fail
        go_ret2
        exact ⟨rfl, HX4.out⟩
theorem compare_fr (a b : Fr) (A B C D : Option Addr) (c1 c2 c3 c4 : Nat) (w : World) (ha : Rd w A c1 a.num) (hb : Rd w B c2 a.den) (hc : Rd w C c3 b.num) (hd : Rd w D c4 b.den) (wa : a.Wf) (wb : b.Wf) :
    Calls Tryz.prog 23 #[.agg #[.bool a.neg, .slice A a.num.length c1, .slice B a.den.length c2], .agg #[.bool b.neg, .slice C b.num.length c3, .slice D b.den.length c4]] w (IntP w (fcmp a b)) :=
  compareF_raw a.neg b.neg a.num a.den b.num b.den A B C D c1 c2 c3 c4 w ha hb hc hd wa wb
def spC2 : Spec := { q := .un, ps := [tR, tR], rs := [.it .i64, .it .i64], fresh := true, pre := fun _ _ => none, post := fun _ x => ((), ((fcmp (toFr x.1) (toFr x.2.1)).1, (fcmp (toFr x.1) (toFr x.2.1)).2, ())) }
theorem fcmp_rng (a b : Fr) : (-1 ≤ (fcmp a b).1 ∧ (fcmp a b).1 ≤ 1) ∧ Er (fcmp a b).2 := by
  unfold fcmp
  split
  · refine ⟨⟨by show (-1 : Int) ≤ 0; decide, by show (0 : Int) ≤ 1; decide⟩, ?_⟩
    unfold fchk2
    split
    · exact er_fchk a
    · exact er_fchk b
  · refine ⟨?_, Er.zero⟩
    unfold cmpq
    repeat' split
    all_goals constructor <;> simp
theorem rq_i64 {Z : Nat → Prop} {w : World} {base : Nat} {e : Int} (h : -1 ≤ e ∧ e ≤ 1) : RQ true Z w base (.it .i64) e [.int .i64 e] [] := by
  refine ⟨?_, rfl⟩
  rw [RT]
  exact ⟨rfl, Int.le_trans (by decide) h.1, Int.le_trans h.2 (by decide)⟩
theorem fnOk_C2 {f : Nat} (hc : ∀ (vs : Array Value) (w : World), (callFunc f vs).run Tryz.prog w = .ok (.enter f vs) w) (h : ∀ (a b : Fr) (A B C D : Option Addr) (c1 c2 c3 c4 : Nat) (w : World), Rd w A c1 a.num → Rd w B c2 a.den → Rd w C c3 b.num → Rd w D c4 b.den → a.Wf → b.Wf →
    Calls Tryz.prog f #[.agg #[.bool a.neg, .slice A a.num.length c1, .slice B a.den.length c2], .agg #[.bool b.neg, .slice C b.num.length c3, .slice D b.den.length c4]] w (IntP w (fcmp a b))) : FnOk Tryz.prog f spC2 := by
  refine ⟨hc, fun Z w gv vs y x hZ hv _ _ _ => ?_⟩
  match vs, hv with
  | [u, v], ⟨h1, h2, _⟩ =>
    obtain ⟨p, rfl, k1⟩ := rv_fr h1
    obtain ⟨q, rfl, k2⟩ := rv_fr h2
    refine (h (toFr x.1) (toFr x.2.1) p.A p.B q.A q.B _ _ _ _ w k1.num k1.den k2.num k2.den k1.wf k2.wf).mono fun e w' ⟨e1, e2⟩ => ?_
    subst e1
    have r := fcmp_rng (toFr x.1) (toFr x.2.1)
    exact told_new (S := spC2) (r := ((fcmp (toFr x.1) (toFr x.2.1)).1, (fcmp (toFr x.1) (toFr x.2.1)).2, ())) (us := [_, _]) (bs := []) rfl rfl (.inr ⟨by simp, rfl⟩) hZ ⟨[], [], rfl, rq_i64 (base := w.heap.size) r.1, [], [], rfl, rq_err (base := w.heap.size) r.2, rfl⟩ List.nodup_nil (fun g hg => by simp at hg) e2
def sp_rCmp : Spec := spC2
theorem fo_rCmp : FnOk Tryz.prog 23 sp_rCmp := fnOk_C2 (callFunc_enter Tryz.func23 (by kernel_rfl) rfl) compare_fr
def wchk (s : Bool) (xs : List Int) : Int := if 2048 < xs.length then 3 else if xs ≠ [] ∧ nth xs (xs.length - 1) = 0 then 11 else if xs = [] ∧ s = true then 11 else 0
set_option maxHeartbeats 1000000 in
theorem wcheck_any (s : Bool) (A : Option Addr) (xs : List Int) (c : Nat) (w : World) (h : Rd w A c xs) :
    Calls Tryz.prog 90 #[.agg #[.bool s, .slice A xs.length c]] w fun e w' => e = .returned (.int .i64 (wchk s xs)) ∧ Ext w w' := by
  have hl := h.lim
  have HA := Lib.hid h
  have HX := Lib.hid ((Ext.refl w).alloc (.cells #[.bool s, .slice A xs.length c] 43))
  clear h
  by_cases h1 : 2048 < xs.length
  · have HE := Lib.hid (show wchk s xs = 3 from if_pos h1)
    rw [HE.out]
    go_enter Tryz.func90, Tryz.ntmps90
    go_wp2
    go_ret
    exact ⟨rfl, HX.out⟩
  · by_cases h0 : xs.length = 0
    · have hnil := List.eq_nil_of_length_eq_zero h0
      have HE := Lib.hid (show wchk s xs = if s = true then 11 else 0 by
        unfold wchk; rw [if_neg h1, if_neg (fun h => h.1 hnil)]; simp [hnil])
      rw [HE.out]
      have hb : ((xs.length : Int) == 0) = true := beq_iff_eq.2 (by omega)
      have hp : ¬ (0 < xs.length) := by omega
      clear h0 hnil HE
      cases s
      all_goals
        go_enter Tryz.func90, Tryz.ntmps90
        go_wp2
        go_ret
        exact ⟨rfl, HX.out⟩
    · obtain ⟨k, hk⟩ := Nat.exists_eq_succ_of_ne_zero h0
      obtain ⟨a, rfl, hcell⟩ := (HA.out.ext HX.out).at_ k (by omega)
      have hne : xs ≠ [] := fun e => h0 (by rw [e]; rfl)
      have hb : ((xs.length : Int) == 0) = false := beq_eq_false_iff_ne.2 (by omega)
      have hp : 0 < xs.length := by omega
      have hi : ((xs.length : Int) - 1).toNat = k := by omega
      have hkl : (k : Int) < xs.length := by omega
      by_cases hz : nth xs k = 0
      · have HE := Lib.hid (show wchk s xs = 11 by unfold wchk; rw [if_neg h1, if_pos ⟨hne, by rw [hk]; exact hz⟩])
        rw [HE.out]
        rw [hz] at hcell
        clear hz hk h0 HE
        go_enter Tryz.func90, Tryz.ntmps90
        go_wp2
        go_ret
        exact ⟨rfl, HX.out⟩
      · have HE := Lib.hid (show wchk s xs = 0 by
          unfold wchk; rw [if_neg h1, if_neg, if_neg (fun h => hne h.1)]; rintro ⟨_, h2⟩; rw [hk] at h2; exact hz h2)
        rw [HE.out]
        have hz' : (nth xs k == 0) = false := by simpa using hz
        clear hz hk h0 HE
        go_enter Tryz.func90, Tryz.ntmps90
        go_wp2
        go_ret
        exact ⟨rfl, HX.out⟩
end Go.Proofs.YtjoonfegjobgbaaGreatDoor
