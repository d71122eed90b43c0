/- Texts of this claim, joined: K6 K9 K7a T1 R6 R7 R8 R9 R10 R11 R12 R13 R2s Y1 G1. -/
import Derived.Deep.RegionHeld3
import Derived.Handy
import Derived.Lib.ItoaWalk
import Derived.Test.YtakaehdolpmelaaGreatQn
set_option linter.unusedVariables false
set_option linter.unusedSimpArgs false
set_option maxRecDepth 100000
namespace Go.Proofs.YtakaehdolpmelaaGreat
open Go Go.RowKit
def LentP (w : World) (f : Fr) (e : Ending) (w' : World) : Prop :=
  ∃ A c B d, e = .returned (.agg #[.bool f.neg, .slice A f.num.length c, .slice B f.den.length d]) ∧ Own w' w.heap.size A c (f.num ++ marks) ∧ Own w' w.heap.size B d (f.den ++ marks) ∧ (∀ a b, A = some a → B = some b → a.block ≠ b.block) ∧ Ext w w'
set_option maxHeartbeats 2000000 in
theorem klentR_any (f : Fr) (A B : Option Addr) (c d : Nat) (w : World) (ha : Rd w A c f.num) (hb : Rd w B d f.den) (hm : f.num.length ≤ 35184372087808) (hm' : f.den.length ≤ 35184372087808) :
    Calls Tryz.prog 51 #[.agg #[.bool f.neg, .slice A f.num.length c, .slice B f.den.length d]] w (LentP w f) := by
  obtain ⟨s, xs, ys⟩ := f
  simp only at *
  have HA := Lib.hid ha
  have HB := Lib.hid hb
  obtain ⟨l, hl⟩ : ∃ l, xs.length = l := ⟨_, rfl⟩
  obtain ⟨n, hn⟩ : ∃ n, ys.length = n := ⟨_, rfl⟩
  have HL := Lib.hid hl
  have HN := Lib.hid hn
  rw [hl] at hm ⊢
  rw [hn] at hm' ⊢
  clear ha hb hl hn
  have HS1 := Lib.hid (fun wx (hx : Ext w wx) => klent_any A xs c l wx (HA.out.ext hx) HL.out (by omega))
  have HS2 := Lib.hid (fun wx (hx : Ext w wx) => klent_any B ys d n wx (HB.out.ext hx) HN.out (by omega))
  have HX := Lib.hid (((Ext.refl w).alloc (.cells #[.bool s, .slice A l c, .slice B n d] 26)).alloc (.cells #[.bool false, .slice none 0 0, .slice none 0 0] 26))
  go_enter Tryz.func51, Tryz.ntmps51
  go_wp2_with fail
  obtain ⟨W, hW⟩ : ∃ W, W = (w.alloc (.cells #[.bool s, .slice A l c, .slice B n d] 26)).alloc (.cells #[.bool false, .slice none 0 0, .slice none 0 0] 26) := ⟨_, rfl⟩
  have F0 : Thr W w.heap.size (.bool s) (.slice A l c) (.slice B n d) := by rw [hW]; refine ⟨?_, ?_, ?_⟩ <;> simp [go_sem]
  have HV : Hid (VarF (w.heap.size + 1) W.heap.size Fr.zero none 0 none 0 W) := by
    have h1 := VarF.zero (w.alloc (.cells #[.bool s, .slice A l c, .slice B n d] 26)) W.heap.size
    rw [← hW] at h1
    unfold Hid
    simpa using h1
  have HZ := Lib.hid (show W.heap.size = w.heap.size + 2 by rw [hW]; simp)
  rw [← hW] at HX
  try rw [← hW]
  clear hW
  go_region_held3 (fun w' => w'.cell? ⟨w.heap.size, 0, none⟩ = some (.bool s) ∧ w'.cell? ⟨w.heap.size, 1, none⟩ = some (.slice A l c) ∧ w'.cell? ⟨w.heap.size, 2, none⟩ = some (.slice B n d)) (repeat (first | (with_reducible exact F0) | (with_reducible exact F1) | (with_reducible exact F2) | (with_reducible refine thr_drew ?_) | (with_reducible refine thr_set ?_ (by simp only; omega))))
    (first
      | (go_at_call 100; (with_reducible refine (HS1.out _ HX.out.drew).mono ?_); rintro e w1 ⟨A1, d1, rfl, k1, hx1⟩; have K1 := Lib.hid k1; have HX1 := Lib.hid hx1; have F1 := thr_ext hx1 (thr_drew F0); have hc1 : l + 3 ≤ d1 := (by have := k1.rd.cap; rw [List.length_append, HL.out] at this; exact this); have hc2 : (l : Int) ≤ (d1 : Int) := (by omega); have hc3 : (0 : Int) ≤ (l : Int) := (by omega); clear k1 hx1)
      | (go_at_call 100; (with_reducible refine (HS2.out _ (HX.out.drew.trans HX1.out)).mono ?_); rintro e w2 ⟨A2, d2, rfl, k2, hx2⟩; have K2 := Lib.hid k2; have HX2 := Lib.hid hx2; have F2 := thr_ext hx2 F1; have hd1 : n + 3 ≤ d2 := (by have := k2.rd.cap; rw [List.length_append, HN.out] at this; exact this); have hd2 : (n : Int) ≤ (d2 : Int) := (by omega); have hd3 : (0 : Int) ≤ (n : Int) := (by omega); have HVx := HV.out.ext ((((Ext.refl W).drew.trans HX1.out).trans hx2)); have v0 := HVx.c0; have v1 := HVx.c1; have v2 := HVx.c2; have fv0 := HVx.fr 0; have fv1 := HVx.fr 1; have fv2 := HVx.fr 2; clear k2 hx2 HVx))
  all_goals
    have hz := HZ.out
    have hy1 := HX1.out.size
    have bA := fun a (e : A1 = some a) => (show Own w1 _ (some a) d1 _ from e ▸ K1.out).block
    have bB := fun a (e : A2 = some a) => (show Own w2 _ (some a) d2 _ from e ▸ K2.out).block
    simp only [World.size_drew] at bA bB hy1
    have HO1 := Lib.hid ((K1.out.ext HX2.out).lower (show w.heap.size ≤ W.drew.heap.size by simp only [World.size_drew]; omega))
    have HO2 := Lib.hid (K2.out.lower (show w.heap.size ≤ w1.heap.size by omega))
    have HXw := Lib.hid (HX.out.trans (((Ext.refl W).drew.trans HX1.out).trans HX2.out))
    have HAp := Lib.hid (show ∀ a b, A1 = some a → A2 = some b → a.block ≠ b.block from fun a b ea eb e => by have h1 := bA a ea; have h2 := bB b eb; omega)
    have N1 := Lib.hid (show ∀ a, A1 = some a → a.block ≠ w.heap.size + 1 from fun a ea => by have h1 := bA a ea; omega)
    have N2 := Lib.hid (show ∀ a, A2 = some a → a.block ≠ w.heap.size + 1 from fun a ea => by have h1 := bB a ea; omega)
    clear bA bB hz hy1
    go_wp2_with fail
    exact bodyPost_ret (v := .agg #[.bool s, .slice A1 l d1, .slice A2 n d2]) (by simp [results, Tryz.results51, go_sem, v0, v1, v2]) rfl ⟨A1, d1, A2, d2, by simp only; rw [HL.out, HN.out], own_set (own_set (own_set HO1.out N1.out) N1.out) N1.out, own_set (own_set (own_set HO2.out N2.out) N2.out) N2.out, HAp.out, ((HXw.out.setCell (Nat.le_succ _) _).setCell (Nat.le_succ _) _).setCell (Nat.le_succ _) _⟩
set_option maxRecDepth 8000 in
set_option maxHeartbeats 2000000 in
theorem kkeptR_any (f : Fr) (A B C D : Option Addr) (a b c d : Nat) (w : World) (ha : Rd w A a (f.num ++ marks)) (hb : Rd w B b (f.den ++ marks)) (hc : Rd w C c f.num) (hd : Rd w D d f.den) (hm : f.num.length ≤ 35184372087808) (hm' : f.den.length ≤ 35184372087808) :
    Calls Tryz.prog 68 #[.agg #[.bool f.neg, .slice A f.num.length a, .slice B f.den.length b], .agg #[.bool f.neg, .slice C f.num.length c, .slice D f.den.length d]] w fun e w' => e = .returned (.bool true) ∧ Ext w w' := by
  obtain ⟨s, xs, ys⟩ := f
  simp only at *
  have HA := Lib.hid ha
  have HB := Lib.hid hb
  have HC := Lib.hid hc
  have HD := Lib.hid hd
  have cA : xs.length + 3 ≤ a := by have := ha.cap; rw [List.length_append] at this; exact this
  have cB : ys.length + 3 ≤ b := by have := hb.cap; rw [List.length_append] at this; exact this
  have mA := ha.capm
  have mB := hb.capm
  obtain ⟨l, hl⟩ : ∃ l, xs.length = l := ⟨_, rfl⟩
  obtain ⟨n, hn⟩ : ∃ n, ys.length = n := ⟨_, rfl⟩
  have HL := Lib.hid hl
  have HN := Lib.hid hn
  rw [hl] at hm cA ⊢
  rw [hn] at hm' cB ⊢
  clear ha hb hc hd hl hn
  have HS1 := Lib.hid (fun wx (hx : Ext w wx) => kkept_any A C xs a c l ((l : Int) + 3).toNat wx (HA.out.ext hx) (HC.out.ext hx) HL.out (by omega) (by omega))
  have HS2 := Lib.hid (fun wx (hx : Ext w wx) => kkept_any B D ys b d n ((n : Int) + 3).toNat wx (HB.out.ext hx) (HD.out.ext hx) HN.out (by omega) (by omega))
  have HX := Lib.hid (((Ext.refl w).alloc (.cells #[.bool s, .slice A l a, .slice B n b] 26)).alloc (.cells #[.bool s, .slice C l c, .slice D n d] 26))
  go_enter Tryz.func68, Tryz.ntmps68
  go_wp2_with fail
  obtain ⟨W, hW⟩ : ∃ W, W = (w.alloc (.cells #[.bool s, .slice A l a, .slice B n b] 26)).alloc (.cells #[.bool s, .slice C l c, .slice D n d] 26) := ⟨_, rfl⟩
  have F0 : Six W w.heap.size (.bool s) (.slice A l a) (.slice B n b) (.bool s) (.slice C l c) (.slice D n d) := by rw [hW]; refine ⟨?_, ?_, ?_, ?_, ?_, ?_⟩ <;> simp [go_sem]
  rw [← hW] at HX
  try rw [← hW]
  clear hW
  have hs1 : IntKind.i64.wrap ((l : Int) + 3) = (l : Int) + 3 := IntWalk.i64_in _ (by omega)
  have hs2 : IntKind.i64.wrap ((n : Int) + 3) = (n : Int) + 3 := IntWalk.i64_in _ (by omega)
  have hc2 : (l : Int) + 3 ≤ (a : Int) := by omega
  have hc3 : (0 : Int) ≤ (l : Int) + 3 := by omega
  have hd2 : (n : Int) + 3 ≤ (b : Int) := by omega
  have hd3 : (0 : Int) ≤ (n : Int) + 3 := by omega
  have hss : (s == s) = true := beq_self_eq_true s
  have hll : ((l : Int) == (l : Int)) = true := beq_self_eq_true _
  have hnn : ((n : Int) == (n : Int)) = true := beq_self_eq_true _
  go_region_held3 (fun w' => w'.cell? ⟨w.heap.size, 0, none⟩ = some (.bool s) ∧ w'.cell? ⟨w.heap.size, 1, none⟩ = some (.slice A l a) ∧ w'.cell? ⟨w.heap.size, 2, none⟩ = some (.slice B n b) ∧ w'.cell? ⟨w.heap.size + 1, 0, none⟩ = some (.bool s) ∧ w'.cell? ⟨w.heap.size + 1, 1, none⟩ = some (.slice C l c) ∧ w'.cell? ⟨w.heap.size + 1, 2, none⟩ = some (.slice D n d)) (repeat (first | (with_reducible exact F0) | (with_reducible exact F1) | (with_reducible exact F2) | (with_reducible refine six_drew ?_)))
    (first
      | (go_at_call 115; (with_reducible refine (HS1.out _ HX.out.drew).mono ?_); rintro e w1 ⟨rfl, hx1⟩; have HX1 := Lib.hid hx1; have F1 := six_ext hx1 (six_drew F0); clear hx1)
      | (go_at_call 115; (with_reducible refine (HS2.out _ (HX.out.drew.trans HX1.out)).mono ?_); rintro e w2 ⟨rfl, hx2⟩; have HX2 := Lib.hid hx2; have F2 := six_ext hx2 F1; clear hx2))
  all_goals
    go_wp2_with fail
    go_ret
    exact ⟨rfl, (HX.out.drew.trans HX1.out).trans HX2.out⟩
theorem plus_fr (a b : Fr) (A B C D : Option Addr) (c1 c2 c3 c4 : Nat) (w : World) (ha : Rd w A c1 a.num) (hb : Rd w B c2 a.den) (hc : Rd w C c3 b.num) (hd : Rd w D c4 b.den) (wa : a.Wf) (wb : b.Wf) (h : fchk a = 0) (k : fchk b = 0) (r : Rat) (hr : a.q + b.q = r) :
    Calls Tryz.prog 135 #[.agg #[.bool a.neg, .slice A a.num.length c1, .slice B a.den.length c2], .agg #[.bool b.neg, .slice C b.num.length c3, .slice D b.den.length c4]] w (RatP w (tell r)) := by
  obtain ⟨p, rfl, lp⟩ := fchk_ok wa h
  obtain ⟨q, rfl, lq⟩ := fchk_ok wb k
  rw [dec_enc, dec_enc] at hr
  subst hr
  have h1 := not_lng lp
  have h2 := not_lng lq
  exact plus_gen (decide (p.num < 0)) (decide (q.num < 0)) A B C D p.num.natAbs p.den q.num.natAbs q.den c1 c2 c3 c4 w (p + q) ha hb hc hd p.den_nz q.den_nz h1.1 h1.2 h2.1 h2.2 (plus_cases p q)
theorem rcheck_fr (a : Fr) (A B : Option Addr) (c d : Nat) (w : World) (ha : Rd w A c a.num) (hb : Rd w B d a.den) (wa : a.Wf) :
    Calls Tryz.prog 120 #[.agg #[.bool a.neg, .slice A a.num.length c, .slice B a.den.length d]] w fun e w' => e = .returned (.int .i64 (fchk a)) ∧ Ext w w' :=
  rcheck_any a.neg A B a.num a.den c d w ha hb wa.num wa.den
theorem fchk2_zero {a b : Fr} (h : fchk2 a b = 0) : fchk a = 0 ∧ fchk b = 0 := by
  unfold fchk2 at h
  by_cases h1 : fchk a ≠ 0
  · rw [if_pos h1] at h; exact absurd h h1
  · rw [if_neg h1] at h; exact ⟨by simpa using h1, h⟩
theorem both_good {a b : Fr} {r} (h : fchk2 a b = 0) : both a b r = r a.q b.q := by
  obtain ⟨h1, h2⟩ := fchk2_zero h
  unfold both
  rw [if_neg (by omega), if_neg (by omega)]
set_option maxHeartbeats 1000000 in
theorem checks_any (a b : Fr) (A B C D : Option Addr) (c1 c2 c3 c4 : Nat) (w : World) (ha : Rd w A c1 a.num) (hb : Rd w B c2 a.den) (hc : Rd w C c3 b.num) (hd : Rd w D c4 b.den) (wa : a.Wf) (wb : b.Wf) :
    Calls Tryz.prog 121 #[.agg #[.bool a.neg, .slice A a.num.length c1, .slice B a.den.length c2], .agg #[.bool b.neg, .slice C b.num.length c3, .slice D b.den.length c4]] w fun e w' => e = .returned (.int .i64 (fchk2 a b)) ∧ Ext w w' := by
  have HA := Lib.hid ha
  have HB := Lib.hid hb
  have HC := Lib.hid hc
  have HD := Lib.hid hd
  clear ha hb hc hd
  have HX := Lib.hid (((Ext.refl w).alloc (.cells #[.bool a.neg, .slice A a.num.length c1, .slice B a.den.length c2] 26)).alloc (.cells #[.bool b.neg, .slice C b.num.length c3, .slice D b.den.length c4] 26))
  by_cases h1 : fchk a ≠ 0
  · have HE := Lib.hid (show fchk2 a b = fchk a from if_pos h1)
    have hb1 : (fchk a != 0) = true := bne_iff_ne.2 h1
    rw [HE.out]
    clear h1
    go_enter Tryz.func121, Tryz.ntmps121
    go_wp2_with fail
    refine (rcheck_fr a A B c1 c2 _ (HA.out.ext HX.out) (HB.out.ext HX.out) wa).mono ?_; rintro e w1 ⟨rfl, hx1⟩
    have HX1 := Lib.hid (HX.out.trans hx1)
    clear hx1
    go_wp2_with fail
    go_ret
    exact ⟨rfl, HX1.out⟩
  · have HE := Lib.hid (show fchk2 a b = fchk b from if_neg h1)
    have hb1 : (fchk a != 0) = false := bne_eq_false_iff_eq.2 (by simpa using h1)
    rw [HE.out]
    clear h1
    go_enter Tryz.func121, Tryz.ntmps121
    go_wp2_with fail
    refine (rcheck_fr a A B c1 c2 _ (HA.out.ext HX.out) (HB.out.ext HX.out) wa).mono ?_; rintro e w1 ⟨rfl, hx1⟩
    obtain ⟨hc, hf⟩ := bcell hx1
    have HX1 := Lib.hid (HX.out.trans hx1)
    clear hx1
    go_wp2_with fail
    refine (rcheck_fr b C D c3 c4 _ (HC.out.ext HX1.out) (HD.out.ext HX1.out) wb).mono ?_; rintro e w2 ⟨rfl, hx2⟩
    have HX2 := Lib.hid (HX1.out.trans hx2)
    clear hx2 hc hf
    go_wp2_with fail
    go_ret
    exact ⟨rfl, HX2.out⟩
set_option maxRecDepth 4000 in
set_option maxHeartbeats 2000000 in
theorem add_fr (a b : Fr) (A B C D : Option Addr) (c1 c2 c3 c4 : Nat) (w : World) (ha : Rd w A c1 a.num) (hb : Rd w B c2 a.den) (hc : Rd w C c3 b.num) (hd : Rd w D c4 b.den) (wa : a.Wf) (wb : b.Wf) :
    Calls Tryz.prog 93 #[.agg #[.bool a.neg, .slice A a.num.length c1, .slice B a.den.length c2], .agg #[.bool b.neg, .slice C b.num.length c3, .slice D b.den.length c4]] w (RatP w (fadd a b)) := by
  have HA := Lib.hid ha
  have HB := Lib.hid hb
  have HC := Lib.hid hc
  have HD := Lib.hid hd
  clear ha hb hc hd
  by_cases hk : fchk2 a b ≠ 0
  · have HT := Lib.hid (show fadd a b = (Fr.zero, fchk2 a b) from both_bad hk)
    have hb1 : (fchk2 a b != 0) = true := bne_iff_ne.2 hk
    clear hk
    go_enter Tryz.func93, Tryz.ntmps93
    go_wp2_with fail
    obtain ⟨W, hW⟩ : ∃ W, W = ((w.alloc (.cells #[.bool a.neg, .slice A a.num.length c1, .slice B a.den.length c2] 26)).alloc (.cells #[.bool b.neg, .slice C b.num.length c3, .slice D b.den.length c4] 26)).alloc (.cells #[.bool false, .slice none 0 0, .slice none 0 0] 26) := ⟨_, rfl⟩
    have F0 : Six W w.heap.size (.bool a.neg) (.slice A a.num.length c1) (.slice B a.den.length c2) (.bool b.neg) (.slice C b.num.length c3) (.slice D b.den.length c4) := by rw [hW]; refine ⟨?_, ?_, ?_, ?_, ?_, ?_⟩ <;> simp [go_sem]
    have HX : Hid (Ext w W) := by rw [hW]; exact (((Ext.refl w).alloc _).alloc _).alloc _
    have HV : Hid (VarF (w.heap.size + 2) W.heap.size Fr.zero none 0 none 0 W) := by
      have h1 := VarF.zero ((w.alloc (.cells #[.bool a.neg, .slice A a.num.length c1, .slice B a.den.length c2] 26)).alloc (.cells #[.bool b.neg, .slice C b.num.length c3, .slice D b.den.length c4] 26)) W.heap.size
      rw [← hW] at h1
      unfold Hid
      simpa using h1
    have HZ := Lib.hid (show W.heap.size = w.heap.size + 3 by rw [hW]; simp)
    try rw [← hW]
    clear hW
    refine (checks_any a b A B C D c1 c2 c3 c4 W (HA.out.ext HX.out) (HB.out.ext HX.out) (HC.out.ext HX.out) (HD.out.ext HX.out) wa wb).mono ?_; rintro e w1 ⟨rfl, hx1⟩
    have F1 := six_ext hx1 F0
    have HX1 := Lib.hid (HX.out.trans hx1)
    have HV1 := Lib.hid (HV.out.ext hx1)
    have HZ1 := Lib.hid (show w.heap.size + 3 ≤ w1.heap.size by have := hx1.size; have := HZ.out; omega)
    clear hx1 F0 HX HV
    have r0 := HV1.out.c0
    have s0 := HV1.out.fr 0
    have r1 := HV1.out.c1
    have s1 := HV1.out.fr 1
    have r2 := HV1.out.c2
    have s2 := HV1.out.fr 2
    clear F1
    go_wp2_with fail
    exact bodyPost_ret (v := .tuple #[.agg #[.bool false, .slice none 0 0, .slice none 0 0], .int .i64 (fchk2 a b)]) (by simp [results, Tryz.results93, go_sem, r0, r1, r2]) rfl (RatP.nil HT.out rfl (by repeat (first | (with_reducible exact HX1.out) | refine Ext.setCell ?_ (by simp; try omega) _)))
  have h0 : fchk2 a b = 0 := by simpa using hk
  have hb1 : (fchk2 a b != 0) = false := bne_eq_false_iff_eq.2 h0
  obtain ⟨k1, k2⟩ := fchk2_zero h0
  obtain ⟨t, ht⟩ : ∃ t, t = tell (a.q + b.q) := ⟨_, rfl⟩
  have HT := Lib.hid (show fadd a b = t by rw [ht]; exact both_good h0)
  have HP := Lib.hid (fun wx (hx : Ext w wx) => plus_fr a b A B C D c1 c2 c3 c4 wx (HA.out.ext hx) (HB.out.ext hx) (HC.out.ext hx) (HD.out.ext hx) wa wb k1 k2 _ rfl)
  rw [← ht] at HP
  clear ht hk k1 k2 h0
  go_enter Tryz.func93, Tryz.ntmps93
  go_wp2_with fail
  obtain ⟨W, hW⟩ : ∃ W, W = ((w.alloc (.cells #[.bool a.neg, .slice A a.num.length c1, .slice B a.den.length c2] 26)).alloc (.cells #[.bool b.neg, .slice C b.num.length c3, .slice D b.den.length c4] 26)).alloc (.cells #[.bool false, .slice none 0 0, .slice none 0 0] 26) := ⟨_, rfl⟩
  have F0 : Six W w.heap.size (.bool a.neg) (.slice A a.num.length c1) (.slice B a.den.length c2) (.bool b.neg) (.slice C b.num.length c3) (.slice D b.den.length c4) := by rw [hW]; refine ⟨?_, ?_, ?_, ?_, ?_, ?_⟩ <;> simp [go_sem]
  have HX : Hid (Ext w W) := by rw [hW]; exact (((Ext.refl w).alloc _).alloc _).alloc _
  have HV : Hid (VarF (w.heap.size + 2) W.heap.size Fr.zero none 0 none 0 W) := by
    have h1 := VarF.zero ((w.alloc (.cells #[.bool a.neg, .slice A a.num.length c1, .slice B a.den.length c2] 26)).alloc (.cells #[.bool b.neg, .slice C b.num.length c3, .slice D b.den.length c4] 26)) W.heap.size
    rw [← hW] at h1
    unfold Hid
    simpa using h1
  have HZ := Lib.hid (show W.heap.size = w.heap.size + 3 by rw [hW]; simp)
  try rw [← hW]
  clear hW
  refine (checks_any a b A B C D c1 c2 c3 c4 W (HA.out.ext HX.out) (HB.out.ext HX.out) (HC.out.ext HX.out) (HD.out.ext HX.out) wa wb).mono ?_; rintro e w1 ⟨rfl, hx1⟩
  have F1 := six_ext hx1 F0
  have HX1 := Lib.hid (HX.out.trans hx1)
  have HV1 := Lib.hid (HV.out.ext hx1)
  have HZ1 := Lib.hid (show w.heap.size + 3 ≤ w1.heap.size by have := hx1.size; have := HZ.out; omega)
  clear hx1 F0 HX HV
  obtain ⟨u0, u1, u2, v0, v1, v2⟩ := F1
  go_wp2_with fail
  clear u0 u1 u2 v0 v1 v2
  refine (HP.out _ HX1.out).mono ?_; rintro e w9 ⟨A9, c9, B9, d9, rfl, o1, o2, ap, hx⟩
  have hzz := HZ1.out
  have O1 := Lib.hid (o1.lower (show w.heap.size + 3 ≤ w1.heap.size by omega))
  have O2 := Lib.hid (o2.lower (show w.heap.size + 3 ≤ w1.heap.size by omega))
  have AP := Lib.hid ap
  have HX9 := Lib.hid (HX1.out.trans hx)
  have HV9 := Lib.hid (HV1.out.ext hx)
  have r0 := HV9.out.c0
  have s0 := HV9.out.fr 0
  have r1 := HV9.out.c1
  have s1 := HV9.out.fr 1
  have r2 := HV9.out.c2
  have s2 := HV9.out.fr 2
  clear o1 o2 ap hx
  go_wp2_with fail
  exact bodyPost_ret (v := .tuple #[.agg #[.bool t.1.neg, .slice A9 t.1.num.length c9, .slice B9 t.1.den.length d9], .int .i64 t.2]) (by simp [results, Tryz.results93, go_sem, r0, r1, r2]) rfl (RatP.mk HT.out rfl (by refine Own.lower ?_ (show w.heap.size ≤ w.heap.size + 3 by omega); repeat (first | (with_reducible exact O1.out) | refine Own.setBelow ?_ (by simp; try omega) _)) (by refine Own.lower ?_ (show w.heap.size ≤ w.heap.size + 3 by omega); repeat (first | (with_reducible exact O2.out) | refine Own.setBelow ?_ (by simp; try omega) _)) AP.out (by repeat (first | (with_reducible exact HX9.out) | refine Ext.setCell ?_ (by simp; try omega) _)))
def fturn (b : Fr) : Fr := ⟨!b.neg && decide (0 < b.num.length), b.num, b.den⟩
theorem fturn_enc (q : Rat) : fturn (enc q) = enc (-q) := by rw [enc_neg]; rfl
theorem lng_neg (q : Rat) : lng (-q) = lng q := by unfold lng; rw [Rat.neg_num, Rat.neg_den, Int.natAbs_neg]
theorem fturn_ok {b : Fr} (wb : b.Wf) (h : fchk b = 0) : (fturn b).Wf ∧ fchk (fturn b) = 0 ∧ (fturn b).q = -b.q := by
  obtain ⟨q, rfl, lq⟩ := fchk_ok wb h
  rw [fturn_enc, dec_enc, dec_enc]
  exact ⟨enc_wf _, fchk_enc _ (by rw [lng_neg]; exact lq), rfl⟩
theorem fchk_small {b : Fr} (h : fchk b = 0) : b.num.length ≤ 2048 ∧ b.den.length ≤ 2048 := by
  unfold fchk at h
  by_cases h1 : 2048 < b.num.length
  · rw [if_pos h1] at h; omega
  · rw [if_neg h1] at h
    by_cases h2 : 2048 < b.den.length
    · rw [if_pos h2] at h; omega
    · omega
theorem six_set {w : World} {h : Nat} {a b c d e f : Value} {p : Addr} {u : Value} (H : Six w h a b c d e f) (h1 : p.block ≠ h) (h2 : p.block ≠ h + 1) : Six (w.setCell p u) h a b c d e f :=
  have hg := grown_setCell w p u
  ⟨cell_keep hg H.1 (fun e => h1 (Option.some.inj e).symm), cell_keep hg H.2.1 (fun e => h1 (Option.some.inj e).symm), cell_keep hg H.2.2.1 (fun e => h1 (Option.some.inj e).symm), cell_keep hg H.2.2.2.1 (fun e => h2 (Option.some.inj e).symm), cell_keep hg H.2.2.2.2.1 (fun e => h2 (Option.some.inj e).symm), cell_keep hg H.2.2.2.2.2 (fun e => h2 (Option.some.inj e).symm)⟩
set_option maxHeartbeats 1000000 in
theorem turned_any (b : Fr) (C D : Option Addr) (c3 c4 : Nat) (w : World) :
    Calls Tryz.prog 199 #[.agg #[.bool b.neg, .slice C b.num.length c3, .slice D b.den.length c4]] w fun e w' => e = .returned (.agg #[.bool (fturn b).neg, .slice C b.num.length c3, .slice D b.den.length c4]) ∧ Ext w w' := by
  obtain ⟨s, xs, ys⟩ := b
  have HX := Lib.hid ((Ext.refl w).alloc (.cells #[.bool s, .slice C xs.length c3, .slice D ys.length c4] 26))
  cases s with
  | true =>
    go_enter Tryz.func199, Tryz.ntmps199
    go_wp2_with fail
    exact bodyPost_ret (v := .agg #[.bool false, .slice C xs.length c3, .slice D ys.length c4]) (by simp [results, Tryz.results199, go_sem]) rfl ⟨rfl, by repeat (first | exact Ext.refl _ | refine Ext.setCell ?_ (by simp) _ | refine Ext.alloc ?_ _)⟩
  | false =>
    have HE := Lib.hid (show (fturn ⟨false, xs, ys⟩).neg = decide (0 < xs.length) from rfl)
    obtain ⟨v, hv⟩ : ∃ v : Bool, v = decide (0 < xs.length) := ⟨_, rfl⟩
    rw [HE.out, ← hv]
    have hv2 : decide ((0 : Int) < (xs.length : Int)) = v := by rw [hv]; exact decide_eq_decide.2 (by omega)
    cases v with
    | true =>
      have h1 : 0 < xs.length := of_decide_eq_true hv.symm
      clear hv hv2 HE
      go_enter Tryz.func199, Tryz.ntmps199
      go_wp2_with fail
      exact bodyPost_ret (v := .agg #[.bool true, .slice C xs.length c3, .slice D ys.length c4]) (by simp [results, Tryz.results199, go_sem]) rfl ⟨rfl, by repeat (first | exact Ext.refl _ | refine Ext.setCell ?_ (by simp) _ | refine Ext.alloc ?_ _)⟩
    | false =>
      have h1 : ¬ (0 < xs.length) := of_decide_eq_false hv.symm
      clear hv hv2 HE
      go_enter Tryz.func199, Tryz.ntmps199
      go_wp2_with fail
      exact bodyPost_ret (v := .agg #[.bool false, .slice C xs.length c3, .slice D ys.length c4]) (by simp [results, Tryz.results199, go_sem]) rfl ⟨rfl, by repeat (first | exact Ext.refl _ | refine Ext.setCell ?_ (by simp) _ | refine Ext.alloc ?_ _)⟩
theorem turned_rd (b : Fr) (C D : Option Addr) (c3 c4 : Nat) (w : World) (hc : Rd w C c3 b.num) (hd : Rd w D c4 b.den) (_ : b.num.length ≤ 2048 ∧ b.den.length ≤ 2048) :
    Calls Tryz.prog 199 #[.agg #[.bool b.neg, .slice C b.num.length c3, .slice D b.den.length c4]] w fun e w' => ∃ C' c' D' d', e = .returned (.agg #[.bool (fturn b).neg, .slice C' b.num.length c', .slice D' b.den.length d']) ∧ Rd w' C' c' b.num ∧ Rd w' D' d' b.den ∧ Ext w w' :=
  (turned_any b C D c3 c4 w).mono fun _ _ ⟨h1, h2⟩ => ⟨C, c3, D, c4, h1, hc.ext h2, hd.ext h2, h2⟩
set_option maxRecDepth 4000 in
set_option maxHeartbeats 2000000 in
theorem sub_fr (a b : Fr) (A B C D : Option Addr) (c1 c2 c3 c4 : Nat) (w : World) (ha : Rd w A c1 a.num) (hb : Rd w B c2 a.den) (hc : Rd w C c3 b.num) (hd : Rd w D c4 b.den) (wa : a.Wf) (wb : b.Wf) :
    Calls Tryz.prog 202 #[.agg #[.bool a.neg, .slice A a.num.length c1, .slice B a.den.length c2], .agg #[.bool b.neg, .slice C b.num.length c3, .slice D b.den.length c4]] w (RatP w (fsub a b)) := by
  have HA := Lib.hid ha
  have HB := Lib.hid hb
  have HC := Lib.hid hc
  have HD := Lib.hid hd
  clear ha hb hc hd
  by_cases hk : fchk2 a b ≠ 0
  · have HT := Lib.hid (show fsub a b = (Fr.zero, fchk2 a b) from both_bad hk)
    have hb1 : (fchk2 a b != 0) = true := bne_iff_ne.2 hk
    clear hk
    go_enter Tryz.func202, Tryz.ntmps202
    go_wp2_with fail
    obtain ⟨W, hW⟩ : ∃ W, W = ((w.alloc (.cells #[.bool a.neg, .slice A a.num.length c1, .slice B a.den.length c2] 26)).alloc (.cells #[.bool b.neg, .slice C b.num.length c3, .slice D b.den.length c4] 26)).alloc (.cells #[.bool false, .slice none 0 0, .slice none 0 0] 26) := ⟨_, rfl⟩
    have F0 : Six W w.heap.size (.bool a.neg) (.slice A a.num.length c1) (.slice B a.den.length c2) (.bool b.neg) (.slice C b.num.length c3) (.slice D b.den.length c4) := by rw [hW]; refine ⟨?_, ?_, ?_, ?_, ?_, ?_⟩ <;> simp [go_sem]
    have HX : Hid (Ext w W) := by rw [hW]; exact (((Ext.refl w).alloc _).alloc _).alloc _
    have HV : Hid (VarF (w.heap.size + 2) W.heap.size Fr.zero none 0 none 0 W) := by
      have h1 := VarF.zero ((w.alloc (.cells #[.bool a.neg, .slice A a.num.length c1, .slice B a.den.length c2] 26)).alloc (.cells #[.bool b.neg, .slice C b.num.length c3, .slice D b.den.length c4] 26)) W.heap.size
      rw [← hW] at h1
      unfold Hid
      simpa using h1
    have HZ := Lib.hid (show W.heap.size = w.heap.size + 3 by rw [hW]; simp)
    try rw [← hW]
    clear hW
    refine (checks_any a b A B C D c1 c2 c3 c4 W (HA.out.ext HX.out) (HB.out.ext HX.out) (HC.out.ext HX.out) (HD.out.ext HX.out) wa wb).mono ?_; rintro e w1 ⟨rfl, hx1⟩
    have F1 := six_ext hx1 F0
    have HX1 := Lib.hid (HX.out.trans hx1)
    have HV1 := Lib.hid (HV.out.ext hx1)
    have HZ1 := Lib.hid (show w.heap.size + 3 ≤ w1.heap.size by have := hx1.size; have := HZ.out; omega)
    clear hx1 F0 HX HV
    have r0 := HV1.out.c0
    have s0 := HV1.out.fr 0
    have r1 := HV1.out.c1
    have s1 := HV1.out.fr 1
    have r2 := HV1.out.c2
    have s2 := HV1.out.fr 2
    clear F1
    go_wp2_with fail
    exact bodyPost_ret (v := .tuple #[.agg #[.bool false, .slice none 0 0, .slice none 0 0], .int .i64 (fchk2 a b)]) (by simp [results, Tryz.results202, go_sem, r0, r1, r2]) rfl (RatP.nil HT.out rfl (by repeat (first | (with_reducible exact HX1.out) | refine Ext.setCell ?_ (by simp; try omega) _)))
  have h0 : fchk2 a b = 0 := by simpa using hk
  have hb1 : (fchk2 a b != 0) = false := bne_eq_false_iff_eq.2 h0
  obtain ⟨k1, k2⟩ := fchk2_zero h0
  obtain ⟨t, ht⟩ : ∃ t, t = tell (a.q - b.q) := ⟨_, rfl⟩
  have HT := Lib.hid (show fsub a b = t by rw [ht]; exact both_good h0)
  obtain ⟨k3, k4, k5⟩ := fturn_ok wb k2
  have HTU := Lib.hid (fun wx (hx : Ext w wx) => turned_rd b C D c3 c4 wx (HC.out.ext hx) (HD.out.ext hx) (fchk_small k2))
  have HP := Lib.hid (fun wx (hx : Ext w wx) (C' D' : Option Addr) (c' d' : Nat) (h1 : Rd wx C' c' b.num) (h2 : Rd wx D' d' b.den) => show Calls Tryz.prog 135 #[.agg #[.bool a.neg, .slice A a.num.length c1, .slice B a.den.length c2], .agg #[.bool (fturn b).neg, .slice C' b.num.length c', .slice D' b.den.length d']] wx (RatP wx (tell (a.q - b.q))) from plus_fr a (fturn b) A B C' D' c1 c2 c' d' wx (HA.out.ext hx) (HB.out.ext hx) h1 h2 wa k3 k1 k4 (a.q - b.q) (by rw [k5, Rat.sub_eq_add_neg]))
  rw [← ht] at HP
  clear ht hk k1 k2 h0 k3 k4 k5
  go_enter Tryz.func202, Tryz.ntmps202
  go_wp2_with fail
  obtain ⟨W, hW⟩ : ∃ W, W = ((w.alloc (.cells #[.bool a.neg, .slice A a.num.length c1, .slice B a.den.length c2] 26)).alloc (.cells #[.bool b.neg, .slice C b.num.length c3, .slice D b.den.length c4] 26)).alloc (.cells #[.bool false, .slice none 0 0, .slice none 0 0] 26) := ⟨_, rfl⟩
  have F0 : Six W w.heap.size (.bool a.neg) (.slice A a.num.length c1) (.slice B a.den.length c2) (.bool b.neg) (.slice C b.num.length c3) (.slice D b.den.length c4) := by rw [hW]; refine ⟨?_, ?_, ?_, ?_, ?_, ?_⟩ <;> simp [go_sem]
  have HX : Hid (Ext w W) := by rw [hW]; exact (((Ext.refl w).alloc _).alloc _).alloc _
  have HV : Hid (VarF (w.heap.size + 2) W.heap.size Fr.zero none 0 none 0 W) := by
    have h1 := VarF.zero ((w.alloc (.cells #[.bool a.neg, .slice A a.num.length c1, .slice B a.den.length c2] 26)).alloc (.cells #[.bool b.neg, .slice C b.num.length c3, .slice D b.den.length c4] 26)) W.heap.size
    rw [← hW] at h1
    unfold Hid
    simpa using h1
  have HZ := Lib.hid (show W.heap.size = w.heap.size + 3 by rw [hW]; simp)
  try rw [← hW]
  clear hW
  refine (checks_any a b A B C D c1 c2 c3 c4 W (HA.out.ext HX.out) (HB.out.ext HX.out) (HC.out.ext HX.out) (HD.out.ext HX.out) wa wb).mono ?_; rintro e w1 ⟨rfl, hx1⟩
  have F1 := six_ext hx1 F0
  have HX1 := Lib.hid (HX.out.trans hx1)
  have HV1 := Lib.hid (HV.out.ext hx1)
  have HZ1 := Lib.hid (show w.heap.size + 3 ≤ w1.heap.size by have := hx1.size; have := HZ.out; omega)
  clear hx1 F0 HX HV
  obtain ⟨u0, u1, u2, v0, v1, v2⟩ := id F1
  go_wp2_with fail
  have hzz := HZ1.out
  go_region_held3 (fun w' => w'.cell? ⟨w.heap.size, 0, none⟩ = some (.bool a.neg) ∧ w'.cell? ⟨w.heap.size, 1, none⟩ = some (.slice A a.num.length c1) ∧ w'.cell? ⟨w.heap.size, 2, none⟩ = some (.slice B a.den.length c2) ∧ w'.cell? ⟨w.heap.size + 1, 0, none⟩ = some (.bool b.neg) ∧ w'.cell? ⟨w.heap.size + 1, 1, none⟩ = some (.slice C b.num.length c3) ∧ w'.cell? ⟨w.heap.size + 1, 2, none⟩ = some (.slice D b.den.length c4)) (repeat (first | (with_reducible exact F1) | (with_reducible exact F2) | (with_reducible exact F3) | (with_reducible exact F4) | (with_reducible refine six_drew ?_) | (with_reducible refine six_set ?_ (by simp only; omega) (by simp only; omega))))
    (first
      | (go_at_call 199; ((with_reducible refine (HTU.out _ HX1.out.drew).mono ?_)); rintro e w2 ⟨C5, c5, D5, d5, rfl, p1, p2, hx2⟩; have P1 := Lib.hid p1; have P2 := Lib.hid p2; have HX2 := Lib.hid hx2; have F2 := six_ext hx2 (six_drew F1); clear p1 p2 hx2)
      | (go_at_call 135; ((with_reducible refine (HP.out _ (HX1.out.drew.trans HX2.out) C5 D5 c5 d5 P1.out P2.out).mono ?_)); rintro e w9 ⟨A9, c9, B9, d9, rfl, o1, o2, ap, hx⟩; have O1 := Lib.hid (o1.lower (show w.heap.size + 3 ≤ w2.heap.size by have := HX2.out.size; simp only [World.size_drew] at this; omega)); have O2 := Lib.hid (o2.lower (show w.heap.size + 3 ≤ w2.heap.size by have := HX2.out.size; simp only [World.size_drew] at this; omega)); have AP := Lib.hid ap; have HX9 := Lib.hid ((HX1.out.drew.trans HX2.out).trans hx); have F3 := six_ext hx F2; have HV9 := HV1.out.ext (((Ext.refl _).drew.trans HX2.out).trans hx); have r0 := HV9.c0; have s0 := HV9.fr 0; have r1 := HV9.c1; have s1 := HV9.fr 1; have r2 := HV9.c2; have s2 := HV9.fr 2; clear o1 o2 ap hx HV9))
  all_goals
    go_wp2_with fail
    exact bodyPost_ret (v := .tuple #[.agg #[.bool t.1.neg, .slice A9 t.1.num.length c9, .slice B9 t.1.den.length d9], .int .i64 t.2]) (by simp [results, Tryz.results202, go_sem, r0, r1, r2]) rfl (RatP.mk HT.out rfl (by refine Own.lower ?_ (show w.heap.size ≤ w.heap.size + 3 by omega); repeat (first | (with_reducible exact O1.out) | refine Own.setBelow ?_ (by simp; try omega) _)) (by refine Own.lower ?_ (show w.heap.size ≤ w.heap.size + 3 by omega); repeat (first | (with_reducible exact O2.out) | refine Own.setBelow ?_ (by simp; try omega) _)) AP.out (by repeat (first | (with_reducible exact HX9.out) | refine Ext.setCell ?_ (by simp; try omega) _)))
set_option maxRecDepth 4000 in
set_option maxHeartbeats 2000000 in
theorem mul_fr (a b : Fr) (A B C D : Option Addr) (c1 c2 c3 c4 : Nat) (w : World) (ha : Rd w A c1 a.num) (hb : Rd w B c2 a.den) (hc : Rd w C c3 b.num) (hd : Rd w D c4 b.den) (wa : a.Wf) (wb : b.Wf) :
    Calls Tryz.prog 206 #[.agg #[.bool a.neg, .slice A a.num.length c1, .slice B a.den.length c2], .agg #[.bool b.neg, .slice C b.num.length c3, .slice D b.den.length c4]] w (RatP w (fmul a b)) := by
  have HA := Lib.hid ha
  have HB := Lib.hid hb
  have HC := Lib.hid hc
  have HD := Lib.hid hd
  clear ha hb hc hd
  by_cases hk : fchk2 a b ≠ 0
  · have HT := Lib.hid (show fmul a b = (Fr.zero, fchk2 a b) from both_bad hk)
    have hb1 : (fchk2 a b != 0) = true := bne_iff_ne.2 hk
    clear hk
    go_enter Tryz.func206, Tryz.ntmps206
    go_wp2_with fail
    obtain ⟨W, hW⟩ : ∃ W, W = ((w.alloc (.cells #[.bool a.neg, .slice A a.num.length c1, .slice B a.den.length c2] 26)).alloc (.cells #[.bool b.neg, .slice C b.num.length c3, .slice D b.den.length c4] 26)).alloc (.cells #[.bool false, .slice none 0 0, .slice none 0 0] 26) := ⟨_, rfl⟩
    have F0 : Six W w.heap.size (.bool a.neg) (.slice A a.num.length c1) (.slice B a.den.length c2) (.bool b.neg) (.slice C b.num.length c3) (.slice D b.den.length c4) := by rw [hW]; refine ⟨?_, ?_, ?_, ?_, ?_, ?_⟩ <;> simp [go_sem]
    have HX : Hid (Ext w W) := by rw [hW]; exact (((Ext.refl w).alloc _).alloc _).alloc _
    have HV : Hid (VarF (w.heap.size + 2) W.heap.size Fr.zero none 0 none 0 W) := by
      have h1 := VarF.zero ((w.alloc (.cells #[.bool a.neg, .slice A a.num.length c1, .slice B a.den.length c2] 26)).alloc (.cells #[.bool b.neg, .slice C b.num.length c3, .slice D b.den.length c4] 26)) W.heap.size
      rw [← hW] at h1
      unfold Hid
      simpa using h1
    have HZ := Lib.hid (show W.heap.size = w.heap.size + 3 by rw [hW]; simp)
    try rw [← hW]
    clear hW
    refine (checks_any a b A B C D c1 c2 c3 c4 W (HA.out.ext HX.out) (HB.out.ext HX.out) (HC.out.ext HX.out) (HD.out.ext HX.out) wa wb).mono ?_; rintro e w1 ⟨rfl, hx1⟩
    have F1 := six_ext hx1 F0
    have HX1 := Lib.hid (HX.out.trans hx1)
    have HV1 := Lib.hid (HV.out.ext hx1)
    have HZ1 := Lib.hid (show w.heap.size + 3 ≤ w1.heap.size by have := hx1.size; have := HZ.out; omega)
    clear hx1 F0 HX HV
    have r0 := HV1.out.c0
    have s0 := HV1.out.fr 0
    have r1 := HV1.out.c1
    have s1 := HV1.out.fr 1
    have r2 := HV1.out.c2
    have s2 := HV1.out.fr 2
    clear F1
    go_wp2_with fail
    exact bodyPost_ret (v := .tuple #[.agg #[.bool false, .slice none 0 0, .slice none 0 0], .int .i64 (fchk2 a b)]) (by simp [results, Tryz.results206, go_sem, r0, r1, r2]) rfl (RatP.nil HT.out rfl (by repeat (first | (with_reducible exact HX1.out) | refine Ext.setCell ?_ (by simp; try omega) _)))
  have h0 : fchk2 a b = 0 := by simpa using hk
  have hb1 : (fchk2 a b != 0) = false := bne_eq_false_iff_eq.2 h0
  obtain ⟨p, q, ep, eq, lp, lq⟩ := fchk2_ok wa wb h0
  have LP := not_lng lp
  have LQ := not_lng lq
  have E1 : a.num = wd p.num.natAbs := by rw [ep]; rfl
  have E2 : a.den = wd p.den := by rw [ep]; rfl
  have E3 : b.num = wd q.num.natAbs := by rw [eq]; rfl
  have E4 : b.den = wd q.den := by rw [eq]; rfl
  have E5 : a.neg = decide (p.num < 0) := by rw [ep]; rfl
  have E6 : b.neg = decide (q.num < 0) := by rw [eq]; rfl
  obtain ⟨t, ht⟩ : ∃ t, t = tell (p * q) := ⟨_, rfl⟩
  have HT := Lib.hid (show fmul a b = t by unfold fmul; rw [both_good h0, ht, ep, eq, dec_enc, dec_enc])
  have lX := wd_len_mul p.num.natAbs q.num.natAbs
  have lY := wd_len_mul p.den q.den
  have hY0 : p.den * q.den ≠ 0 := Nat.mul_ne_zero p.den_nz q.den_nz
  have HM := Lib.hid (show mkRat (sg (!(a.neg == b.neg)) (p.num.natAbs * q.num.natAbs)) (p.den * q.den) = p * q by rw [E5, E6]; exact mul_made p q)
  obtain ⟨X, hX⟩ : ∃ X, X = p.num.natAbs * q.num.natAbs := ⟨_, rfl⟩
  obtain ⟨Y, hY⟩ : ∃ Y, Y = p.den * q.den := ⟨_, rfl⟩
  have HT1 := Lib.hid (fun wx (hx : Ext w wx) => by
    have h1 := times_any A C p.num.natAbs q.num.natAbs c1 c3 wx (E1 ▸ HA.out.ext hx) (E3 ▸ HC.out.ext hx) (by omega)
    rw [← E1, ← E3, ← hX] at h1
    exact h1)
  have HT2 := Lib.hid (fun wx (hx : Ext w wx) => by
    have h1 := times_any B D p.den q.den c2 c4 wx (E2 ▸ HB.out.ext hx) (E4 ▸ HD.out.ext hx) (by omega)
    rw [← E2, ← E4, ← hY] at h1
    exact h1)
  rw [← hX] at lX HM
  rw [← hY] at lY hY0 HM
  have HL := Lib.hid (fun (wx : World) (v : Bool) (P Q : Option Addr) (c d : Nat) (h1 : Rd wx P c (wd X)) (h2 : Rd wx Q d (wd Y)) (hv : v = (!(a.neg == b.neg))) => show Calls Tryz.prog 156 #[.bool v, .slice P (wd X).length c, .slice Q (wd Y).length d] wx (RatP wx t) by
    subst hv
    have := lowest_any (!(a.neg == b.neg)) P Q X Y c d wx h1 h2 hY0 (by omega) (by omega)
    rw [HM.out, ← ht] at this
    exact this)
  clear hX hY ht hk h0 ep eq E1 E2 E3 E4 E5 E6
  go_enter Tryz.func206, Tryz.ntmps206
  go_wp2_with fail
  obtain ⟨W, hW⟩ : ∃ W, W = ((w.alloc (.cells #[.bool a.neg, .slice A a.num.length c1, .slice B a.den.length c2] 26)).alloc (.cells #[.bool b.neg, .slice C b.num.length c3, .slice D b.den.length c4] 26)).alloc (.cells #[.bool false, .slice none 0 0, .slice none 0 0] 26) := ⟨_, rfl⟩
  have F0 : Six W w.heap.size (.bool a.neg) (.slice A a.num.length c1) (.slice B a.den.length c2) (.bool b.neg) (.slice C b.num.length c3) (.slice D b.den.length c4) := by rw [hW]; refine ⟨?_, ?_, ?_, ?_, ?_, ?_⟩ <;> simp [go_sem]
  have HX : Hid (Ext w W) := by rw [hW]; exact (((Ext.refl w).alloc _).alloc _).alloc _
  have HV : Hid (VarF (w.heap.size + 2) W.heap.size Fr.zero none 0 none 0 W) := by
    have h1 := VarF.zero ((w.alloc (.cells #[.bool a.neg, .slice A a.num.length c1, .slice B a.den.length c2] 26)).alloc (.cells #[.bool b.neg, .slice C b.num.length c3, .slice D b.den.length c4] 26)) W.heap.size
    rw [← hW] at h1
    unfold Hid
    simpa using h1
  have HZ := Lib.hid (show W.heap.size = w.heap.size + 3 by rw [hW]; simp)
  try rw [← hW]
  clear hW
  refine (checks_any a b A B C D c1 c2 c3 c4 W (HA.out.ext HX.out) (HB.out.ext HX.out) (HC.out.ext HX.out) (HD.out.ext HX.out) wa wb).mono ?_; rintro e w1 ⟨rfl, hx1⟩
  have F1 := six_ext hx1 F0
  have HX1 := Lib.hid (HX.out.trans hx1)
  have HV1 := Lib.hid (HV.out.ext hx1)
  have HZ1 := Lib.hid (show w.heap.size + 3 ≤ w1.heap.size by have := hx1.size; have := HZ.out; omega)
  clear hx1 F0 HX HV
  obtain ⟨u0, u1, u2, v0, v1, v2⟩ := id F1
  go_wp2_with fail
  have hzz := HZ1.out
  go_region_held3 (fun w' => w'.cell? ⟨w.heap.size, 0, none⟩ = some (.bool a.neg) ∧ w'.cell? ⟨w.heap.size, 1, none⟩ = some (.slice A a.num.length c1) ∧ w'.cell? ⟨w.heap.size, 2, none⟩ = some (.slice B a.den.length c2) ∧ w'.cell? ⟨w.heap.size + 1, 0, none⟩ = some (.bool b.neg) ∧ w'.cell? ⟨w.heap.size + 1, 1, none⟩ = some (.slice C b.num.length c3) ∧ w'.cell? ⟨w.heap.size + 1, 2, none⟩ = some (.slice D b.den.length c4)) (repeat (first | (with_reducible exact F1) | (with_reducible exact F2) | (with_reducible exact F3) | (with_reducible exact F4) | (with_reducible refine six_drew ?_) | (with_reducible refine six_set ?_ (by simp only; omega) (by simp only; omega))))
    (first
      | (go_at_call 122; ((with_reducible refine (HT1.out _ HX1.out.drew).mono ?_)); rintro e w2 ⟨A5, c5, rfl, p1, hx2⟩; have P1 := Lib.hid p1; have HX2 := Lib.hid hx2; have F2 := six_ext hx2 (six_drew F1); clear p1 hx2)
      | (go_at_call 122; ((with_reducible refine (HT2.out _ (HX1.out.drew.trans HX2.out)).mono ?_)); rintro e w3 ⟨A6, c6, rfl, p1, hx3⟩; have P2 := Lib.hid p1; have HX3 := Lib.hid hx3; have F3 := six_ext hx3 F2; clear p1 hx3)
      | (go_at_call 156; ((with_reducible refine (HL.out _ _ A5 A6 c5 c6 (P1.out.rd.ext HX3.out) P2.out.rd rfl).mono ?_)); rintro e w9 ⟨A9, c9, B9, d9, rfl, o1, o2, ap, hx⟩; have HX13 := (HX2.out.trans HX3.out).size; (try simp only [World.size_drew] at HX13); have O1 := Lib.hid (o1.lower (show w.heap.size + 3 ≤ w3.heap.size by omega)); have O2 := Lib.hid (o2.lower (show w.heap.size + 3 ≤ w3.heap.size by omega)); have AP := Lib.hid ap; have HX9 := Lib.hid (((HX1.out.drew.trans HX2.out).trans HX3.out).trans hx); have F4 := six_ext hx F3; have HV9 := HV1.out.ext ((((Ext.refl _).drew.trans HX2.out).trans HX3.out).trans hx); have r0 := HV9.c0; have s0 := HV9.fr 0; have r1 := HV9.c1; have s1 := HV9.fr 1; have r2 := HV9.c2; have s2 := HV9.fr 2; clear o1 o2 ap hx HV9 HX13))
  all_goals
    go_wp2_with fail
    exact bodyPost_ret (v := .tuple #[.agg #[.bool t.1.neg, .slice A9 t.1.num.length c9, .slice B9 t.1.den.length d9], .int .i64 t.2]) (by simp [results, Tryz.results206, go_sem, r0, r1, r2]) rfl (RatP.mk HT.out rfl (by refine Own.lower ?_ (show w.heap.size ≤ w.heap.size + 3 by omega); repeat (first | (with_reducible exact O1.out) | refine Own.setBelow ?_ (by simp; try omega) _)) (by refine Own.lower ?_ (show w.heap.size ≤ w.heap.size + 3 by omega); repeat (first | (with_reducible exact O2.out) | refine Own.setBelow ?_ (by simp; try omega) _)) AP.out (by repeat (first | (with_reducible exact HX9.out) | refine Ext.setCell ?_ (by simp; try omega) _)))
set_option maxHeartbeats 1000000 in
theorem size_any (x : Int) (w : World) (h0 : -9223372036854775808 ≤ x) (h1 : x ≤ 9223372036854775807) :
    Calls Tryz.prog 157 #[.int .i64 x] w fun e w' => ∃ A' c', e = .returned (.slice A' (wd x.natAbs).length c') ∧ Own w' w.heap.size A' c' (wd x.natAbs) ∧ Ext w w' := by
  obtain ⟨m, hm⟩ : ∃ m, m = x.natAbs := ⟨_, rfl⟩
  rw [← hm]
  have H := Lib.hid (of_any m w (by omega))
  by_cases hx : x < 0
  · have HE := Lib.hid (show IntKind.u64.wrap (-IntKind.u64.wrap x) = (m : Int) by rw [IntKind.wrap_u64, IntKind.wrap_u64]; omega)
    clear hm
    go_enter Tryz.func157, Tryz.ntmps157
    go_wp2_with fail
    rw [HE.out]
    refine H.out.mono ?_; rintro e w1 ⟨A1, c1, rfl, h1, hx1⟩
    have H1 := Lib.hid h1
    have HX1 := Lib.hid hx1
    clear h1 hx1
    go_wp2_with fail
    go_ret
    exact ⟨_, _, rfl, H1.out, HX1.out⟩
  · obtain rfl : x = (m : Int) := by omega
    clear hm
    go_enter Tryz.func157, Tryz.ntmps157
    go_wp2_with fail
    refine H.out.mono ?_; rintro e w1 ⟨A1, c1, rfl, h1, hx1⟩
    have H1 := Lib.hid h1
    have HX1 := Lib.hid hx1
    clear h1 hx1
    go_wp2_with fail
    go_ret
    exact ⟨_, _, rfl, H1.out, HX1.out⟩
def fsmall (n d : Int) : Fr × Int := if d = 0 then (Fr.zero, 7) else tell (mkRat (sg (decide (n < 0) != decide (d < 0)) n.natAbs) d.natAbs)
theorem wd_len_64 (x : Int) (h0 : -9223372036854775808 ≤ x) (h1 : x ≤ 9223372036854775807) : (wd x.natAbs).length ≤ 2 := wd_two' _ (by omega)
set_option maxHeartbeats 1000000 in
theorem small_frac (n d : Int) (w : World) (h0 : -9223372036854775808 ≤ n) (h1 : n ≤ 9223372036854775807) (k0 : -9223372036854775808 ≤ d) (k1 : d ≤ 9223372036854775807) :
    Calls Tryz.prog 110 #[.int .i64 n, .int .i64 d] w (RatP w (fsmall n d)) := by
  by_cases hd : d = 0
  · have HT := Lib.hid (show fsmall n d = (Fr.zero, 7) from if_pos hd)
    subst hd
    go_enter Tryz.func110, Tryz.ntmps110
    go_wp2_with fail
    exact bodyPost_ret (v := .tuple #[.agg #[.bool false, .slice none 0 0, .slice none 0 0], .int .i64 7]) (by simp [results, Tryz.results110, go_sem]) rfl (RatP.nil HT.out rfl (by repeat (first | exact Ext.refl w | refine Ext.setCell ?_ (Nat.le_refl _) _ | refine Ext.alloc ?_ _)))
  · have hdb : (d == 0) = false := beq_eq_false_iff_ne.2 hd
    have Hn := Lib.hid (wd_len_64 n h0 h1)
    have Hd := Lib.hid (wd_len_64 d k0 k1)
    have Hz := Lib.hid (show d.natAbs ≠ 0 by omega)
    obtain ⟨t, ht⟩ : ∃ t, t = tell (mkRat (sg (decide (n < 0) != decide (d < 0)) n.natAbs) d.natAbs) := ⟨_, rfl⟩
    have HT := Lib.hid (show fsmall n d = t by rw [ht]; exact if_neg hd)
    have HL := fun (wx : World) (b : Bool) (A B : Option Addr) (c e : Nat) (ha : Rd wx A c (wd n.natAbs)) (hb : Rd wx B e (wd d.natAbs)) (hbb : b = (decide (n < 0) != decide (d < 0))) => Lib.hid (show Calls Tryz.prog 156 #[.bool b, .slice A (wd n.natAbs).length c, .slice B (wd d.natAbs).length e] wx (RatP wx t) by
      subst hbb; rw [ht]; exact lowest_any _ A B _ _ c e wx ha hb Hz.out (by have := Hn.out; omega) (by have := Hd.out; omega))
    have HLL := Lib.hid HL
    clear HL ht hd
    go_enter Tryz.func110, Tryz.ntmps110
    go_wp2_with fail
    refine (size_any n _ h0 h1).mono ?_; rintro e w1 ⟨A1, c1, rfl, h1', hx1⟩
    have H1 := Lib.hid h1'
    have HX1 := Lib.hid hx1
    clear h1' hx1
    go_wp2_with fail
    refine (size_any d _ k0 k1).mono ?_; rintro e w2 ⟨A2, c2, rfl, h2, hx2⟩
    have H2 := Lib.hid h2
    have H1 := Lib.hid (H1.out.ext hx2)
    have HX2 := Lib.hid (HX1.out.trans hx2)
    clear h2 hx2
    go_wp2_with fail
    refine (HLL.out _ _ _ _ _ _ H1.out.rd H2.out.rd rfl).out.mono ?_; rintro e w3 ⟨A3, c3, B3, d3, rfl, h3, h4, h5, hx3⟩
    have H3 := Lib.hid (h3.lower (show w.heap.size + 1 ≤ w2.heap.size by have := HX2.out.size; simp at this; omega))
    have H4 := Lib.hid (h4.lower (show w.heap.size + 1 ≤ w2.heap.size by have := HX2.out.size; simp at this; omega))
    have HAp := Lib.hid h5
    have HX3 := Lib.hid (HX2.out.trans hx3)
    have HXw := Lib.hid (((Ext.refl w).alloc _).trans HX3.out)
    have hz3 : w.heap.size < w3.heap.size := by have := HX3.out.size; simp at this; omega
    clear h3 h4 h5 hx3
    obtain ⟨hc, hf⟩ := bcell HX3.out
    go_wp2_with fail
    exact bodyPost_ret (v := .tuple #[.agg #[.bool t.1.neg, .slice A3 t.1.num.length c3, .slice B3 t.1.den.length d3], .int .i64 t.2]) (by simp [results, Tryz.results110, go_sem, hc]) rfl (RatP.mk HT.out rfl (by refine Own.lower ?_ (Nat.le_succ _); repeat (first | exact H3.out | refine Own.setBelow ?_ (Nat.lt_succ_self _) _)) (by refine Own.lower ?_ (Nat.le_succ _); repeat (first | exact H4.out | refine Own.setBelow ?_ (Nat.lt_succ_self _) _)) HAp.out (by repeat (first | exact HXw.out | refine Ext.setCell ?_ (Nat.le_refl _) _)))
structure Adr where
  A : Option Addr
  c : Nat
  B : Option Addr
  d : Nat
structure Adr.Dis (p q : Adr) : Prop where
  aa : ∀ a b, p.A = some a → q.A = some b → a.block ≠ b.block
  ab : ∀ a b, p.A = some a → q.B = some b → a.block ≠ b.block
  ba : ∀ a b, p.B = some a → q.A = some b → a.block ≠ b.block
  bb : ∀ a b, p.B = some a → q.B = some b → a.block ≠ b.block
structure RF (w : World) (p : Adr) (f : Fr) : Prop where
  num : Rd w p.A p.c f.num
  den : Rd w p.B p.d f.den
  wf : f.Wf
structure OF (w : World) (base : Nat) (p : Adr) (f : Fr) : Prop where
  num : Own w base p.A p.c f.num
  den : Own w base p.B p.d f.den
  ap : ∀ a b, p.A = some a → p.B = some b → a.block ≠ b.block
  wf : f.Wf
theorem RF.ext {w w' : World} {p : Adr} {f : Fr} (h : RF w p f) (x : Ext w w') : RF w' p f := ⟨h.num.ext x, h.den.ext x, h.wf⟩
theorem Adr.Dis.symm {p q : Adr} (h : p.Dis q) : q.Dis p := ⟨fun a b e f => (h.aa b a f e).symm, fun a b e f => (h.ba b a f e).symm, fun a b e f => (h.ab b a f e).symm, fun a b e f => (h.bb b a f e).symm⟩
def TF (w : World) (t : Fr × Int) (e : Ending) (w' : World) : Prop :=
  ∃ p : Adr, e = .returned (.tuple #[.agg #[.bool t.1.neg, .slice p.A t.1.num.length p.c, .slice p.B t.1.den.length p.d], .int .i64 t.2]) ∧ OF w' w.heap.size p t.1 ∧ Below w.heap.size w w'
theorem RatP.tf {w w' : World} {t : Fr × Int} {e : Ending} (h : RatP w t e w') (hg : t.1.Wf) : TF w t e w' := by
  obtain ⟨A, c, B, d, h1, h2, h3, h4, h5⟩ := h
  exact ⟨⟨A, c, B, d⟩, h1, ⟨h2, h3, h4, hg⟩, h5⟩
section
variable (a b : Fr) (p q : Adr) (w : World) (ha : RF w p a) (hb : RF w q b)
include ha hb
theorem rAdd : Calls Tryz.prog 93 #[.agg #[.bool a.neg, .slice p.A a.num.length p.c, .slice p.B a.den.length p.d], .agg #[.bool b.neg, .slice q.A b.num.length q.c, .slice q.B b.den.length q.d]] w (TF w (fadd a b)) :=
  (add_fr a b _ _ _ _ _ _ _ _ w ha.num ha.den hb.num hb.den ha.wf hb.wf).mono fun _ _ h => h.tf (fadd_good a b).wf
theorem rSub : Calls Tryz.prog 202 #[.agg #[.bool a.neg, .slice p.A a.num.length p.c, .slice p.B a.den.length p.d], .agg #[.bool b.neg, .slice q.A b.num.length q.c, .slice q.B b.den.length q.d]] w (TF w (fsub a b)) :=
  (sub_fr a b _ _ _ _ _ _ _ _ w ha.num ha.den hb.num hb.den ha.wf hb.wf).mono fun _ _ h => h.tf (fsub_good a b).wf
theorem rMul : Calls Tryz.prog 206 #[.agg #[.bool a.neg, .slice p.A a.num.length p.c, .slice p.B a.den.length p.d], .agg #[.bool b.neg, .slice q.A b.num.length q.c, .slice q.B b.den.length q.d]] w (TF w (fmul a b)) :=
  (mul_fr a b _ _ _ _ _ _ _ _ w ha.num ha.den hb.num hb.den ha.wf hb.wf).mono fun _ _ h => h.tf (fmul_good a b).wf
end
theorem fsmall_wf (n d : Int) : (fsmall n d).1.Wf := by
  unfold fsmall
  split
  · exact Fr.zero_wf
  · exact tell_wf _
theorem rSmall (n d : Int) (w : World) (h0 : -9223372036854775808 ≤ n) (h1 : n ≤ 9223372036854775807) (k0 : -9223372036854775808 ≤ d) (k1 : d ≤ 9223372036854775807) : Calls Tryz.prog 110 #[.int .i64 n, .int .i64 d] w (TF w (fsmall n d)) :=
  (small_frac n d w h0 h1 k0 k1).mono fun _ _ h => h.tf (fsmall_wf n d)
set_option maxHeartbeats 400000 in
theorem gcheck_any (A : Option Addr) (xs : List Int) (c : Nat) (w : World) (h : Rd w A c xs) :
    Calls Tryz.prog 213 #[.slice A xs.length c] w fun e w' => e = .returned (.int .i64 (chk xs)) ∧ w = w' := by
  have hl := h.lim
  have hc := h.cap
  have HA := Lib.hid h.at_
  clear h
  by_cases h1 : 8192 < xs.length
  · have HE := Lib.hid (show chk xs = 3 by unfold chk; rw [if_pos h1])
    go_enter Tryz.func213, Tryz.ntmps213
    go_wp2
    go_ret
    exact ⟨by rw [HE.out]; rfl, rfl⟩
  · by_cases h0 : xs.length = 0
    · have HE := Lib.hid (show chk xs = 0 by unfold chk; rw [if_neg h1, if_neg]; rintro ⟨h2, _⟩; exact h2 (List.eq_nil_of_length_eq_zero h0))
      have hn' : ¬ (0 < xs.length) := by omega
      clear h0
      go_enter Tryz.func213, Tryz.ntmps213
      go_wp2
      go_ret
      exact ⟨by rw [HE.out]; rfl, rfl⟩
    · obtain ⟨k, hk⟩ := Nat.exists_eq_succ_of_ne_zero h0
      obtain ⟨a, rfl, hcell⟩ := HA.out k (by omega)
      have hp : 0 < xs.length := by omega
      have hi : ((xs.length : Int) - 1).toNat = k := by omega
      by_cases hz : nth xs k = 0
      · have HE := Lib.hid (show chk xs = 11 by
          unfold chk; rw [if_neg h1, if_pos ⟨fun e => by simp [e] at hp, by rw [hk]; exact hz⟩])
        rw [hz] at hcell
        clear hz hk h0
        go_enter Tryz.func213, Tryz.ntmps213
        go_wp2
        go_ret
        exact ⟨by rw [HE.out]; rfl, rfl⟩
      · have HE := Lib.hid (show chk xs = 0 by
          unfold chk; rw [if_neg h1, if_neg]; rintro ⟨_, h2⟩; rw [hk] at h2; exact hz h2)
        have hz' : (nth xs k == 0) = false := by simpa using hz
        clear hz hk h0
        go_enter Tryz.func213, Tryz.ntmps213
        go_wp2
        go_ret
        exact ⟨by rw [HE.out]; rfl, rfl⟩
set_option maxHeartbeats 400000 in
theorem gboth_ok (A B : Option Addr) (m n : Nat) (c d : Nat) (w : World) (h : Rd w A c (wd m)) (k : Rd w B d (wd n)) (hm : (wd m).length ≤ 8192) (hn : (wd n).length ≤ 8192) :
    Calls Tryz.prog 187 #[.slice A (wd m).length c, .slice B (wd n).length d] w fun e w' => e = .returned (.int .i64 0) ∧ w = w' := by
  have H := Lib.hid (gcheck_any A _ c w h)
  have K := Lib.hid (gcheck_any B _ d w k)
  rw [chk_wd m hm] at H
  rw [chk_wd n hn] at K
  clear h k
  go_enter Tryz.func187, Tryz.ntmps187
  go_wp2_with fail
  refine H.out.mono ?_; rintro e w' ⟨rfl, rfl⟩
  go_wp2_with fail
  refine K.out.mono ?_; rintro e w' ⟨rfl, rfl⟩
  go_wp2_with fail
  go_ret
  exact ⟨rfl, rfl⟩
theorem gtold_ok (A : Option Addr) (n c : Nat) (w : World) (hn : n ≤ 8192) :
    Calls Tryz.prog 188 #[.slice A n c] w fun e w' => e = .returned (.tuple #[.slice A n c, .int .i64 0]) ∧ w = w' := by
  go_enter Tryz.func188, Tryz.ntmps188
  go_wp2
  go_ret2
  exact ⟨rfl, rfl⟩
set_option maxHeartbeats 400000 in
theorem gtrim_any (A : Option Addr) (xs : List Int) (c l n : Nat) (w : World) (h : Rd w A c xs) (hl : xs.length = l) (hw : Wf xs) (hv : val xs = n) (hm : l ≤ 35184372088832) :
    Calls Tryz.prog 205 #[.slice A l c] w fun e w' => ∃ A' c', e = .returned (.slice A' (wd n).length c') ∧ Own w' w.heap.size A' c' (wd n) ∧ Ext w w' := by
  subst hl
  have ht : xs.take (tl xs xs.length) = wd n := by rw [tl_all hw, hv]; rfl
  have hlim := h.lim
  have hc := h.cap
  have H := Lib.hid h
  have HTK := Lib.hid ht
  clear h ht hw hv
  go_enter Tryz.func205, Tryz.ntmps205
  go_wp2
  go_loop [3] (fun i => ∃ k : Nat, k ≤ xs.length ∧ Hid (tl xs k = tl xs xs.length) ∧ i = .int .i64 k) (fun i => (intOf i).toNat)
  case atStart => exact ⟨xs.length, by omega, rfl, rfl⟩
  case round =>
    obtain ⟨k, hk, hj, rfl⟩ := hrel
    have hfin : nth xs (k - 1) ≠ 0 ∨ k = 0 → k = tl xs xs.length := by
      intro h
      rw [← hj.out]
      cases k with
      | zero => rfl
      | succ k =>
        rcases h with h | h
        · exact (tl_here xs k h).symm
        · omega
    have hgo : nth xs (k - 1) = 0 ∧ 0 < k ∨ (nth xs (k - 1) ≠ 0 ∨ k = 0) := by
      by_cases h1 : nth xs (k - 1) = 0
      · by_cases h2 : k = 0
        · exact .inr (.inr h2)
        · exact .inl ⟨h1, by omega⟩
      · exact .inr (.inl h1)
    rcases hgo with ⟨hz, hp⟩ | hstop
    · obtain ⟨j, rfl⟩ : ∃ j, k = j + 1 := ⟨k - 1, by omega⟩
      obtain ⟨a, rfl, hcell⟩ := H.out.at_ j (by omega)
      simp only [Nat.add_sub_cancel] at hz
      have HJ := Lib.hid ((tl_zero xs j hz).symm.trans hj.out)
      rw [hz] at hcell
      clear hz hfin
      go_wp2
      go_round
      case rel => exact ⟨j, by omega, HJ.out, by go_num⟩
      case measure => simp [intOf]
    · have HK := Lib.hid (hfin hstop)
      have HTa := Lib.hid (show xs.take k = wd n by rw [HK.out]; exact HTK.out)
      have HLk := Lib.hid (show (wd n).length = k by rw [← HTa.out, List.length_take]; omega)
      have HRd := Lib.hid (show Rd w A c (wd n) by rw [← HTa.out]; exact H.out.take k)
      clear hfin
      have hst : k = 0 ∨ (∃ j a, k = j + 1 ∧ A = some a ∧ w.cell? (a.add j) = some (.int .u32 (nth xs j)) ∧ (nth xs j == 0) = false) := by
        cases k with
        | zero => exact .inl rfl
        | succ j =>
          refine .inr ⟨j, ?_⟩
          obtain ⟨a, ha, hcell⟩ := H.out.at_ j (by omega)
          refine ⟨a, rfl, ha, hcell, ?_⟩
          rcases hstop with h | h
          · exact beq_eq_false_iff_ne.2 h
          · omega
      clear hstop
      rcases hst with rfl | ⟨j, a, rfl, rfl, hcell, hz'⟩
      · go_wp2_with (at_builtin; refine wpList_app rfl _ _ rfl w.heap.size none 0 [] 0 rfl rfl (Own.nil _ _) _ _ (wd n) _ HLk.out rfl HRd.out (by omega) (Nat.le_refl _) ?_; intro A' c' w1 hO hg)
        have HO := Lib.hid hO
        have HX : Hid (Ext w w1) := (Ext.refl w).grownNone hg
        clear hO hg
        go_wp2_with fail
        go_ret
        exact ⟨A', c', by rw [HLk.out]; simp, HO.out, HX.out⟩
      · go_wp2_with (at_builtin; refine wpList_app rfl _ _ rfl w.heap.size none 0 [] 0 rfl rfl (Own.nil _ _) _ _ (wd n) _ HLk.out rfl HRd.out (by omega) (Nat.le_refl _) ?_; intro A' c' w1 hO hg)
        have HO := Lib.hid hO
        have HX : Hid (Ext w w1) := (Ext.refl w).grownNone hg
        clear hO hg
        go_wp2_with fail
        go_ret
        exact ⟨A', c', by rw [HLk.out]; simp, HO.out, HX.out⟩
set_option maxHeartbeats 400000 in
theorem gword_any (A : Option Addr) (xs : List Int) (c l k : Nat) (w : World) (h : Rd w A c xs) (hl : xs.length = l) :
    Calls Tryz.prog 207 #[.slice A l c, .int .i64 k] w fun e w' => e = .returned (.int .u32 (nth xs k)) ∧ w = w' := by
  subst hl
  have hlim := h.lim
  by_cases hk : k < xs.length
  · obtain ⟨a, rfl, hcell⟩ := h.at_ k hk
    clear h
    go_enter Tryz.func207, Tryz.ntmps207
    go_wp2
    go_ret
    exact ⟨rfl, rfl⟩
  · have HE := Lib.hid (nth_out xs k (by omega))
    clear h
    go_enter Tryz.func207, Tryz.ntmps207
    go_wp2
    go_ret
    exact ⟨by rw [HE.out]; rfl, rfl⟩
end Go.Proofs.YtakaehdolpmelaaGreat
