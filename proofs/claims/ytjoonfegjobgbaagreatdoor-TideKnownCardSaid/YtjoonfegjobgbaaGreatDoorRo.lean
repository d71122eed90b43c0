/- Texts of this claim, joined: R8 R9 R10 R11 R12 R13 R2s. -/
import Derived.Deep.RegionHeld3
import Derived.Test.YtjoonfegjobgbaaGreatDoorRn
set_option linter.unusedVariables false
set_option linter.unusedSimpArgs false
set_option maxRecDepth 100000
namespace Go.Proofs.YtjoonfegjobgbaaGreatDoor
open Go Go.RowKit
def fturn (b : Fr) : Fr := ⟨!b.neg && decide (0 < b.num.length), b.num, b.den⟩
theorem fturn_enc (q : Rat) : fturn (enc q) = enc (-q) := by rw [enc_neg]; rfl
theorem lng_neg (q : Rat) : lng (-q) = lng q := by unfold lng; rw [Rat.neg_num, Rat.neg_den, Int.natAbs_neg]
theorem fturn_ok {b : Fr} (wb : b.Wf) (h : fchk b = 0) : (fturn b).Wf ∧ fchk (fturn b) = 0 ∧ (fturn b).q = -b.q := by
  obtain ⟨q, rfl, lq⟩ := fchk_ok wb h
  rw [fturn_enc, dec_enc, dec_enc]
  exact ⟨enc_wf _, fchk_enc _ (by rw [lng_neg]; exact lq), rfl⟩
theorem fneg_ok {b : Fr} (wb : b.Wf) (h : fchk b = 0) : fneg b = (fturn b, 0) := by
  obtain ⟨q, rfl, lq⟩ := fchk_ok wb h
  unfold fneg
  rw [if_neg (by omega), fturn_enc, dec_enc]
theorem fchk_small {b : Fr} (h : fchk b = 0) : b.num.length ≤ 2048 ∧ b.den.length ≤ 2048 := by
  unfold fchk at h
  by_cases h1 : 2048 < b.num.length
  · rw [if_pos h1] at h; omega
  · rw [if_neg h1] at h
    by_cases h2 : 2048 < b.den.length
    · rw [if_pos h2] at h; omega
    · omega
theorem six_set {w : World} {h : Nat} {a b c d e f : Value} {p : Addr} {u : Value} (H : Six w h a b c d e f) (h1 : p.block ≠ h) (h2 : p.block ≠ h + 1) : Six (w.setCell p u) h a b c d e f :=
  have hg := grown_setCell w p u
  ⟨cell_keep hg H.1 (fun e => h1 (Option.some.inj e).symm), cell_keep hg H.2.1 (fun e => h1 (Option.some.inj e).symm), cell_keep hg H.2.2.1 (fun e => h1 (Option.some.inj e).symm), cell_keep hg H.2.2.2.1 (fun e => h2 (Option.some.inj e).symm), cell_keep hg H.2.2.2.2.1 (fun e => h2 (Option.some.inj e).symm), cell_keep hg H.2.2.2.2.2 (fun e => h2 (Option.some.inj e).symm)⟩
set_option maxHeartbeats 1000000 in
theorem turned_any (b : Fr) (C D : Option Addr) (c3 c4 : Nat) (w : World) :
    Calls Tryz.prog 81 #[.agg #[.bool b.neg, .slice C b.num.length c3, .slice D b.den.length c4]] w fun e w' => e = .returned (.agg #[.bool (fturn b).neg, .slice C b.num.length c3, .slice D b.den.length c4]) ∧ Ext w w' := by
  obtain ⟨s, xs, ys⟩ := b
  have HX := Lib.hid ((Ext.refl w).alloc (.cells #[.bool s, .slice C xs.length c3, .slice D ys.length c4] 24))
  cases s with
  | true =>
    go_enter Tryz.func81, Tryz.ntmps81
    go_wp2_with fail
    exact bodyPost_ret (v := .agg #[.bool false, .slice C xs.length c3, .slice D ys.length c4]) (by simp [results, Tryz.results81, go_sem]) rfl ⟨rfl, by repeat (first | exact Ext.refl _ | refine Ext.setCell ?_ (by simp) _ | refine Ext.alloc ?_ _)⟩
  | false =>
    have HE := Lib.hid (show (fturn ⟨false, xs, ys⟩).neg = decide (0 < xs.length) from rfl)
    obtain ⟨v, hv⟩ : ∃ v : Bool, v = decide (0 < xs.length) := ⟨_, rfl⟩
    rw [HE.out, ← hv]
    have hv2 : decide ((0 : Int) < (xs.length : Int)) = v := by rw [hv]; exact decide_eq_decide.2 (by omega)
    cases v with
    | true =>
      have h1 : 0 < xs.length := of_decide_eq_true hv.symm
      clear hv hv2 HE
      go_enter Tryz.func81, Tryz.ntmps81
      go_wp2_with fail
      exact bodyPost_ret (v := .agg #[.bool true, .slice C xs.length c3, .slice D ys.length c4]) (by simp [results, Tryz.results81, go_sem]) rfl ⟨rfl, by repeat (first | exact Ext.refl _ | refine Ext.setCell ?_ (by simp) _ | refine Ext.alloc ?_ _)⟩
    | false =>
      have h1 : ¬ (0 < xs.length) := of_decide_eq_false hv.symm
      clear hv hv2 HE
      go_enter Tryz.func81, Tryz.ntmps81
      go_wp2_with fail
      exact bodyPost_ret (v := .agg #[.bool false, .slice C xs.length c3, .slice D ys.length c4]) (by simp [results, Tryz.results81, go_sem]) rfl ⟨rfl, by repeat (first | exact Ext.refl _ | refine Ext.setCell ?_ (by simp) _ | refine Ext.alloc ?_ _)⟩
theorem turned_rd (b : Fr) (C D : Option Addr) (c3 c4 : Nat) (w : World) (hc : Rd w C c3 b.num) (hd : Rd w D c4 b.den) (_ : b.num.length ≤ 2048 ∧ b.den.length ≤ 2048) :
    Calls Tryz.prog 81 #[.agg #[.bool b.neg, .slice C b.num.length c3, .slice D b.den.length c4]] w fun e w' => ∃ C' c' D' d', e = .returned (.agg #[.bool (fturn b).neg, .slice C' b.num.length c', .slice D' b.den.length d']) ∧ Rd w' C' c' b.num ∧ Rd w' D' d' b.den ∧ Ext w w' :=
  (turned_any b C D c3 c4 w).mono fun _ _ ⟨h1, h2⟩ => ⟨C, c3, D, c4, h1, hc.ext h2, hd.ext h2, h2⟩
set_option maxRecDepth 4000 in
set_option maxHeartbeats 2000000 in
theorem sub_fr (a b : Fr) (A B C D : Option Addr) (c1 c2 c3 c4 : Nat) (w : World) (ha : Rd w A c1 a.num) (hb : Rd w B c2 a.den) (hc : Rd w C c3 b.num) (hd : Rd w D c4 b.den) (wa : a.Wf) (wb : b.Wf) :
    Calls Tryz.prog 18 #[.agg #[.bool a.neg, .slice A a.num.length c1, .slice B a.den.length c2], .agg #[.bool b.neg, .slice C b.num.length c3, .slice D b.den.length c4]] w (RatP w (fsub a b)) := by
  have HA := Lib.hid ha
  have HB := Lib.hid hb
  have HC := Lib.hid hc
  have HD := Lib.hid hd
  clear ha hb hc hd
  by_cases hk : fchk2 a b ≠ 0
  · have HT := Lib.hid (show fsub a b = (Fr.zero, fchk2 a b) from both_bad hk)
    have hb1 : (fchk2 a b != 0) = true := bne_iff_ne.2 hk
    clear hk
    go_enter Tryz.func18, Tryz.ntmps18
    go_wp2_with fail
    obtain ⟨W, hW⟩ : ∃ W, W = ((w.alloc (.cells #[.bool a.neg, .slice A a.num.length c1, .slice B a.den.length c2] 24)).alloc (.cells #[.bool b.neg, .slice C b.num.length c3, .slice D b.den.length c4] 24)).alloc (.cells #[.bool false, .slice none 0 0, .slice none 0 0] 24) := ⟨_, rfl⟩
    have F0 : Six W w.heap.size (.bool a.neg) (.slice A a.num.length c1) (.slice B a.den.length c2) (.bool b.neg) (.slice C b.num.length c3) (.slice D b.den.length c4) := by rw [hW]; refine ⟨?_, ?_, ?_, ?_, ?_, ?_⟩ <;> simp [go_sem]
    have HX : Hid (Ext w W) := by rw [hW]; exact (((Ext.refl w).alloc _).alloc _).alloc _
    have HV : Hid (VarF (w.heap.size + 2) W.heap.size Fr.zero none 0 none 0 W) := by
      have h1 := VarF.zero ((w.alloc (.cells #[.bool a.neg, .slice A a.num.length c1, .slice B a.den.length c2] 24)).alloc (.cells #[.bool b.neg, .slice C b.num.length c3, .slice D b.den.length c4] 24)) W.heap.size
      rw [← hW] at h1
      unfold Hid
      simpa using h1
    have HZ := Lib.hid (show W.heap.size = w.heap.size + 3 by rw [hW]; simp)
    try rw [← hW]
    clear hW
    refine (checks_any a b A B C D c1 c2 c3 c4 W (HA.out.ext HX.out) (HB.out.ext HX.out) (HC.out.ext HX.out) (HD.out.ext HX.out) wa wb).mono ?_; rintro e w1 ⟨rfl, hx1⟩
    have F1 := six_ext hx1 F0
    have HX1 := Lib.hid (HX.out.trans hx1)
    have HV1 := Lib.hid (HV.out.ext hx1)
    have HZ1 := Lib.hid (show w.heap.size + 3 ≤ w1.heap.size by have := hx1.size; have := HZ.out; omega)
    clear hx1 F0 HX HV
    have r0 := HV1.out.c0
    have s0 := HV1.out.fr 0
    have r1 := HV1.out.c1
    have s1 := HV1.out.fr 1
    have r2 := HV1.out.c2
    have s2 := HV1.out.fr 2
    clear F1
    go_wp2_with fail
    exact bodyPost_ret (v := .tuple #[.agg #[.bool false, .slice none 0 0, .slice none 0 0], .int .i64 (fchk2 a b)]) (by simp [results, Tryz.results18, go_sem, r0, r1, r2]) rfl (RatP.nil HT.out rfl (by repeat (first | (with_reducible exact HX1.out) | refine Ext.setCell ?_ (by simp; try omega) _)))
  have h0 : fchk2 a b = 0 := by simpa using hk
  have hb1 : (fchk2 a b != 0) = false := bne_eq_false_iff_eq.2 h0
  obtain ⟨k1, k2⟩ := fchk2_zero h0
  obtain ⟨t, ht⟩ : ∃ t, t = tell (a.q - b.q) := ⟨_, rfl⟩
  have HT := Lib.hid (show fsub a b = t by rw [ht]; exact both_good h0)
  obtain ⟨k3, k4, k5⟩ := fturn_ok wb k2
  have HTU := Lib.hid (fun wx (hx : Ext w wx) => turned_rd b C D c3 c4 wx (HC.out.ext hx) (HD.out.ext hx) (fchk_small k2))
  have HP := Lib.hid (fun wx (hx : Ext w wx) (C' D' : Option Addr) (c' d' : Nat) (h1 : Rd wx C' c' b.num) (h2 : Rd wx D' d' b.den) => show Calls Tryz.prog 78 #[.agg #[.bool a.neg, .slice A a.num.length c1, .slice B a.den.length c2], .agg #[.bool (fturn b).neg, .slice C' b.num.length c', .slice D' b.den.length d']] wx (RatP wx (tell (a.q - b.q))) from plus_fr a (fturn b) A B C' D' c1 c2 c' d' wx (HA.out.ext hx) (HB.out.ext hx) h1 h2 wa k3 k1 k4 (a.q - b.q) (by rw [k5, Rat.sub_eq_add_neg]))
  rw [← ht] at HP
  clear ht hk k1 k2 h0 k3 k4 k5
  go_enter Tryz.func18, Tryz.ntmps18
  go_wp2_with fail
  obtain ⟨W, hW⟩ : ∃ W, W = ((w.alloc (.cells #[.bool a.neg, .slice A a.num.length c1, .slice B a.den.length c2] 24)).alloc (.cells #[.bool b.neg, .slice C b.num.length c3, .slice D b.den.length c4] 24)).alloc (.cells #[.bool false, .slice none 0 0, .slice none 0 0] 24) := ⟨_, rfl⟩
  have F0 : Six W w.heap.size (.bool a.neg) (.slice A a.num.length c1) (.slice B a.den.length c2) (.bool b.neg) (.slice C b.num.length c3) (.slice D b.den.length c4) := by rw [hW]; refine ⟨?_, ?_, ?_, ?_, ?_, ?_⟩ <;> simp [go_sem]
  have HX : Hid (Ext w W) := by rw [hW]; exact (((Ext.refl w).alloc _).alloc _).alloc _
  have HV : Hid (VarF (w.heap.size + 2) W.heap.size Fr.zero none 0 none 0 W) := by
    have h1 := VarF.zero ((w.alloc (.cells #[.bool a.neg, .slice A a.num.length c1, .slice B a.den.length c2] 24)).alloc (.cells #[.bool b.neg, .slice C b.num.length c3, .slice D b.den.length c4] 24)) W.heap.size
    rw [← hW] at h1
    unfold Hid
    simpa using h1
  have HZ := Lib.hid (show W.heap.size = w.heap.size + 3 by rw [hW]; simp)
  try rw [← hW]
  clear hW
  refine (checks_any a b A B C D c1 c2 c3 c4 W (HA.out.ext HX.out) (HB.out.ext HX.out) (HC.out.ext HX.out) (HD.out.ext HX.out) wa wb).mono ?_; rintro e w1 ⟨rfl, hx1⟩
  have F1 := six_ext hx1 F0
  have HX1 := Lib.hid (HX.out.trans hx1)
  have HV1 := Lib.hid (HV.out.ext hx1)
  have HZ1 := Lib.hid (show w.heap.size + 3 ≤ w1.heap.size by have := hx1.size; have := HZ.out; omega)
  clear hx1 F0 HX HV
  obtain ⟨u0, u1, u2, v0, v1, v2⟩ := id F1
  go_wp2_with fail
  have hzz := HZ1.out
  go_region_held3 (fun w' => w'.cell? ⟨w.heap.size, 0, none⟩ = some (.bool a.neg) ∧ w'.cell? ⟨w.heap.size, 1, none⟩ = some (.slice A a.num.length c1) ∧ w'.cell? ⟨w.heap.size, 2, none⟩ = some (.slice B a.den.length c2) ∧ w'.cell? ⟨w.heap.size + 1, 0, none⟩ = some (.bool b.neg) ∧ w'.cell? ⟨w.heap.size + 1, 1, none⟩ = some (.slice C b.num.length c3) ∧ w'.cell? ⟨w.heap.size + 1, 2, none⟩ = some (.slice D b.den.length c4)) (repeat (first | (with_reducible exact F1) | (with_reducible exact F2) | (with_reducible exact F3) | (with_reducible exact F4) | (with_reducible refine six_drew ?_) | (with_reducible refine six_set ?_ (by simp only; omega) (by simp only; omega))))
    (first
      | (go_at_call 81; ((with_reducible refine (HTU.out _ HX1.out.drew).mono ?_)); rintro e w2 ⟨C5, c5, D5, d5, rfl, p1, p2, hx2⟩; have P1 := Lib.hid p1; have P2 := Lib.hid p2; have HX2 := Lib.hid hx2; have F2 := six_ext hx2 (six_drew F1); clear p1 p2 hx2)
      | (go_at_call 78; ((with_reducible refine (HP.out _ (HX1.out.drew.trans HX2.out) C5 D5 c5 d5 P1.out P2.out).mono ?_)); rintro e w9 ⟨A9, c9, B9, d9, rfl, o1, o2, ap, hx⟩; have O1 := Lib.hid (o1.lower (show w.heap.size + 3 ≤ w2.heap.size by have := HX2.out.size; simp only [World.size_drew] at this; omega)); have O2 := Lib.hid (o2.lower (show w.heap.size + 3 ≤ w2.heap.size by have := HX2.out.size; simp only [World.size_drew] at this; omega)); have AP := Lib.hid ap; have HX9 := Lib.hid ((HX1.out.drew.trans HX2.out).trans hx); have F3 := six_ext hx F2; have HV9 := HV1.out.ext (((Ext.refl _).drew.trans HX2.out).trans hx); have r0 := HV9.c0; have s0 := HV9.fr 0; have r1 := HV9.c1; have s1 := HV9.fr 1; have r2 := HV9.c2; have s2 := HV9.fr 2; clear o1 o2 ap hx HV9))
  all_goals
    go_wp2_with fail
    exact bodyPost_ret (v := .tuple #[.agg #[.bool t.1.neg, .slice A9 t.1.num.length c9, .slice B9 t.1.den.length d9], .int .i64 t.2]) (by simp [results, Tryz.results18, go_sem, r0, r1, r2]) rfl (RatP.mk HT.out rfl (by refine Own.lower ?_ (show w.heap.size ≤ w.heap.size + 3 by omega); repeat (first | (with_reducible exact O1.out) | refine Own.setBelow ?_ (by simp; try omega) _)) (by refine Own.lower ?_ (show w.heap.size ≤ w.heap.size + 3 by omega); repeat (first | (with_reducible exact O2.out) | refine Own.setBelow ?_ (by simp; try omega) _)) AP.out (by repeat (first | (with_reducible exact HX9.out) | refine Ext.setCell ?_ (by simp; try omega) _)))
set_option maxRecDepth 4000 in
set_option maxHeartbeats 2000000 in
theorem mul_fr (a b : Fr) (A B C D : Option Addr) (c1 c2 c3 c4 : Nat) (w : World) (ha : Rd w A c1 a.num) (hb : Rd w B c2 a.den) (hc : Rd w C c3 b.num) (hd : Rd w D c4 b.den) (wa : a.Wf) (wb : b.Wf) :
    Calls Tryz.prog 17 #[.agg #[.bool a.neg, .slice A a.num.length c1, .slice B a.den.length c2], .agg #[.bool b.neg, .slice C b.num.length c3, .slice D b.den.length c4]] w (RatP w (fmul a b)) := by
  have HA := Lib.hid ha
  have HB := Lib.hid hb
  have HC := Lib.hid hc
  have HD := Lib.hid hd
  clear ha hb hc hd
  by_cases hk : fchk2 a b ≠ 0
  · have HT := Lib.hid (show fmul a b = (Fr.zero, fchk2 a b) from both_bad hk)
    have hb1 : (fchk2 a b != 0) = true := bne_iff_ne.2 hk
    clear hk
    go_enter Tryz.func17, Tryz.ntmps17
    go_wp2_with fail
    obtain ⟨W, hW⟩ : ∃ W, W = ((w.alloc (.cells #[.bool a.neg, .slice A a.num.length c1, .slice B a.den.length c2] 24)).alloc (.cells #[.bool b.neg, .slice C b.num.length c3, .slice D b.den.length c4] 24)).alloc (.cells #[.bool false, .slice none 0 0, .slice none 0 0] 24) := ⟨_, rfl⟩
    have F0 : Six W w.heap.size (.bool a.neg) (.slice A a.num.length c1) (.slice B a.den.length c2) (.bool b.neg) (.slice C b.num.length c3) (.slice D b.den.length c4) := by rw [hW]; refine ⟨?_, ?_, ?_, ?_, ?_, ?_⟩ <;> simp [go_sem]
    have HX : Hid (Ext w W) := by rw [hW]; exact (((Ext.refl w).alloc _).alloc _).alloc _
    have HV : Hid (VarF (w.heap.size + 2) W.heap.size Fr.zero none 0 none 0 W) := by
      have h1 := VarF.zero ((w.alloc (.cells #[.bool a.neg, .slice A a.num.length c1, .slice B a.den.length c2] 24)).alloc (.cells #[.bool b.neg, .slice C b.num.length c3, .slice D b.den.length c4] 24)) W.heap.size
      rw [← hW] at h1
      unfold Hid
      simpa using h1
    have HZ := Lib.hid (show W.heap.size = w.heap.size + 3 by rw [hW]; simp)
    try rw [← hW]
    clear hW
    refine (checks_any a b A B C D c1 c2 c3 c4 W (HA.out.ext HX.out) (HB.out.ext HX.out) (HC.out.ext HX.out) (HD.out.ext HX.out) wa wb).mono ?_; rintro e w1 ⟨rfl, hx1⟩
    have F1 := six_ext hx1 F0
    have HX1 := Lib.hid (HX.out.trans hx1)
    have HV1 := Lib.hid (HV.out.ext hx1)
    have HZ1 := Lib.hid (show w.heap.size + 3 ≤ w1.heap.size by have := hx1.size; have := HZ.out; omega)
    clear hx1 F0 HX HV
    have r0 := HV1.out.c0
    have s0 := HV1.out.fr 0
    have r1 := HV1.out.c1
    have s1 := HV1.out.fr 1
    have r2 := HV1.out.c2
    have s2 := HV1.out.fr 2
    clear F1
    go_wp2_with fail
    exact bodyPost_ret (v := .tuple #[.agg #[.bool false, .slice none 0 0, .slice none 0 0], .int .i64 (fchk2 a b)]) (by simp [results, Tryz.results17, go_sem, r0, r1, r2]) rfl (RatP.nil HT.out rfl (by repeat (first | (with_reducible exact HX1.out) | refine Ext.setCell ?_ (by simp; try omega) _)))
  have h0 : fchk2 a b = 0 := by simpa using hk
  have hb1 : (fchk2 a b != 0) = false := bne_eq_false_iff_eq.2 h0
  obtain ⟨p, q, ep, eq, lp, lq⟩ := fchk2_ok wa wb h0
  have LP := not_lng lp
  have LQ := not_lng lq
  have E1 : a.num = wd p.num.natAbs := by rw [ep]; rfl
  have E2 : a.den = wd p.den := by rw [ep]; rfl
  have E3 : b.num = wd q.num.natAbs := by rw [eq]; rfl
  have E4 : b.den = wd q.den := by rw [eq]; rfl
  have E5 : a.neg = decide (p.num < 0) := by rw [ep]; rfl
  have E6 : b.neg = decide (q.num < 0) := by rw [eq]; rfl
  obtain ⟨t, ht⟩ : ∃ t, t = tell (p * q) := ⟨_, rfl⟩
  have HT := Lib.hid (show fmul a b = t by unfold fmul; rw [both_good h0, ht, ep, eq, dec_enc, dec_enc])
  have lX := wd_len_mul p.num.natAbs q.num.natAbs
  have lY := wd_len_mul p.den q.den
  have hY0 : p.den * q.den ≠ 0 := Nat.mul_ne_zero p.den_nz q.den_nz
  have HM := Lib.hid (show mkRat (sg (!(a.neg == b.neg)) (p.num.natAbs * q.num.natAbs)) (p.den * q.den) = p * q by rw [E5, E6]; exact mul_made p q)
  obtain ⟨X, hX⟩ : ∃ X, X = p.num.natAbs * q.num.natAbs := ⟨_, rfl⟩
  obtain ⟨Y, hY⟩ : ∃ Y, Y = p.den * q.den := ⟨_, rfl⟩
  have HT1 := Lib.hid (fun wx (hx : Ext w wx) => by
    have h1 := times_any A C p.num.natAbs q.num.natAbs c1 c3 wx (E1 ▸ HA.out.ext hx) (E3 ▸ HC.out.ext hx) (by omega)
    rw [← E1, ← E3, ← hX] at h1
    exact h1)
  have HT2 := Lib.hid (fun wx (hx : Ext w wx) => by
    have h1 := times_any B D p.den q.den c2 c4 wx (E2 ▸ HB.out.ext hx) (E4 ▸ HD.out.ext hx) (by omega)
    rw [← E2, ← E4, ← hY] at h1
    exact h1)
  rw [← hX] at lX HM
  rw [← hY] at lY hY0 HM
  have HL := Lib.hid (fun (wx : World) (v : Bool) (P Q : Option Addr) (c d : Nat) (h1 : Rd wx P c (wd X)) (h2 : Rd wx Q d (wd Y)) (hv : v = (!(a.neg == b.neg))) => show Calls Tryz.prog 79 #[.bool v, .slice P (wd X).length c, .slice Q (wd Y).length d] wx (RatP wx t) by
    subst hv
    have := lowest_any (!(a.neg == b.neg)) P Q X Y c d wx h1 h2 hY0 (by omega) (by omega)
    rw [HM.out, ← ht] at this
    exact this)
  clear hX hY ht hk h0 ep eq E1 E2 E3 E4 E5 E6
  go_enter Tryz.func17, Tryz.ntmps17
  go_wp2_with fail
  obtain ⟨W, hW⟩ : ∃ W, W = ((w.alloc (.cells #[.bool a.neg, .slice A a.num.length c1, .slice B a.den.length c2] 24)).alloc (.cells #[.bool b.neg, .slice C b.num.length c3, .slice D b.den.length c4] 24)).alloc (.cells #[.bool false, .slice none 0 0, .slice none 0 0] 24) := ⟨_, rfl⟩
  have F0 : Six W w.heap.size (.bool a.neg) (.slice A a.num.length c1) (.slice B a.den.length c2) (.bool b.neg) (.slice C b.num.length c3) (.slice D b.den.length c4) := by rw [hW]; refine ⟨?_, ?_, ?_, ?_, ?_, ?_⟩ <;> simp [go_sem]
  have HX : Hid (Ext w W) := by rw [hW]; exact (((Ext.refl w).alloc _).alloc _).alloc _
  have HV : Hid (VarF (w.heap.size + 2) W.heap.size Fr.zero none 0 none 0 W) := by
    have h1 := VarF.zero ((w.alloc (.cells #[.bool a.neg, .slice A a.num.length c1, .slice B a.den.length c2] 24)).alloc (.cells #[.bool b.neg, .slice C b.num.length c3, .slice D b.den.length c4] 24)) W.heap.size
    rw [← hW] at h1
    unfold Hid
    simpa using h1
  have HZ := Lib.hid (show W.heap.size = w.heap.size + 3 by rw [hW]; simp)
  try rw [← hW]
  clear hW
  refine (checks_any a b A B C D c1 c2 c3 c4 W (HA.out.ext HX.out) (HB.out.ext HX.out) (HC.out.ext HX.out) (HD.out.ext HX.out) wa wb).mono ?_; rintro e w1 ⟨rfl, hx1⟩
  have F1 := six_ext hx1 F0
  have HX1 := Lib.hid (HX.out.trans hx1)
  have HV1 := Lib.hid (HV.out.ext hx1)
  have HZ1 := Lib.hid (show w.heap.size + 3 ≤ w1.heap.size by have := hx1.size; have := HZ.out; omega)
  clear hx1 F0 HX HV
  obtain ⟨u0, u1, u2, v0, v1, v2⟩ := id F1
  go_wp2_with fail
  have hzz := HZ1.out
  go_region_held3 (fun w' => w'.cell? ⟨w.heap.size, 0, none⟩ = some (.bool a.neg) ∧ w'.cell? ⟨w.heap.size, 1, none⟩ = some (.slice A a.num.length c1) ∧ w'.cell? ⟨w.heap.size, 2, none⟩ = some (.slice B a.den.length c2) ∧ w'.cell? ⟨w.heap.size + 1, 0, none⟩ = some (.bool b.neg) ∧ w'.cell? ⟨w.heap.size + 1, 1, none⟩ = some (.slice C b.num.length c3) ∧ w'.cell? ⟨w.heap.size + 1, 2, none⟩ = some (.slice D b.den.length c4)) (repeat (first | (with_reducible exact F1) | (with_reducible exact F2) | (with_reducible exact F3) | (with_reducible exact F4) | (with_reducible refine six_drew ?_) | (with_reducible refine six_set ?_ (by simp only; omega) (by simp only; omega))))
    (first
      | (go_at_call 80; ((with_reducible refine (HT1.out _ HX1.out.drew).mono ?_)); rintro e w2 ⟨A5, c5, rfl, p1, hx2⟩; have P1 := Lib.hid p1; have HX2 := Lib.hid hx2; have F2 := six_ext hx2 (six_drew F1); clear p1 hx2)
      | (go_at_call 80; ((with_reducible refine (HT2.out _ (HX1.out.drew.trans HX2.out)).mono ?_)); rintro e w3 ⟨A6, c6, rfl, p1, hx3⟩; have P2 := Lib.hid p1; have HX3 := Lib.hid hx3; have F3 := six_ext hx3 F2; clear p1 hx3)
      | (go_at_call 79; ((with_reducible refine (HL.out _ _ A5 A6 c5 c6 (P1.out.rd.ext HX3.out) P2.out.rd rfl).mono ?_)); rintro e w9 ⟨A9, c9, B9, d9, rfl, o1, o2, ap, hx⟩; have HX13 := (HX2.out.trans HX3.out).size; (try simp only [World.size_drew] at HX13); have O1 := Lib.hid (o1.lower (show w.heap.size + 3 ≤ w3.heap.size by omega)); have O2 := Lib.hid (o2.lower (show w.heap.size + 3 ≤ w3.heap.size by omega)); have AP := Lib.hid ap; have HX9 := Lib.hid (((HX1.out.drew.trans HX2.out).trans HX3.out).trans hx); have F4 := six_ext hx F3; have HV9 := HV1.out.ext ((((Ext.refl _).drew.trans HX2.out).trans HX3.out).trans hx); have r0 := HV9.c0; have s0 := HV9.fr 0; have r1 := HV9.c1; have s1 := HV9.fr 1; have r2 := HV9.c2; have s2 := HV9.fr 2; clear o1 o2 ap hx HV9 HX13))
  all_goals
    go_wp2_with fail
    exact bodyPost_ret (v := .tuple #[.agg #[.bool t.1.neg, .slice A9 t.1.num.length c9, .slice B9 t.1.den.length d9], .int .i64 t.2]) (by simp [results, Tryz.results17, go_sem, r0, r1, r2]) rfl (RatP.mk HT.out rfl (by refine Own.lower ?_ (show w.heap.size ≤ w.heap.size + 3 by omega); repeat (first | (with_reducible exact O1.out) | refine Own.setBelow ?_ (by simp; try omega) _)) (by refine Own.lower ?_ (show w.heap.size ≤ w.heap.size + 3 by omega); repeat (first | (with_reducible exact O2.out) | refine Own.setBelow ?_ (by simp; try omega) _)) AP.out (by repeat (first | (with_reducible exact HX9.out) | refine Ext.setCell ?_ (by simp; try omega) _)))
set_option maxRecDepth 4000 in
set_option maxHeartbeats 2000000 in
theorem quo_fr (a b : Fr) (A B C D : Option Addr) (c1 c2 c3 c4 : Nat) (w : World) (ha : Rd w A c1 a.num) (hb : Rd w B c2 a.den) (hc : Rd w C c3 b.num) (hd : Rd w D c4 b.den) (wa : a.Wf) (wb : b.Wf) :
    Calls Tryz.prog 21 #[.agg #[.bool a.neg, .slice A a.num.length c1, .slice B a.den.length c2], .agg #[.bool b.neg, .slice C b.num.length c3, .slice D b.den.length c4]] w (RatP w (fquo a b)) := by
  have HA := Lib.hid ha
  have HB := Lib.hid hb
  have HC := Lib.hid hc
  have HD := Lib.hid hd
  clear ha hb hc hd
  by_cases hk : fchk2 a b ≠ 0
  · have HT := Lib.hid (show fquo a b = (Fr.zero, fchk2 a b) from both_bad hk)
    have hb1 : (fchk2 a b != 0) = true := bne_iff_ne.2 hk
    clear hk
    go_enter Tryz.func21, Tryz.ntmps21
    go_wp2_with fail
    obtain ⟨W, hW⟩ : ∃ W, W = ((w.alloc (.cells #[.bool a.neg, .slice A a.num.length c1, .slice B a.den.length c2] 24)).alloc (.cells #[.bool b.neg, .slice C b.num.length c3, .slice D b.den.length c4] 24)).alloc (.cells #[.bool false, .slice none 0 0, .slice none 0 0] 24) := ⟨_, rfl⟩
    have F0 : Six W w.heap.size (.bool a.neg) (.slice A a.num.length c1) (.slice B a.den.length c2) (.bool b.neg) (.slice C b.num.length c3) (.slice D b.den.length c4) := by rw [hW]; refine ⟨?_, ?_, ?_, ?_, ?_, ?_⟩ <;> simp [go_sem]
    have HX : Hid (Ext w W) := by rw [hW]; exact (((Ext.refl w).alloc _).alloc _).alloc _
    have HV : Hid (VarF (w.heap.size + 2) W.heap.size Fr.zero none 0 none 0 W) := by
      have h1 := VarF.zero ((w.alloc (.cells #[.bool a.neg, .slice A a.num.length c1, .slice B a.den.length c2] 24)).alloc (.cells #[.bool b.neg, .slice C b.num.length c3, .slice D b.den.length c4] 24)) W.heap.size
      rw [← hW] at h1
      unfold Hid
      simpa using h1
    have HZ := Lib.hid (show W.heap.size = w.heap.size + 3 by rw [hW]; simp)
    try rw [← hW]
    clear hW
    refine (checks_any a b A B C D c1 c2 c3 c4 W (HA.out.ext HX.out) (HB.out.ext HX.out) (HC.out.ext HX.out) (HD.out.ext HX.out) wa wb).mono ?_; rintro e w1 ⟨rfl, hx1⟩
    have F1 := six_ext hx1 F0
    have HX1 := Lib.hid (HX.out.trans hx1)
    have HV1 := Lib.hid (HV.out.ext hx1)
    have HZ1 := Lib.hid (show w.heap.size + 3 ≤ w1.heap.size by have := hx1.size; have := HZ.out; omega)
    clear hx1 F0 HX HV
    have r0 := HV1.out.c0
    have s0 := HV1.out.fr 0
    have r1 := HV1.out.c1
    have s1 := HV1.out.fr 1
    have r2 := HV1.out.c2
    have s2 := HV1.out.fr 2
    clear F1
    go_wp2_with fail
    exact bodyPost_ret (v := .tuple #[.agg #[.bool false, .slice none 0 0, .slice none 0 0], .int .i64 (fchk2 a b)]) (by simp [results, Tryz.results21, go_sem, r0, r1, r2]) rfl (RatP.nil HT.out rfl (by repeat (first | (with_reducible exact HX1.out) | refine Ext.setCell ?_ (by simp; try omega) _)))
  have h0 : fchk2 a b = 0 := by simpa using hk
  have hb1 : (fchk2 a b != 0) = false := bne_eq_false_iff_eq.2 h0
  obtain ⟨p, q, ep, eq, lp, lq⟩ := fchk2_ok wa wb h0
  have LP := not_lng lp
  have LQ := not_lng lq
  have E1 : a.num = wd p.num.natAbs := by rw [ep]; rfl
  have E2 : a.den = wd p.den := by rw [ep]; rfl
  have E3 : b.num = wd q.num.natAbs := by rw [eq]; rfl
  have E4 : b.den = wd q.den := by rw [eq]; rfl
  have E5 : a.neg = decide (p.num < 0) := by rw [ep]; rfl
  have E6 : b.neg = decide (q.num < 0) := by rw [eq]; rfl
  by_cases hq : q = 0
  · have HT := Lib.hid (show fquo a b = (Fr.zero, 7) by unfold fquo; rw [both_good h0, if_pos (by rw [eq, dec_enc]; exact hq)])
    have hlen : ((b.num.length : Int) == 0) = true := by rw [E3, hq, show (0 : Rat).num.natAbs = 0 from rfl, wd_zero]; rfl
    clear hk h0 ep eq E1 E2 E3 E4 E5 E6 hq
    go_enter Tryz.func21, Tryz.ntmps21
    go_wp2_with fail
    obtain ⟨W, hW⟩ : ∃ W, W = ((w.alloc (.cells #[.bool a.neg, .slice A a.num.length c1, .slice B a.den.length c2] 24)).alloc (.cells #[.bool b.neg, .slice C b.num.length c3, .slice D b.den.length c4] 24)).alloc (.cells #[.bool false, .slice none 0 0, .slice none 0 0] 24) := ⟨_, rfl⟩
    have F0 : Six W w.heap.size (.bool a.neg) (.slice A a.num.length c1) (.slice B a.den.length c2) (.bool b.neg) (.slice C b.num.length c3) (.slice D b.den.length c4) := by rw [hW]; refine ⟨?_, ?_, ?_, ?_, ?_, ?_⟩ <;> simp [go_sem]
    have HX : Hid (Ext w W) := by rw [hW]; exact (((Ext.refl w).alloc _).alloc _).alloc _
    have HV : Hid (VarF (w.heap.size + 2) W.heap.size Fr.zero none 0 none 0 W) := by
      have h1 := VarF.zero ((w.alloc (.cells #[.bool a.neg, .slice A a.num.length c1, .slice B a.den.length c2] 24)).alloc (.cells #[.bool b.neg, .slice C b.num.length c3, .slice D b.den.length c4] 24)) W.heap.size
      rw [← hW] at h1
      unfold Hid
      simpa using h1
    have HZ := Lib.hid (show W.heap.size = w.heap.size + 3 by rw [hW]; simp)
    try rw [← hW]
    clear hW
    refine (checks_any a b A B C D c1 c2 c3 c4 W (HA.out.ext HX.out) (HB.out.ext HX.out) (HC.out.ext HX.out) (HD.out.ext HX.out) wa wb).mono ?_; rintro e w1 ⟨rfl, hx1⟩
    have F1 := six_ext hx1 F0
    have HX1 := Lib.hid (HX.out.trans hx1)
    have HV1 := Lib.hid (HV.out.ext hx1)
    have HZ1 := Lib.hid (show w.heap.size + 3 ≤ w1.heap.size by have := hx1.size; have := HZ.out; omega)
    clear hx1 F0 HX HV
    have r0 := HV1.out.c0
    have s0 := HV1.out.fr 0
    have r1 := HV1.out.c1
    have s1 := HV1.out.fr 1
    have r2 := HV1.out.c2
    have s2 := HV1.out.fr 2
    obtain ⟨u0, u1, u2, v0, v1, v2⟩ := F1
    go_wp2_with fail
    exact bodyPost_ret (v := .tuple #[.agg #[.bool false, .slice none 0 0, .slice none 0 0], .int .i64 7]) (by simp [results, Tryz.results21, go_sem, r0, r1, r2]) rfl (RatP.nil HT.out rfl (by repeat (first | (with_reducible exact HX1.out) | refine Ext.setCell ?_ (by simp; try omega) _)))
  have hqn : q.num.natAbs ≠ 0 := fun e => hq (Rat.num_eq_zero.1 (by omega))
  have hlen : ((b.num.length : Int) == 0) = false := beq_eq_false_iff_ne.2 (fun e => hqn (wd_len_zero.1 (by rw [← E3]; omega)))
  obtain ⟨t, ht⟩ : ∃ t, t = tell (p / q) := ⟨_, rfl⟩
  have HT := Lib.hid (show fquo a b = t by unfold fquo; rw [both_good h0, if_neg (by rw [eq, dec_enc]; exact hq), ht, ep, eq, dec_enc, dec_enc])
  have lX := wd_len_mul p.num.natAbs q.den
  have lY := wd_len_mul p.den q.num.natAbs
  have hY0 : p.den * q.num.natAbs ≠ 0 := Nat.mul_ne_zero p.den_nz hqn
  have HM := Lib.hid (show mkRat (sg (!(a.neg == b.neg)) (p.num.natAbs * q.den)) (p.den * q.num.natAbs) = p / q by rw [E5, E6]; exact quo_made p q hq)
  obtain ⟨X, hX⟩ : ∃ X, X = p.num.natAbs * q.den := ⟨_, rfl⟩
  obtain ⟨Y, hY⟩ : ∃ Y, Y = p.den * q.num.natAbs := ⟨_, rfl⟩
  have HT1 := Lib.hid (fun wx (hx : Ext w wx) => by
    have h1 := times_any A D p.num.natAbs q.den c1 c4 wx (E1 ▸ HA.out.ext hx) (E4 ▸ HD.out.ext hx) (by omega)
    rw [← E1, ← E4, ← hX] at h1
    exact h1)
  have HT2 := Lib.hid (fun wx (hx : Ext w wx) => by
    have h1 := times_any B C p.den q.num.natAbs c2 c3 wx (E2 ▸ HB.out.ext hx) (E3 ▸ HC.out.ext hx) (by omega)
    rw [← E2, ← E3, ← hY] at h1
    exact h1)
  rw [← hX] at lX HM
  rw [← hY] at lY hY0 HM
  have HL := Lib.hid (fun (wx : World) (v : Bool) (P Q : Option Addr) (c d : Nat) (h1 : Rd wx P c (wd X)) (h2 : Rd wx Q d (wd Y)) (hv : v = (!(a.neg == b.neg))) => show Calls Tryz.prog 79 #[.bool v, .slice P (wd X).length c, .slice Q (wd Y).length d] wx (RatP wx t) by
    subst hv
    have := lowest_any (!(a.neg == b.neg)) P Q X Y c d wx h1 h2 hY0 (by omega) (by omega)
    rw [HM.out, ← ht] at this
    exact this)
  clear hX hY ht hk h0 ep eq E1 E2 E3 E4 E5 E6 hq
  go_enter Tryz.func21, Tryz.ntmps21
  go_wp2_with fail
  obtain ⟨W, hW⟩ : ∃ W, W = ((w.alloc (.cells #[.bool a.neg, .slice A a.num.length c1, .slice B a.den.length c2] 24)).alloc (.cells #[.bool b.neg, .slice C b.num.length c3, .slice D b.den.length c4] 24)).alloc (.cells #[.bool false, .slice none 0 0, .slice none 0 0] 24) := ⟨_, rfl⟩
  have F0 : Six W w.heap.size (.bool a.neg) (.slice A a.num.length c1) (.slice B a.den.length c2) (.bool b.neg) (.slice C b.num.length c3) (.slice D b.den.length c4) := by rw [hW]; refine ⟨?_, ?_, ?_, ?_, ?_, ?_⟩ <;> simp [go_sem]
  have HX : Hid (Ext w W) := by rw [hW]; exact (((Ext.refl w).alloc _).alloc _).alloc _
  have HV : Hid (VarF (w.heap.size + 2) W.heap.size Fr.zero none 0 none 0 W) := by
    have h1 := VarF.zero ((w.alloc (.cells #[.bool a.neg, .slice A a.num.length c1, .slice B a.den.length c2] 24)).alloc (.cells #[.bool b.neg, .slice C b.num.length c3, .slice D b.den.length c4] 24)) W.heap.size
    rw [← hW] at h1
    unfold Hid
    simpa using h1
  have HZ := Lib.hid (show W.heap.size = w.heap.size + 3 by rw [hW]; simp)
  try rw [← hW]
  clear hW
  refine (checks_any a b A B C D c1 c2 c3 c4 W (HA.out.ext HX.out) (HB.out.ext HX.out) (HC.out.ext HX.out) (HD.out.ext HX.out) wa wb).mono ?_; rintro e w1 ⟨rfl, hx1⟩
  have F1 := six_ext hx1 F0
  have HX1 := Lib.hid (HX.out.trans hx1)
  have HV1 := Lib.hid (HV.out.ext hx1)
  have HZ1 := Lib.hid (show w.heap.size + 3 ≤ w1.heap.size by have := hx1.size; have := HZ.out; omega)
  clear hx1 F0 HX HV
  obtain ⟨u0, u1, u2, v0, v1, v2⟩ := id F1
  go_wp2_with fail
  have hzz := HZ1.out
  go_region_held3 (fun w' => w'.cell? ⟨w.heap.size, 0, none⟩ = some (.bool a.neg) ∧ w'.cell? ⟨w.heap.size, 1, none⟩ = some (.slice A a.num.length c1) ∧ w'.cell? ⟨w.heap.size, 2, none⟩ = some (.slice B a.den.length c2) ∧ w'.cell? ⟨w.heap.size + 1, 0, none⟩ = some (.bool b.neg) ∧ w'.cell? ⟨w.heap.size + 1, 1, none⟩ = some (.slice C b.num.length c3) ∧ w'.cell? ⟨w.heap.size + 1, 2, none⟩ = some (.slice D b.den.length c4)) (repeat (first | (with_reducible exact F1) | (with_reducible exact F2) | (with_reducible exact F3) | (with_reducible exact F4) | (with_reducible refine six_drew ?_) | (with_reducible refine six_set ?_ (by simp only; omega) (by simp only; omega))))
    (first
      | (go_at_call 80; ((with_reducible refine (HT1.out _ HX1.out.drew).mono ?_)); rintro e w2 ⟨A5, c5, rfl, p1, hx2⟩; have P1 := Lib.hid p1; have HX2 := Lib.hid hx2; have F2 := six_ext hx2 (six_drew F1); clear p1 hx2)
      | (go_at_call 80; ((with_reducible refine (HT2.out _ (HX1.out.drew.trans HX2.out)).mono ?_)); rintro e w3 ⟨A6, c6, rfl, p1, hx3⟩; have P2 := Lib.hid p1; have HX3 := Lib.hid hx3; have F3 := six_ext hx3 F2; clear p1 hx3)
      | (go_at_call 79; ((with_reducible refine (HL.out _ _ A5 A6 c5 c6 (P1.out.rd.ext HX3.out) P2.out.rd rfl).mono ?_)); rintro e w9 ⟨A9, c9, B9, d9, rfl, o1, o2, ap, hx⟩; have HX13 := (HX2.out.trans HX3.out).size; (try simp only [World.size_drew] at HX13); have O1 := Lib.hid (o1.lower (show w.heap.size + 3 ≤ w3.heap.size by omega)); have O2 := Lib.hid (o2.lower (show w.heap.size + 3 ≤ w3.heap.size by omega)); have AP := Lib.hid ap; have HX9 := Lib.hid (((HX1.out.drew.trans HX2.out).trans HX3.out).trans hx); have F4 := six_ext hx F3; have HV9 := HV1.out.ext ((((Ext.refl _).drew.trans HX2.out).trans HX3.out).trans hx); have r0 := HV9.c0; have s0 := HV9.fr 0; have r1 := HV9.c1; have s1 := HV9.fr 1; have r2 := HV9.c2; have s2 := HV9.fr 2; clear o1 o2 ap hx HV9 HX13))
  all_goals
    go_wp2_with fail
    exact bodyPost_ret (v := .tuple #[.agg #[.bool t.1.neg, .slice A9 t.1.num.length c9, .slice B9 t.1.den.length d9], .int .i64 t.2]) (by simp [results, Tryz.results21, go_sem, r0, r1, r2]) rfl (RatP.mk HT.out rfl (by refine Own.lower ?_ (show w.heap.size ≤ w.heap.size + 3 by omega); repeat (first | (with_reducible exact O1.out) | refine Own.setBelow ?_ (by simp; try omega) _)) (by refine Own.lower ?_ (show w.heap.size ≤ w.heap.size + 3 by omega); repeat (first | (with_reducible exact O2.out) | refine Own.setBelow ?_ (by simp; try omega) _)) AP.out (by repeat (first | (with_reducible exact HX9.out) | refine Ext.setCell ?_ (by simp; try omega) _)))
set_option maxHeartbeats 1000000 in
theorem words_any (A B : Option Addr) (xs ys : List Int) (c d l : Nat) (w : World) (ha : Rd w A c xs) (hb : Rd w B d ys) (hl : xs.length = l) (n : Nat) (hn : ys.length = n) (b : Bool) (hbb : decide (xs = ys) = b) :
    Calls Tryz.prog 83 #[.slice A l c, .slice B n d] w fun e w' => e = .returned (.bool b) ∧ Quiet w w' := by
  have HL := Lib.hid hl
  have HN := Lib.hid hn
  have HA := Lib.hid ha
  have HB := Lib.hid hb
  have HBB := Lib.hid hbb
  have hll := ha.lim
  rw [hl] at hll
  clear ha hb hl hn hbb
  by_cases hne : l = n
  · subst hne
    have hbn : ((l : Int) != (l : Int)) = false := by simp
    go_enter Tryz.func83, Tryz.ntmps83
    go_wp2_with fail
    go_loopw [13] (fun i wr => ∃ k : Nat, k ≤ l ∧ i = .int .i64 k ∧ Hid (∀ j, j < k → nth xs j = nth ys j) ∧ Hid (Quiet w wr)) (fun i _ => l - (intOf i).toNat)
    case atStart => exact ⟨0, by omega, rfl, fun j hj => by omega, Quiet.refl w⟩
    case round =>
      obtain ⟨k, hk, rfl, HE, HQ⟩ := hrel
      by_cases hkl : k < l
      · obtain ⟨a, rfl, hca⟩ := (HA.out.ext HQ.out.ext).at_ k (by rw [HL.out]; exact hkl)
        obtain ⟨b', rfl, hcb⟩ := (HB.out.ext HQ.out.ext).at_ k (by rw [HN.out]; exact hkl)
        by_cases he : nth xs k = nth ys k
        · have HE2 := Lib.hid (show ∀ j, j < k + 1 → nth xs j = nth ys j from fun j hj => by
            by_cases e : j = k
            · rw [e]; exact he
            · exact HE.out j (by omega))
          have hne : (nth xs k != nth ys k) = false := bne_eq_false_iff_eq.2 he
          clear he
          go_wp2_with fail
          go_quiet (fail)
          go_wp2_with fail
          go_roundw
          case rel => exact ⟨k + 1, by omega, by go_num, HE2.out, HQ.out.drewN _⟩
          case measure => simp [intOf]; omega
        · have hne : (nth xs k != nth ys k) = true := bne_iff_ne.2 he
          have HF := Lib.hid (show b = false by rw [← HBB.out]; exact decide_eq_false (fun e => he (by rw [e])))
          clear he
          go_wp2_with fail
          go_quiet (fail)
          go_wp2_with fail
          go_ret
          exact ⟨by rw [HF.out]; rfl, HQ.out.drewN _⟩
      · have hkk : k = l := by omega
        have HF := Lib.hid (show b = true by rw [← HBB.out]; exact decide_eq_true (nth_ext (HL.out.trans HN.out.symm) (fun j hj => HE.out j (by have := HL.out; omega))))
        go_wp2_with fail
        go_ret
        exact ⟨by rw [HF.out]; rfl, HQ.out⟩
  · have hbn : ((l : Int) != (n : Int)) = true := bne_iff_ne.2 (by omega)
    have HF := Lib.hid (show b = false by rw [← HBB.out]; exact decide_eq_false (fun e => hne (by rw [← HL.out, ← HN.out, e])))
    go_enter Tryz.func83, Tryz.ntmps83
    go_wp2_with fail
    go_ret
    exact ⟨by rw [HF.out]; rfl, Quiet.refl w⟩
set_option maxHeartbeats 1000000 in
theorem same_fr_raw (s t : Bool) (A B C D : Option Addr) (xs ys us vs : List Int) (a b c d : Nat) (w : World) (ha : Rd w A a xs) (hb : Rd w B b ys) (hc : Rd w C c us) (hd : Rd w D d vs) (r : Bool) (hr : decide ((⟨s, xs, ys⟩ : Fr) = ⟨t, us, vs⟩) = r) :
    Calls Tryz.prog 22 #[.agg #[.bool s, .slice A xs.length a, .slice B ys.length b], .agg #[.bool t, .slice C us.length c, .slice D vs.length d]] w fun e w' => e = .returned (.bool r) ∧ Ext w w' := by
  have HA := Lib.hid ha
  have HB := Lib.hid hb
  have HC := Lib.hid hc
  have HD := Lib.hid hd
  have HR := Lib.hid hr
  clear ha hb hc hd hr
  have HX := Lib.hid (((Ext.refl w).alloc (.cells #[.bool s, .slice A xs.length a, .slice B ys.length b] 24)).alloc (.cells #[.bool t, .slice C us.length c, .slice D vs.length d] 24))
  by_cases h1 : s = t
  · subst h1
    by_cases h2 : xs = us
    · have H2 := Lib.hid h2
      have HS := Lib.hid (words_any A C xs us a c xs.length _ (HA.out.ext HX.out) (HC.out.ext HX.out) rfl us.length rfl true (decide_eq_true h2))
      have HS2 := Lib.hid (fun wx (hx : Ext w wx) => words_any B D ys vs b d ys.length wx (HB.out.ext hx) (HD.out.ext hx) rfl vs.length rfl r (by rw [← HR.out, h2]; simp))
      clear h2
      go_enter Tryz.func22, Tryz.ntmps22
      go_wp2_with fail
      refine HS.out.mono ?_; rintro e w1 ⟨rfl, hq⟩
      obtain ⟨m1, rfl⟩ := hq
      go_wp2_with fail
      refine (HS2.out _ (HX.out.drewN m1)).mono ?_; rintro e w2 ⟨rfl, hq⟩
      obtain ⟨m2, rfl⟩ := hq
      go_wp2_with fail
      go_ret
      exact ⟨rfl, HX.out.drewN _⟩
    · have HS := Lib.hid (words_any A C xs us a c xs.length _ (HA.out.ext HX.out) (HC.out.ext HX.out) rfl us.length rfl false (decide_eq_false h2))
      have HF := Lib.hid (show r = false by rw [← HR.out]; exact decide_eq_false (fun e => h2 (Fr.mk.inj e).2.1))
      clear h2
      go_enter Tryz.func22, Tryz.ntmps22
      go_wp2_with fail
      refine HS.out.mono ?_; rintro e w1 ⟨rfl, hq⟩
      obtain ⟨m1, rfl⟩ := hq
      go_wp2_with fail
      go_ret
      exact ⟨by rw [HF.out]; rfl, HX.out.drewN m1⟩
  · have HF := Lib.hid (show r = false by rw [← HR.out]; exact decide_eq_false (fun e => h1 (Fr.mk.inj e).1))
    have hb : (s == t) = false := beq_eq_false_iff_ne.2 h1
    go_enter Tryz.func22, Tryz.ntmps22
    go_wp2_with fail
    go_ret
    exact ⟨by rw [HF.out]; rfl, HX.out⟩
theorem same_fr (a b : Fr) (A B C D : Option Addr) (c1 c2 c3 c4 : Nat) (w : World) (ha : Rd w A c1 a.num) (hb : Rd w B c2 a.den) (hc : Rd w C c3 b.num) (hd : Rd w D c4 b.den) (r : Bool) (hr : decide (a = b) = r) :
    Calls Tryz.prog 22 #[.agg #[.bool a.neg, .slice A a.num.length c1, .slice B a.den.length c2], .agg #[.bool b.neg, .slice C b.num.length c3, .slice D b.den.length c4]] w fun e w' => e = .returned (.bool r) ∧ Ext w w' :=
  same_fr_raw a.neg b.neg A B C D a.num a.den b.num b.den c1 c2 c3 c4 w ha hb hc hd r hr
theorem rtrim_any (A : Option Addr) (xs : List Int) (c : Nat) (w : World) (h : Rd w A c xs) (ht : TrimW xs) :
    Calls Tryz.prog 136 #[.slice A xs.length c] w fun e w' => ∃ A' c', e = .returned (.slice A' xs.length c') ∧ Own w' w.heap.size A' c' xs ∧ Ext w w' := by
  have H := Lib.hid h
  have HT := Lib.hid ht.2
  have hl := ht.1
  have HC := Lib.hid (cut_any A xs c w h)
  rw [HT.out] at HC
  clear h ht
  go_enter Tryz.func136, Tryz.ntmps136
  go_wp2_with fail
  refine HC.out.mono ?_; rintro e w1 ⟨rfl, rfl⟩
  go_wp2_with fail
  refine (clone_any A xs c _ H.out (by omega)).mono ?_; rintro e w1 ⟨A1, c1, rfl, h1, hx1⟩
  have H1 := Lib.hid h1
  have HX1 := Lib.hid hx1
  clear h1 hx1
  go_wp2_with fail
  go_ret
  exact ⟨A1, c1, rfl, H1.out, HX1.out⟩
set_option maxRecDepth 4000 in
set_option maxHeartbeats 2000000 in
theorem copied_any (a : Fr) (A B : Option Addr) (c1 c2 : Nat) (w : World) (ha : Rd w A c1 a.num) (hb : Rd w B c2 a.den) (wa : TrimW a.num) (wb : TrimW a.den) :
    Calls Tryz.prog 82 #[.agg #[.bool a.neg, .slice A a.num.length c1, .slice B a.den.length c2]] w (NewP w a.neg a.num a.den) := by
  have HA := Lib.hid ha
  have HB := Lib.hid hb
  clear ha hb
  have HT1 := Lib.hid (fun wx (hx : Ext w wx) => rtrim_any A a.num c1 wx (HA.out.ext hx) wa)
  have HT2 := Lib.hid (fun wx (hx : Ext w wx) => rtrim_any B a.den c2 wx (HB.out.ext hx) wb)
  go_enter Tryz.func82, Tryz.ntmps82
  go_wp2_with fail
  obtain ⟨W, hW⟩ : ∃ W, W = (w.alloc (.cells #[.bool a.neg, .slice A a.num.length c1, .slice B a.den.length c2] 24)).alloc (.cells #[.bool false, .slice none 0 0, .slice none 0 0] 24) := ⟨_, rfl⟩
  have F0 : Thr W w.heap.size (.bool a.neg) (.slice A a.num.length c1) (.slice B a.den.length c2) := by rw [hW]; refine ⟨?_, ?_, ?_⟩ <;> simp [go_sem]
  have HX : Hid (Ext w W) := by rw [hW]; exact ((Ext.refl w).alloc _).alloc _
  have HV : Hid (VarF (w.heap.size + 1) W.heap.size Fr.zero none 0 none 0 W) := by
    have h1 := VarF.zero (w.alloc (.cells #[.bool a.neg, .slice A a.num.length c1, .slice B a.den.length c2] 24)) W.heap.size
    rw [← hW] at h1
    unfold Hid
    simpa using h1
  have HZ := Lib.hid (show W.heap.size = w.heap.size + 2 by rw [hW]; simp)
  try rw [← hW]
  clear hW
  have hzz := HZ.out
  go_region_held3 (fun w' => w'.cell? ⟨w.heap.size, 0, none⟩ = some (.bool a.neg) ∧ w'.cell? ⟨w.heap.size, 1, none⟩ = some (.slice A a.num.length c1) ∧ w'.cell? ⟨w.heap.size, 2, none⟩ = some (.slice B a.den.length c2)) (repeat (first | (with_reducible exact F0) | (with_reducible exact F1) | (with_reducible exact F2) | (with_reducible refine thr_drew ?_) | (with_reducible refine thr_set ?_ (by simp only; omega))))
    (first
      | (go_at_call 136; ((with_reducible refine (HT1.out _ HX.out.drew).mono ?_)); rintro e w2 ⟨A5, c5, rfl, p1, hx2⟩; have P1 := Lib.hid p1; have HX2 := Lib.hid hx2; have F1 := thr_ext hx2 (thr_drew F0); clear p1 hx2)
      | (go_at_call 136; ((with_reducible refine (HT2.out _ (HX.out.drew.trans HX2.out)).mono ?_)); rintro e w3 ⟨A6, c6, rfl, p1, hx3⟩; have P2 := Lib.hid p1; have HX3 := Lib.hid hx3; have F2 := thr_ext hx3 F1; have HV9 := HV.out.ext (((Ext.refl _).drew.trans HX2.out).trans hx3); have r0 := HV9.c0; have s0 := HV9.fr 0; have r1 := HV9.c1; have s1 := HV9.fr 1; have r2 := HV9.c2; have s2 := HV9.fr 2; clear p1 hx3 HV9))
  all_goals
    have hy := HX2.out.size
    simp only [World.size_drew] at hy
    have HAp := Lib.hid (P1.out.apart P2.out (Nat.le_refl _))
    have O1 := Lib.hid ((P1.out.ext HX3.out).lower (show w.heap.size + 2 ≤ W.drew.heap.size by simp only [World.size_drew]; omega))
    have O2 := Lib.hid (P2.out.lower (show w.heap.size + 2 ≤ w2.heap.size by omega))
    have HX9 := Lib.hid ((HX.out.drew.trans HX2.out).trans HX3.out)
    go_wp2_with fail
    exact bodyPost_ret (v := .agg #[.bool a.neg, .slice A5 a.num.length c5, .slice A6 a.den.length c6]) (by simp [results, Tryz.results82, go_sem, r0, r1, r2]) rfl ⟨A5, c5, A6, c6, rfl, (by refine Own.lower ?_ (show w.heap.size ≤ w.heap.size + 2 by omega); repeat (first | (with_reducible exact O1.out) | refine Own.setBelow ?_ (by simp; try omega) _)), (by refine Own.lower ?_ (show w.heap.size ≤ w.heap.size + 2 by omega); repeat (first | (with_reducible exact O2.out) | refine Own.setBelow ?_ (by simp; try omega) _)), HAp.out, (by repeat (first | (with_reducible exact HX9.out) | refine Ext.setCell ?_ (by simp; try omega) _))⟩
set_option maxRecDepth 4000 in
set_option maxHeartbeats 2000000 in
theorem neg_fr (a : Fr) (A B : Option Addr) (c1 c2 : Nat) (w : World) (ha : Rd w A c1 a.num) (hb : Rd w B c2 a.den) (wa : a.Wf) :
    Calls Tryz.prog 19 #[.agg #[.bool a.neg, .slice A a.num.length c1, .slice B a.den.length c2]] w (RatP w (fneg a)) := by
  have HA := Lib.hid ha
  have HB := Lib.hid hb
  clear ha hb
  by_cases hk : fchk a ≠ 0
  · have HT := Lib.hid (show fneg a = (Fr.zero, fchk a) from if_pos hk)
    have hb1 : (fchk a != 0) = true := bne_iff_ne.2 hk
    clear hk
    go_enter Tryz.func19, Tryz.ntmps19
    go_wp2_with fail
    obtain ⟨W, hW⟩ : ∃ W, W = (w.alloc (.cells #[.bool a.neg, .slice A a.num.length c1, .slice B a.den.length c2] 24)).alloc (.cells #[.bool false, .slice none 0 0, .slice none 0 0] 24) := ⟨_, rfl⟩
    have F0 : Thr W w.heap.size (.bool a.neg) (.slice A a.num.length c1) (.slice B a.den.length c2) := by rw [hW]; refine ⟨?_, ?_, ?_⟩ <;> simp [go_sem]
    have HX : Hid (Ext w W) := by rw [hW]; exact ((Ext.refl w).alloc _).alloc _
    have HV : Hid (VarF (w.heap.size + 1) W.heap.size Fr.zero none 0 none 0 W) := by
      have h1 := VarF.zero (w.alloc (.cells #[.bool a.neg, .slice A a.num.length c1, .slice B a.den.length c2] 24)) W.heap.size
      rw [← hW] at h1
      unfold Hid
      simpa using h1
    have HZ := Lib.hid (show W.heap.size = w.heap.size + 2 by rw [hW]; simp)
    try rw [← hW]
    clear hW
    refine (rcheck_fr a A B c1 c2 W (HA.out.ext HX.out) (HB.out.ext HX.out) wa).mono ?_; rintro e w1 ⟨rfl, hx1⟩
    have F1 := thr_ext hx1 F0
    have HX1 := Lib.hid (HX.out.trans hx1)
    have HV1 := Lib.hid (HV.out.ext hx1)
    have HZ1 := Lib.hid (show w.heap.size + 2 ≤ w1.heap.size by have := hx1.size; have := HZ.out; omega)
    clear hx1 F0 HX HV
    have r0 := HV1.out.c0
    have s0 := HV1.out.fr 0
    have r1 := HV1.out.c1
    have s1 := HV1.out.fr 1
    have r2 := HV1.out.c2
    have s2 := HV1.out.fr 2
    clear F1
    go_wp2_with fail
    exact bodyPost_ret (v := .tuple #[.agg #[.bool false, .slice none 0 0, .slice none 0 0], .int .i64 (fchk a)]) (by simp [results, Tryz.results19, go_sem, r0, r1, r2]) rfl (RatP.nil HT.out rfl (by repeat (first | (with_reducible exact HX1.out) | refine Ext.setCell ?_ (by simp; try omega) _)))
  have h0 : fchk a = 0 := by simpa using hk
  have hb1 : (fchk a != 0) = false := bne_eq_false_iff_eq.2 h0
  have HT := Lib.hid (fneg_ok wa h0)
  obtain ⟨t1, t2⟩ := trimW_ok wa h0
  have HCP := Lib.hid (fun wx (hx : Ext w wx) => copied_any a A B c1 c2 wx (HA.out.ext hx) (HB.out.ext hx) t1 t2)
  clear hk h0 t1 t2
  go_enter Tryz.func19, Tryz.ntmps19
  go_wp2_with fail
  obtain ⟨W, hW⟩ : ∃ W, W = (w.alloc (.cells #[.bool a.neg, .slice A a.num.length c1, .slice B a.den.length c2] 24)).alloc (.cells #[.bool false, .slice none 0 0, .slice none 0 0] 24) := ⟨_, rfl⟩
  have F0 : Thr W w.heap.size (.bool a.neg) (.slice A a.num.length c1) (.slice B a.den.length c2) := by rw [hW]; refine ⟨?_, ?_, ?_⟩ <;> simp [go_sem]
  have HX : Hid (Ext w W) := by rw [hW]; exact ((Ext.refl w).alloc _).alloc _
  have HV : Hid (VarF (w.heap.size + 1) W.heap.size Fr.zero none 0 none 0 W) := by
    have h1 := VarF.zero (w.alloc (.cells #[.bool a.neg, .slice A a.num.length c1, .slice B a.den.length c2] 24)) W.heap.size
    rw [← hW] at h1
    unfold Hid
    simpa using h1
  have HZ := Lib.hid (show W.heap.size = w.heap.size + 2 by rw [hW]; simp)
  try rw [← hW]
  clear hW
  refine (rcheck_fr a A B c1 c2 W (HA.out.ext HX.out) (HB.out.ext HX.out) wa).mono ?_; rintro e w1 ⟨rfl, hx1⟩
  have F1 := thr_ext hx1 F0
  have HX1 := Lib.hid (HX.out.trans hx1)
  have HV1 := Lib.hid (HV.out.ext hx1)
  have HZ1 := Lib.hid (show w.heap.size + 2 ≤ w1.heap.size by have := hx1.size; have := HZ.out; omega)
  clear hx1 F0 HX HV
  obtain ⟨u0, u1, u2⟩ := F1
  go_wp2_with fail
  refine (HCP.out _ HX1.out).mono ?_; rintro e w2 ⟨A9, c9, B9, d9, rfl, o1, o2, ap, hx⟩
  have hzz := HZ1.out
  have O1 := Lib.hid (o1.lower (show w.heap.size + 2 ≤ w1.heap.size by omega))
  have O2 := Lib.hid (o2.lower (show w.heap.size + 2 ≤ w1.heap.size by omega))
  have AP := Lib.hid ap
  have HX2 := Lib.hid (HX1.out.trans hx)
  have HV2 := Lib.hid (HV1.out.ext hx)
  clear o1 o2 ap hx u0 u1 u2 HV1
  go_wp2_with fail
  refine (turned_any a A9 B9 c9 d9 _).mono ?_; rintro e w3 ⟨rfl, hx⟩
  have O1 := Lib.hid (O1.out.ext hx)
  have O2 := Lib.hid (O2.out.ext hx)
  have HX9 := Lib.hid (HX2.out.trans hx)
  have HV9 := Lib.hid (HV2.out.ext hx)
  have r0 := HV9.out.c0
  have s0 := HV9.out.fr 0
  have r1 := HV9.out.c1
  have s1 := HV9.out.fr 1
  have r2 := HV9.out.c2
  have s2 := HV9.out.fr 2
  clear hx
  go_wp2_with fail
  exact bodyPost_ret (v := .tuple #[.agg #[.bool (fturn a).neg, .slice A9 a.num.length c9, .slice B9 a.den.length d9], .int .i64 0]) (by simp [results, Tryz.results19, go_sem, r0, r1, r2]) rfl (RatP.mk (s := (fturn a).neg) (xs := a.num) (ys := a.den) HT.out rfl (by refine Own.lower ?_ (show w.heap.size ≤ w.heap.size + 2 by omega); repeat (first | (with_reducible exact O1.out) | refine Own.setBelow ?_ (by simp; try omega) _)) (by refine Own.lower ?_ (show w.heap.size ≤ w.heap.size + 2 by omega); repeat (first | (with_reducible exact O2.out) | refine Own.setBelow ?_ (by simp; try omega) _)) AP.out (by repeat (first | (with_reducible exact HX9.out) | refine Ext.setCell ?_ (by simp; try omega) _)))
set_option maxHeartbeats 2000000 in
theorem sign_fr_raw (s : Bool) (xs ys : List Int) (A B : Option Addr) (c1 c2 : Nat) (w : World) (ha : Rd w A c1 xs) (hb : Rd w B c2 ys) (wa : (⟨s, xs, ys⟩ : Fr).Wf) :
    Calls Tryz.prog 20 #[.agg #[.bool s, .slice A xs.length c1, .slice B ys.length c2]] w fun e w' => e = .returned (.int .i64 (fsign ⟨s, xs, ys⟩)) ∧ Ext w w' := by
  obtain ⟨k, hk⟩ : ∃ k, k = fchk ⟨s, xs, ys⟩ := ⟨_, rfl⟩
  have HCK := Lib.hid (fun wx (h1 : Rd wx A c1 xs) (h2 : Rd wx B c2 ys) => rcheck_fr ⟨s, xs, ys⟩ A B c1 c2 wx h1 h2 wa)
  rw [← hk] at HCK
  simp only at HCK
  have HA := Lib.hid ha
  have HB := Lib.hid hb
  clear ha hb
  have HX := Lib.hid ((Ext.refl w).alloc (.cells #[.bool s, .slice A xs.length c1, .slice B ys.length c2] 24))
  by_cases h1 : k ≠ 0
  · have HE := Lib.hid (show fsign ⟨s, xs, ys⟩ = 0 by unfold fsign; rw [if_pos (by rw [← hk]; exact h1)])
    have hb1 : (k != 0) = true := bne_iff_ne.2 h1
    rw [HE.out]
    clear h1 hk wa
    go_enter Tryz.func20, Tryz.ntmps20
    go_wp2_with fail
    refine (HCK.out _ (HA.out.ext HX.out) (HB.out.ext HX.out)).mono ?_; rintro e w1 ⟨rfl, hx1⟩
    obtain ⟨hc, hf⟩ := bcell hx1
    have HX1 := Lib.hid (HX.out.trans hx1)
    clear hx1
    go_wp2_with fail
    go_ret
    exact ⟨rfl, HX1.out⟩
  have hb1 : (k != 0) = false := bne_eq_false_iff_eq.2 (by simpa using h1)
  have h0 : k = 0 := by simpa using h1
  by_cases h2 : xs.length = 0
  · have HE := Lib.hid (show fsign ⟨s, xs, ys⟩ = 0 by unfold fsign; rw [if_neg (by rw [← hk]; exact fun h => h h0), if_pos h2])
    have hb2 : ((xs.length : Int) == 0) = true := beq_iff_eq.2 (by omega)
    rw [HE.out]
    clear h1 hk wa h0 h2
    go_enter Tryz.func20, Tryz.ntmps20
    go_wp2_with fail
    refine (HCK.out _ (HA.out.ext HX.out) (HB.out.ext HX.out)).mono ?_; rintro e w1 ⟨rfl, hx1⟩
    obtain ⟨hc, hf⟩ := bcell hx1
    have HX1 := Lib.hid (HX.out.trans hx1)
    clear hx1
    go_wp2_with fail
    go_ret
    exact ⟨rfl, HX1.out⟩
  have hb2 : ((xs.length : Int) == 0) = false := beq_eq_false_iff_ne.2 (by omega)
  have HE := Lib.hid (show fsign ⟨s, xs, ys⟩ = if s = true then -1 else 1 by unfold fsign; rw [if_neg (by rw [← hk]; exact fun h => h h0), if_neg h2])
  rw [HE.out]
  clear h1 hk wa h0 h2
  cases s
  all_goals
    go_enter Tryz.func20, Tryz.ntmps20
    go_wp2_with fail
    refine (HCK.out _ (HA.out.ext HX.out) (HB.out.ext HX.out)).mono ?_; rintro e w1 ⟨rfl, hx1⟩
    obtain ⟨hc, hf⟩ := bcell hx1
    have HX1 := Lib.hid (HX.out.trans hx1)
    clear hx1
    go_wp2_with fail
    go_ret
    exact ⟨rfl, HX1.out⟩
theorem sign_fr (a : Fr) (A B : Option Addr) (c1 c2 : Nat) (w : World) (ha : Rd w A c1 a.num) (hb : Rd w B c2 a.den) (wa : a.Wf) :
    Calls Tryz.prog 20 #[.agg #[.bool a.neg, .slice A a.num.length c1, .slice B a.den.length c2]] w fun e w' => e = .returned (.int .i64 (fsign a)) ∧ Ext w w' :=
  sign_fr_raw a.neg a.num a.den A B c1 c2 w ha hb wa
set_option maxHeartbeats 1000000 in
theorem size_any (x : Int) (w : World) (h0 : -9223372036854775808 ≤ x) (h1 : x ≤ 9223372036854775807) :
    Calls Tryz.prog 129 #[.int .i64 x] w fun e w' => ∃ A' c', e = .returned (.slice A' (wd x.natAbs).length c') ∧ Own w' w.heap.size A' c' (wd x.natAbs) ∧ Ext w w' := by
  obtain ⟨m, hm⟩ : ∃ m, m = x.natAbs := ⟨_, rfl⟩
  rw [← hm]
  have H := Lib.hid (of_any m w (by omega))
  by_cases hx : x < 0
  · have HE := Lib.hid (show IntKind.u64.wrap (-IntKind.u64.wrap x) = (m : Int) by rw [IntKind.wrap_u64, IntKind.wrap_u64]; omega)
    clear hm
    go_enter Tryz.func129, Tryz.ntmps129
    go_wp2_with fail
    rw [HE.out]
    refine H.out.mono ?_; rintro e w1 ⟨A1, c1, rfl, h1, hx1⟩
    have H1 := Lib.hid h1
    have HX1 := Lib.hid hx1
    clear h1 hx1
    go_wp2_with fail
    go_ret
    exact ⟨_, _, rfl, H1.out, HX1.out⟩
  · obtain rfl : x = (m : Int) := by omega
    clear hm
    go_enter Tryz.func129, Tryz.ntmps129
    go_wp2_with fail
    refine H.out.mono ?_; rintro e w1 ⟨A1, c1, rfl, h1, hx1⟩
    have H1 := Lib.hid h1
    have HX1 := Lib.hid hx1
    clear h1 hx1
    go_wp2_with fail
    go_ret
    exact ⟨_, _, rfl, H1.out, HX1.out⟩
def fsmall (n d : Int) : Fr × Int := if d = 0 then (Fr.zero, 7) else tell (mkRat (sg (decide (n < 0) != decide (d < 0)) n.natAbs) d.natAbs)
theorem wd_len_64 (x : Int) (h0 : -9223372036854775808 ≤ x) (h1 : x ≤ 9223372036854775807) : (wd x.natAbs).length ≤ 2 := wd_two' _ (by omega)
set_option maxHeartbeats 1000000 in
theorem small_frac (n d : Int) (w : World) (h0 : -9223372036854775808 ≤ n) (h1 : n ≤ 9223372036854775807) (k0 : -9223372036854775808 ≤ d) (k1 : d ≤ 9223372036854775807) :
    Calls Tryz.prog 69 #[.int .i64 n, .int .i64 d] w (RatP w (fsmall n d)) := by
  by_cases hd : d = 0
  · have HT := Lib.hid (show fsmall n d = (Fr.zero, 7) from if_pos hd)
    subst hd
    go_enter Tryz.func69, Tryz.ntmps69
    go_wp2_with fail
    exact bodyPost_ret (v := .tuple #[.agg #[.bool false, .slice none 0 0, .slice none 0 0], .int .i64 7]) (by simp [results, Tryz.results69, go_sem]) rfl (RatP.nil HT.out rfl (by repeat (first | exact Ext.refl w | refine Ext.setCell ?_ (Nat.le_refl _) _ | refine Ext.alloc ?_ _)))
  · have hdb : (d == 0) = false := beq_eq_false_iff_ne.2 hd
    have Hn := Lib.hid (wd_len_64 n h0 h1)
    have Hd := Lib.hid (wd_len_64 d k0 k1)
    have Hz := Lib.hid (show d.natAbs ≠ 0 by omega)
    obtain ⟨t, ht⟩ : ∃ t, t = tell (mkRat (sg (decide (n < 0) != decide (d < 0)) n.natAbs) d.natAbs) := ⟨_, rfl⟩
    have HT := Lib.hid (show fsmall n d = t by rw [ht]; exact if_neg hd)
    have HL := fun (wx : World) (b : Bool) (A B : Option Addr) (c e : Nat) (ha : Rd wx A c (wd n.natAbs)) (hb : Rd wx B e (wd d.natAbs)) (hbb : b = (decide (n < 0) != decide (d < 0))) => Lib.hid (show Calls Tryz.prog 79 #[.bool b, .slice A (wd n.natAbs).length c, .slice B (wd d.natAbs).length e] wx (RatP wx t) by
      subst hbb; rw [ht]; exact lowest_any _ A B _ _ c e wx ha hb Hz.out (by have := Hn.out; omega) (by have := Hd.out; omega))
    have HLL := Lib.hid HL
    clear HL ht hd
    go_enter Tryz.func69, Tryz.ntmps69
    go_wp2_with fail
    refine (size_any n _ h0 h1).mono ?_; rintro e w1 ⟨A1, c1, rfl, h1', hx1⟩
    have H1 := Lib.hid h1'
    have HX1 := Lib.hid hx1
    clear h1' hx1
    go_wp2_with fail
    refine (size_any d _ k0 k1).mono ?_; rintro e w2 ⟨A2, c2, rfl, h2, hx2⟩
    have H2 := Lib.hid h2
    have H1 := Lib.hid (H1.out.ext hx2)
    have HX2 := Lib.hid (HX1.out.trans hx2)
    clear h2 hx2
    go_wp2_with fail
    refine (HLL.out _ _ _ _ _ _ H1.out.rd H2.out.rd rfl).out.mono ?_; rintro e w3 ⟨A3, c3, B3, d3, rfl, h3, h4, h5, hx3⟩
    have H3 := Lib.hid (h3.lower (show w.heap.size + 1 ≤ w2.heap.size by have := HX2.out.size; simp at this; omega))
    have H4 := Lib.hid (h4.lower (show w.heap.size + 1 ≤ w2.heap.size by have := HX2.out.size; simp at this; omega))
    have HAp := Lib.hid h5
    have HX3 := Lib.hid (HX2.out.trans hx3)
    have HXw := Lib.hid (((Ext.refl w).alloc _).trans HX3.out)
    have hz3 : w.heap.size < w3.heap.size := by have := HX3.out.size; simp at this; omega
    clear h3 h4 h5 hx3
    obtain ⟨hc, hf⟩ := bcell HX3.out
    go_wp2_with fail
    exact bodyPost_ret (v := .tuple #[.agg #[.bool t.1.neg, .slice A3 t.1.num.length c3, .slice B3 t.1.den.length d3], .int .i64 t.2]) (by simp [results, Tryz.results69, go_sem, hc]) rfl (RatP.mk HT.out rfl (by refine Own.lower ?_ (Nat.le_succ _); repeat (first | exact H3.out | refine Own.setBelow ?_ (Nat.lt_succ_self _) _)) (by refine Own.lower ?_ (Nat.le_succ _); repeat (first | exact H4.out | refine Own.setBelow ?_ (Nat.lt_succ_self _) _)) HAp.out (by repeat (first | exact HXw.out | refine Ext.setCell ?_ (Nat.le_refl _) _)))
end Go.Proofs.YtjoonfegjobgbaaGreatDoor
