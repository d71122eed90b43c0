/- Texts of this claim, joined: G19 G20 G9s Y3 U11. -/
import Derived.Test.YtifonmdcicegdaaGreatQm
/- The reference of ratio: Quo. -/
namespace Go.Proofs.YtifonmdcicegdaaGreat
open Go Go.RowKit

set_option maxRecDepth 4000 in
set_option maxHeartbeats 2000000 in
theorem gquo_fr (a b : Fr) (A B C D : Option Addr) (c1 c2 c3 c4 : Nat) (w : World) (ha : Rd w A c1 a.num) (hb : Rd w B c2 a.den) (hc : Rd w C c3 b.num) (hd : Rd w D c4 b.den) (wa : a.Wf) (wb : b.Wf) :
    Calls Tryz.prog 22 #[.agg #[.bool a.neg, .slice A a.num.length c1, .slice B a.den.length c2], .agg #[.bool b.neg, .slice C b.num.length c3, .slice D b.den.length c4]] w (RatP w (fquo a b)) := by
  have HA := Lib.hid ha
  have HB := Lib.hid hb
  have HC := Lib.hid hc
  have HD := Lib.hid hd
  clear ha hb hc hd
  by_cases hk : fchk2 a b ≠ 0
  · have HT := Lib.hid (show fquo a b = (Fr.zero, fchk2 a b) from both_bad hk)
    have hb1 : (fchk2 a b != 0) = true := bne_iff_ne.2 hk
    clear hk
    go_enter Tryz.func22, Tryz.ntmps22
    go_wp2_with fail
    obtain ⟨W, hW⟩ : ∃ W, W = ((w.alloc (.cells #[.bool a.neg, .slice A a.num.length c1, .slice B a.den.length c2] 24)).alloc (.cells #[.bool b.neg, .slice C b.num.length c3, .slice D b.den.length c4] 24)).alloc (.cells #[.bool false, .slice none 0 0, .slice none 0 0] 24) := ⟨_, rfl⟩
    have F0 : Six W w.heap.size (.bool a.neg) (.slice A a.num.length c1) (.slice B a.den.length c2) (.bool b.neg) (.slice C b.num.length c3) (.slice D b.den.length c4) := by rw [hW]; refine ⟨?_, ?_, ?_, ?_, ?_, ?_⟩ <;> simp [go_sem]
    have HX : Hid (Ext w W) := by rw [hW]; exact (((Ext.refl w).alloc _).alloc _).alloc _
    have HV : Hid (VarF (w.heap.size + 2) W.heap.size Fr.zero none 0 none 0 W) := by
      have h1 := VarF.zero ((w.alloc (.cells #[.bool a.neg, .slice A a.num.length c1, .slice B a.den.length c2] 24)).alloc (.cells #[.bool b.neg, .slice C b.num.length c3, .slice D b.den.length c4] 24)) W.heap.size
      rw [← hW] at h1
      unfold Hid
      simpa using h1
    have HZ := Lib.hid (show W.heap.size = w.heap.size + 3 by rw [hW]; simp)
    try rw [← hW]
    clear hW
    refine (gboth_fr a b A B C D c1 c2 c3 c4 W (HA.out.ext HX.out) (HB.out.ext HX.out) (HC.out.ext HX.out) (HD.out.ext HX.out) wa wb).mono ?_; rintro e w1 ⟨rfl, hx1⟩
    have F1 := six_ext hx1 F0
    have HX1 := Lib.hid (HX.out.trans hx1)
    have HV1 := Lib.hid (HV.out.ext hx1)
    have HZ1 := Lib.hid (show w.heap.size + 3 ≤ w1.heap.size by have := hx1.size; have := HZ.out; omega)
    clear hx1 F0 HX HV
    have r0 := HV1.out.c0
    have s0 := HV1.out.fr 0
    have r1 := HV1.out.c1
    have s1 := HV1.out.fr 1
    have r2 := HV1.out.c2
    have s2 := HV1.out.fr 2
    clear F1
    go_wp2_with fail
    exact bodyPost_ret (v := .tuple #[.agg #[.bool false, .slice none 0 0, .slice none 0 0], .int .i64 (fchk2 a b)]) (by simp [results, Tryz.results22, go_sem, r0, r1, r2]) rfl (RatP.nil HT.out rfl (by repeat (first | (with_reducible exact HX1.out) | refine Ext.setCell ?_ (by simp; try omega) _)))
  have h0 : fchk2 a b = 0 := by simpa using hk
  have hb1 : (fchk2 a b != 0) = false := bne_eq_false_iff_eq.2 h0
  obtain ⟨p, q, ep, eq, lp, lq⟩ := fchk2_ok wa wb h0
  have LP := not_lng lp
  have LQ := not_lng lq
  have E1 : a.num = wd p.num.natAbs := by rw [ep]; rfl
  have E2 : a.den = wd p.den := by rw [ep]; rfl
  have E3 : b.num = wd q.num.natAbs := by rw [eq]; rfl
  have E4 : b.den = wd q.den := by rw [eq]; rfl
  have E5 : a.neg = decide (p.num < 0) := by rw [ep]; rfl
  have E6 : b.neg = decide (q.num < 0) := by rw [eq]; rfl
  by_cases hq : q = 0
  · have HT := Lib.hid (show fquo a b = (Fr.zero, 7) by unfold fquo; rw [both_good h0, if_pos (by rw [eq, dec_enc]; exact hq)])
    have hlen : ((b.num.length : Int) == 0) = true := by rw [E3, hq, show (0 : Rat).num.natAbs = 0 from rfl, wd_zero]; rfl
    clear hk h0 ep eq E1 E2 E3 E4 E5 E6 hq
    go_enter Tryz.func22, Tryz.ntmps22
    go_wp2_with fail
    obtain ⟨W, hW⟩ : ∃ W, W = ((w.alloc (.cells #[.bool a.neg, .slice A a.num.length c1, .slice B a.den.length c2] 24)).alloc (.cells #[.bool b.neg, .slice C b.num.length c3, .slice D b.den.length c4] 24)).alloc (.cells #[.bool false, .slice none 0 0, .slice none 0 0] 24) := ⟨_, rfl⟩
    have F0 : Six W w.heap.size (.bool a.neg) (.slice A a.num.length c1) (.slice B a.den.length c2) (.bool b.neg) (.slice C b.num.length c3) (.slice D b.den.length c4) := by rw [hW]; refine ⟨?_, ?_, ?_, ?_, ?_, ?_⟩ <;> simp [go_sem]
    have HX : Hid (Ext w W) := by rw [hW]; exact (((Ext.refl w).alloc _).alloc _).alloc _
    have HV : Hid (VarF (w.heap.size + 2) W.heap.size Fr.zero none 0 none 0 W) := by
      have h1 := VarF.zero ((w.alloc (.cells #[.bool a.neg, .slice A a.num.length c1, .slice B a.den.length c2] 24)).alloc (.cells #[.bool b.neg, .slice C b.num.length c3, .slice D b.den.length c4] 24)) W.heap.size
      rw [← hW] at h1
      unfold Hid
      simpa using h1
    have HZ := Lib.hid (show W.heap.size = w.heap.size + 3 by rw [hW]; simp)
    try rw [← hW]
    clear hW
    refine (gboth_fr a b A B C D c1 c2 c3 c4 W (HA.out.ext HX.out) (HB.out.ext HX.out) (HC.out.ext HX.out) (HD.out.ext HX.out) wa wb).mono ?_; rintro e w1 ⟨rfl, hx1⟩
    have F1 := six_ext hx1 F0
    have HX1 := Lib.hid (HX.out.trans hx1)
    have HV1 := Lib.hid (HV.out.ext hx1)
    have HZ1 := Lib.hid (show w.heap.size + 3 ≤ w1.heap.size by have := hx1.size; have := HZ.out; omega)
    clear hx1 F0 HX HV
    have r0 := HV1.out.c0
    have s0 := HV1.out.fr 0
    have r1 := HV1.out.c1
    have s1 := HV1.out.fr 1
    have r2 := HV1.out.c2
    have s2 := HV1.out.fr 2
    obtain ⟨u0, u1, u2, v0, v1, v2⟩ := F1
    go_wp2_with fail
    exact bodyPost_ret (v := .tuple #[.agg #[.bool false, .slice none 0 0, .slice none 0 0], .int .i64 7]) (by simp [results, Tryz.results22, go_sem, r0, r1, r2]) rfl (RatP.nil HT.out rfl (by repeat (first | (with_reducible exact HX1.out) | refine Ext.setCell ?_ (by simp; try omega) _)))
  have hqn : q.num.natAbs ≠ 0 := fun e => hq (Rat.num_eq_zero.1 (by omega))
  have hlen : ((b.num.length : Int) == 0) = false := beq_eq_false_iff_ne.2 (fun e => hqn (wd_len_zero.1 (by rw [← E3]; omega)))
  obtain ⟨t, ht⟩ : ∃ t, t = tell (p / q) := ⟨_, rfl⟩
  have HT := Lib.hid (show fquo a b = t by unfold fquo; rw [both_good h0, if_neg (by rw [eq, dec_enc]; exact hq), ht, ep, eq, dec_enc, dec_enc])
  have lX := wd_len_mul p.num.natAbs q.den
  have lY := wd_len_mul p.den q.num.natAbs
  have hY0 : p.den * q.num.natAbs ≠ 0 := Nat.mul_ne_zero p.den_nz hqn
  have HM := Lib.hid (show mkRat (sg (!(a.neg == b.neg)) (p.num.natAbs * q.den)) (p.den * q.num.natAbs) = p / q by rw [E5, E6]; exact quo_made p q hq)
  obtain ⟨X, hX⟩ : ∃ X, X = p.num.natAbs * q.den := ⟨_, rfl⟩
  obtain ⟨Y, hY⟩ : ∃ Y, Y = p.den * q.num.natAbs := ⟨_, rfl⟩
  have HT1 := Lib.hid (fun wx (hx : Ext w wx) => by
    have h1 := gtimes3_any A D p.num.natAbs q.den c1 c4 wx (E1 ▸ HA.out.ext hx) (E4 ▸ HD.out.ext hx) (by omega)
    rw [← E1, ← E4, ← hX] at h1
    exact h1)
  have HT2 := Lib.hid (fun wx (hx : Ext w wx) => by
    have h1 := gtimes3_any B C p.den q.num.natAbs c2 c3 wx (E2 ▸ HB.out.ext hx) (E3 ▸ HC.out.ext hx) (by omega)
    rw [← E2, ← E3, ← hY] at h1
    exact h1)
  rw [← hX] at lX HM
  rw [← hY] at lY hY0 HM
  have HL := Lib.hid (fun (wx : World) (v : Bool) (P Q : Option Addr) (c d : Nat) (h1 : Rd wx P c (wd X)) (h2 : Rd wx Q d (wd Y)) (hv : v = (!(a.neg == b.neg))) => show Calls Tryz.prog 143 #[.bool v, .slice P (wd X).length c, .slice Q (wd Y).length d] wx (RatP wx t) by
    subst hv
    have := gof3_any (!(a.neg == b.neg)) P Q X Y c d wx h1 h2 hY0 (by omega) (by omega)
    rw [HM.out, ← ht] at this
    exact this)
  clear hX hY ht hk h0 ep eq E1 E2 E3 E4 E5 E6 hq
  go_enter Tryz.func22, Tryz.ntmps22
  go_wp2_with fail
  obtain ⟨W, hW⟩ : ∃ W, W = ((w.alloc (.cells #[.bool a.neg, .slice A a.num.length c1, .slice B a.den.length c2] 24)).alloc (.cells #[.bool b.neg, .slice C b.num.length c3, .slice D b.den.length c4] 24)).alloc (.cells #[.bool false, .slice none 0 0, .slice none 0 0] 24) := ⟨_, rfl⟩
  have F0 : Six W w.heap.size (.bool a.neg) (.slice A a.num.length c1) (.slice B a.den.length c2) (.bool b.neg) (.slice C b.num.length c3) (.slice D b.den.length c4) := by rw [hW]; refine ⟨?_, ?_, ?_, ?_, ?_, ?_⟩ <;> simp [go_sem]
  have HX : Hid (Ext w W) := by rw [hW]; exact (((Ext.refl w).alloc _).alloc _).alloc _
  have HV : Hid (VarF (w.heap.size + 2) W.heap.size Fr.zero none 0 none 0 W) := by
    have h1 := VarF.zero ((w.alloc (.cells #[.bool a.neg, .slice A a.num.length c1, .slice B a.den.length c2] 24)).alloc (.cells #[.bool b.neg, .slice C b.num.length c3, .slice D b.den.length c4] 24)) W.heap.size
    rw [← hW] at h1
    unfold Hid
    simpa using h1
  have HZ := Lib.hid (show W.heap.size = w.heap.size + 3 by rw [hW]; simp)
  try rw [← hW]
  clear hW
  refine (gboth_fr a b A B C D c1 c2 c3 c4 W (HA.out.ext HX.out) (HB.out.ext HX.out) (HC.out.ext HX.out) (HD.out.ext HX.out) wa wb).mono ?_; rintro e w1 ⟨rfl, hx1⟩
  have F1 := six_ext hx1 F0
  have HX1 := Lib.hid (HX.out.trans hx1)
  have HV1 := Lib.hid (HV.out.ext hx1)
  have HZ1 := Lib.hid (show w.heap.size + 3 ≤ w1.heap.size by have := hx1.size; have := HZ.out; omega)
  clear hx1 F0 HX HV
  obtain ⟨u0, u1, u2, v0, v1, v2⟩ := id F1
  go_wp2_with fail
  have hzz := HZ1.out
  go_region_held3 (fun w' => w'.cell? ⟨w.heap.size, 0, none⟩ = some (.bool a.neg) ∧ w'.cell? ⟨w.heap.size, 1, none⟩ = some (.slice A a.num.length c1) ∧ w'.cell? ⟨w.heap.size, 2, none⟩ = some (.slice B a.den.length c2) ∧ w'.cell? ⟨w.heap.size + 1, 0, none⟩ = some (.bool b.neg) ∧ w'.cell? ⟨w.heap.size + 1, 1, none⟩ = some (.slice C b.num.length c3) ∧ w'.cell? ⟨w.heap.size + 1, 2, none⟩ = some (.slice D b.den.length c4)) (repeat (first | (with_reducible exact F1) | (with_reducible exact F2) | (with_reducible exact F3) | (with_reducible exact F4) | (with_reducible refine six_drew ?_) | (with_reducible refine six_set ?_ (by simp only; omega) (by simp only; omega))))
    (first
      | (go_at_call 144; ((with_reducible refine (HT1.out _ HX1.out.drew).mono ?_)); rintro e w2 ⟨A5, c5, rfl, p1, hx2⟩; have P1 := Lib.hid p1; have HX2 := Lib.hid hx2; have F2 := six_ext hx2 (six_drew F1); clear p1 hx2)
      | (go_at_call 144; ((with_reducible refine (HT2.out _ (HX1.out.drew.trans HX2.out)).mono ?_)); rintro e w3 ⟨A6, c6, rfl, p1, hx3⟩; have P2 := Lib.hid p1; have HX3 := Lib.hid hx3; have F3 := six_ext hx3 F2; clear p1 hx3)
      | (go_at_call 143; ((with_reducible refine (HL.out _ _ A5 A6 c5 c6 (P1.out.rd.ext HX3.out) P2.out.rd rfl).mono ?_)); rintro e w9 ⟨A9, c9, B9, d9, rfl, o1, o2, ap, hx⟩; have HX13 := (HX2.out.trans HX3.out).size; (try simp only [World.size_drew] at HX13); have O1 := Lib.hid (o1.lower (show w.heap.size + 3 ≤ w3.heap.size by omega)); have O2 := Lib.hid (o2.lower (show w.heap.size + 3 ≤ w3.heap.size by omega)); have AP := Lib.hid ap; have HX9 := Lib.hid (((HX1.out.drew.trans HX2.out).trans HX3.out).trans hx); have F4 := six_ext hx F3; have HV9 := HV1.out.ext ((((Ext.refl _).drew.trans HX2.out).trans HX3.out).trans hx); have r0 := HV9.c0; have s0 := HV9.fr 0; have r1 := HV9.c1; have s1 := HV9.fr 1; have r2 := HV9.c2; have s2 := HV9.fr 2; clear o1 o2 ap hx HV9 HX13))
  all_goals
    go_wp2_with fail
    exact bodyPost_ret (v := .tuple #[.agg #[.bool t.1.neg, .slice A9 t.1.num.length c9, .slice B9 t.1.den.length d9], .int .i64 t.2]) (by simp [results, Tryz.results22, go_sem, r0, r1, r2]) rfl (RatP.mk HT.out rfl (by refine Own.lower ?_ (show w.heap.size ≤ w.heap.size + 3 by omega); repeat (first | (with_reducible exact O1.out) | refine Own.setBelow ?_ (by simp; try omega) _)) (by refine Own.lower ?_ (show w.heap.size ≤ w.heap.size + 3 by omega); repeat (first | (with_reducible exact O2.out) | refine Own.setBelow ?_ (by simp; try omega) _)) AP.out (by repeat (first | (with_reducible exact HX9.out) | refine Ext.setCell ?_ (by simp; try omega) _)))

end Go.Proofs.YtifonmdcicegdaaGreat

/- The reference of ratio: Neg, Sign, Same. -/
namespace Go.Proofs.YtifonmdcicegdaaGreat
open Go Go.RowKit

set_option maxRecDepth 4000 in
set_option maxHeartbeats 2000000 in
theorem gneg_fr (a : Fr) (A B : Option Addr) (c1 c2 : Nat) (w : World) (ha : Rd w A c1 a.num) (hb : Rd w B c2 a.den) (wa : a.Wf) :
    Calls Tryz.prog 24 #[.agg #[.bool a.neg, .slice A a.num.length c1, .slice B a.den.length c2]] w (RatP w (fneg a)) := by
  have HA := Lib.hid ha
  have HB := Lib.hid hb
  clear ha hb
  by_cases hk : fchk a ≠ 0
  · have HT := Lib.hid (show fneg a = (Fr.zero, fchk a) from if_pos hk)
    have hb1 : (fchk a != 0) = true := bne_iff_ne.2 hk
    clear hk
    go_enter Tryz.func24, Tryz.ntmps24
    go_wp2_with fail
    obtain ⟨W, hW⟩ : ∃ W, W = (w.alloc (.cells #[.bool a.neg, .slice A a.num.length c1, .slice B a.den.length c2] 24)).alloc (.cells #[.bool false, .slice none 0 0, .slice none 0 0] 24) := ⟨_, rfl⟩
    have F0 : Thr W w.heap.size (.bool a.neg) (.slice A a.num.length c1) (.slice B a.den.length c2) := by rw [hW]; refine ⟨?_, ?_, ?_⟩ <;> simp [go_sem]
    have HX : Hid (Ext w W) := by rw [hW]; exact ((Ext.refl w).alloc _).alloc _
    have HV : Hid (VarF (w.heap.size + 1) W.heap.size Fr.zero none 0 none 0 W) := by
      have h1 := VarF.zero (w.alloc (.cells #[.bool a.neg, .slice A a.num.length c1, .slice B a.den.length c2] 24)) W.heap.size
      rw [← hW] at h1
      unfold Hid
      simpa using h1
    have HZ := Lib.hid (show W.heap.size = w.heap.size + 2 by rw [hW]; simp)
    try rw [← hW]
    clear hW
    refine (gcheck_fr a A B c1 c2 W (HA.out.ext HX.out) (HB.out.ext HX.out) wa).mono ?_; rintro e w1 ⟨rfl, hx1⟩
    have F1 := thr_ext hx1 F0
    have HX1 := Lib.hid (HX.out.trans hx1)
    have HV1 := Lib.hid (HV.out.ext hx1)
    have HZ1 := Lib.hid (show w.heap.size + 2 ≤ w1.heap.size by have := hx1.size; have := HZ.out; omega)
    clear hx1 F0 HX HV
    have r0 := HV1.out.c0
    have s0 := HV1.out.fr 0
    have r1 := HV1.out.c1
    have s1 := HV1.out.fr 1
    have r2 := HV1.out.c2
    have s2 := HV1.out.fr 2
    clear F1
    go_wp2_with fail
    exact bodyPost_ret (v := .tuple #[.agg #[.bool false, .slice none 0 0, .slice none 0 0], .int .i64 (fchk a)]) (by simp [results, Tryz.results24, go_sem, r0, r1, r2]) rfl (RatP.nil HT.out rfl (by repeat (first | (with_reducible exact HX1.out) | refine Ext.setCell ?_ (by simp; try omega) _)))
  have h0 : fchk a = 0 := by simpa using hk
  have hb1 : (fchk a != 0) = false := bne_eq_false_iff_eq.2 h0
  have HT := Lib.hid (fneg_ok wa h0)
  obtain ⟨t1, t2⟩ := trimW_ok wa h0
  have HCP := Lib.hid (fun wx (hx : Ext w wx) => gopposite_any a A B c1 c2 wx (HA.out.ext hx) (HB.out.ext hx) (fchk_small h0))
  clear hk h0 t1 t2
  go_enter Tryz.func24, Tryz.ntmps24
  go_wp2_with fail
  obtain ⟨W, hW⟩ : ∃ W, W = (w.alloc (.cells #[.bool a.neg, .slice A a.num.length c1, .slice B a.den.length c2] 24)).alloc (.cells #[.bool false, .slice none 0 0, .slice none 0 0] 24) := ⟨_, rfl⟩
  have F0 : Thr W w.heap.size (.bool a.neg) (.slice A a.num.length c1) (.slice B a.den.length c2) := by rw [hW]; refine ⟨?_, ?_, ?_⟩ <;> simp [go_sem]
  have HX : Hid (Ext w W) := by rw [hW]; exact ((Ext.refl w).alloc _).alloc _
  have HV : Hid (VarF (w.heap.size + 1) W.heap.size Fr.zero none 0 none 0 W) := by
    have h1 := VarF.zero (w.alloc (.cells #[.bool a.neg, .slice A a.num.length c1, .slice B a.den.length c2] 24)) W.heap.size
    rw [← hW] at h1
    unfold Hid
    simpa using h1
  have HZ := Lib.hid (show W.heap.size = w.heap.size + 2 by rw [hW]; simp)
  try rw [← hW]
  clear hW
  refine (gcheck_fr a A B c1 c2 W (HA.out.ext HX.out) (HB.out.ext HX.out) wa).mono ?_; rintro e w1 ⟨rfl, hx1⟩
  have F1 := thr_ext hx1 F0
  have HX1 := Lib.hid (HX.out.trans hx1)
  have HV1 := Lib.hid (HV.out.ext hx1)
  have HZ1 := Lib.hid (show w.heap.size + 2 ≤ w1.heap.size by have := hx1.size; have := HZ.out; omega)
  clear hx1 F0 HX HV
  obtain ⟨u0, u1, u2⟩ := F1
  go_wp2_with fail
  refine (HCP.out _ HX1.out).mono ?_; rintro e w2 ⟨A9, c9, B9, d9, rfl, o1, o2, ap, hx⟩
  have hzz := HZ1.out
  have O1 := Lib.hid (o1.lower (show w.heap.size + 2 ≤ w1.heap.size by omega))
  have O2 := Lib.hid (o2.lower (show w.heap.size + 2 ≤ w1.heap.size by omega))
  have AP := Lib.hid ap
  have HX9 := Lib.hid (HX1.out.trans hx)
  have HV9 := Lib.hid (HV1.out.ext hx)
  clear o1 o2 ap u0 u1 u2 HV1
  have r0 := HV9.out.c0
  have s0 := HV9.out.fr 0
  have r1 := HV9.out.c1
  have s1 := HV9.out.fr 1
  have r2 := HV9.out.c2
  have s2 := HV9.out.fr 2
  clear hx
  go_wp2_with fail
  exact bodyPost_ret (v := .tuple #[.agg #[.bool (fturn a).neg, .slice A9 a.num.length c9, .slice B9 a.den.length d9], .int .i64 0]) (by simp [results, Tryz.results24, go_sem, r0, r1, r2]) rfl (RatP.mk (s := (fturn a).neg) (xs := a.num) (ys := a.den) HT.out rfl (by refine Own.lower ?_ (show w.heap.size ≤ w.heap.size + 2 by omega); repeat (first | (with_reducible exact O1.out) | refine Own.setBelow ?_ (by simp; try omega) _)) (by refine Own.lower ?_ (show w.heap.size ≤ w.heap.size + 2 by omega); repeat (first | (with_reducible exact O2.out) | refine Own.setBelow ?_ (by simp; try omega) _)) AP.out (by repeat (first | (with_reducible exact HX9.out) | refine Ext.setCell ?_ (by simp; try omega) _)))

set_option maxHeartbeats 2000000 in
theorem gsign_fr_raw (s : Bool) (xs ys : List Int) (A B : Option Addr) (c1 c2 : Nat) (w : World) (ha : Rd w A c1 xs) (hb : Rd w B c2 ys) (wa : (⟨s, xs, ys⟩ : Fr).Wf) :
    Calls Tryz.prog 32 #[.agg #[.bool s, .slice A xs.length c1, .slice B ys.length c2]] w fun e w' => e = .returned (.int .i64 (fsign ⟨s, xs, ys⟩)) ∧ Ext w w' := by
  obtain ⟨k, hk⟩ : ∃ k, k = fchk ⟨s, xs, ys⟩ := ⟨_, rfl⟩
  have HCK := Lib.hid (fun wx (h1 : Rd wx A c1 xs) (h2 : Rd wx B c2 ys) => gcheck_fr ⟨s, xs, ys⟩ A B c1 c2 wx h1 h2 wa)
  rw [← hk] at HCK
  simp only at HCK
  have HA := Lib.hid ha
  have HB := Lib.hid hb
  clear ha hb
  have HX := Lib.hid ((Ext.refl w).alloc (.cells #[.bool s, .slice A xs.length c1, .slice B ys.length c2] 24))
  by_cases h1 : k ≠ 0
  · have HE := Lib.hid (show fsign ⟨s, xs, ys⟩ = 0 by unfold fsign; rw [if_pos (by rw [← hk]; exact h1)])
    have hb1 : (k != 0) = true := bne_iff_ne.2 h1
    rw [HE.out]
    clear h1 hk wa
    go_enter Tryz.func32, Tryz.ntmps32
    go_wp2_with fail
    refine (HCK.out _ (HA.out.ext HX.out) (HB.out.ext HX.out)).mono ?_; rintro e w1 ⟨rfl, hx1⟩
    obtain ⟨hc, hf⟩ := bcell hx1
    have HX1 := Lib.hid (HX.out.trans hx1)
    clear hx1
    go_wp2_with fail
    go_ret
    exact ⟨rfl, HX1.out⟩
  have hb1 : (k != 0) = false := bne_eq_false_iff_eq.2 (by simpa using h1)
  have h0 : k = 0 := by simpa using h1
  by_cases h2 : xs.length = 0
  · have HE := Lib.hid (show fsign ⟨s, xs, ys⟩ = 0 by unfold fsign; rw [if_neg (by rw [← hk]; exact fun h => h h0), if_pos h2])
    have hb2 : ((xs.length : Int) == 0) = true := beq_iff_eq.2 (by omega)
    rw [HE.out]
    clear h1 hk wa h0 h2
    go_enter Tryz.func32, Tryz.ntmps32
    go_wp2_with fail
    refine (HCK.out _ (HA.out.ext HX.out) (HB.out.ext HX.out)).mono ?_; rintro e w1 ⟨rfl, hx1⟩
    obtain ⟨hc, hf⟩ := bcell hx1
    have HX1 := Lib.hid (HX.out.trans hx1)
    clear hx1
    go_wp2_with fail
    go_ret
    exact ⟨rfl, HX1.out⟩
  have hb2 : ((xs.length : Int) == 0) = false := beq_eq_false_iff_ne.2 (by omega)
  have HE := Lib.hid (show fsign ⟨s, xs, ys⟩ = if s = true then -1 else 1 by unfold fsign; rw [if_neg (by rw [← hk]; exact fun h => h h0), if_neg h2])
  rw [HE.out]
  clear h1 hk wa h0 h2
  cases s
  all_goals
    go_enter Tryz.func32, Tryz.ntmps32
    go_wp2_with fail
    refine (HCK.out _ (HA.out.ext HX.out) (HB.out.ext HX.out)).mono ?_; rintro e w1 ⟨rfl, hx1⟩
    obtain ⟨hc, hf⟩ := bcell hx1
    have HX1 := Lib.hid (HX.out.trans hx1)
    clear hx1
    go_wp2_with fail
    go_ret
    exact ⟨rfl, HX1.out⟩
theorem gsign_fr (a : Fr) (A B : Option Addr) (c1 c2 : Nat) (w : World) (ha : Rd w A c1 a.num) (hb : Rd w B c2 a.den) (wa : a.Wf) :
    Calls Tryz.prog 32 #[.agg #[.bool a.neg, .slice A a.num.length c1, .slice B a.den.length c2]] w fun e w' => e = .returned (.int .i64 (fsign a)) ∧ Ext w w' :=
  gsign_fr_raw a.neg a.num a.den A B c1 c2 w ha hb wa

set_option maxHeartbeats 1000000 in
theorem gsame_fr_raw (s t : Bool) (A B C D : Option Addr) (xs ys us vs : List Int) (a b c d : Nat) (w : World) (ha : Rd w A a xs) (hb : Rd w B b ys) (hc : Rd w C c us) (hd : Rd w D d vs) (r : Bool) (hr : decide ((⟨s, xs, ys⟩ : Fr) = ⟨t, us, vs⟩) = r) :
    Calls Tryz.prog 34 #[.agg #[.bool s, .slice A xs.length a, .slice B ys.length b], .agg #[.bool t, .slice C us.length c, .slice D vs.length d]] w fun e w' => e = .returned (.bool r) ∧ Ext w w' := by
  have HA := Lib.hid ha
  have HB := Lib.hid hb
  have HC := Lib.hid hc
  have HD := Lib.hid hd
  have HR := Lib.hid hr
  clear ha hb hc hd hr
  have HX := Lib.hid (((Ext.refl w).alloc (.cells #[.bool s, .slice A xs.length a, .slice B ys.length b] 24)).alloc (.cells #[.bool t, .slice C us.length c, .slice D vs.length d] 24))
  by_cases h1 : s = t
  · subst h1
    by_cases h2 : xs = us
    · have H2 := Lib.hid h2
      have HS := Lib.hid (gsame_any A C xs us a c xs.length _ (HA.out.ext HX.out) (HC.out.ext HX.out) rfl us.length rfl true (decide_eq_true h2))
      have HS2 := Lib.hid (fun wx (hx : Ext w wx) => gsame_any B D ys vs b d ys.length wx (HB.out.ext hx) (HD.out.ext hx) rfl vs.length rfl r (by rw [← HR.out, h2]; simp))
      clear h2
      go_enter Tryz.func34, Tryz.ntmps34
      go_wp2_with fail
      refine HS.out.mono ?_; rintro e w1 ⟨rfl, hq⟩
      obtain ⟨m1, rfl⟩ := hq
      go_wp2_with fail
      refine (HS2.out _ (HX.out.drewN m1)).mono ?_; rintro e w2 ⟨rfl, hq⟩
      obtain ⟨m2, rfl⟩ := hq
      go_wp2_with fail
      go_ret
      exact ⟨rfl, HX.out.drewN _⟩
    · have HS := Lib.hid (gsame_any A C xs us a c xs.length _ (HA.out.ext HX.out) (HC.out.ext HX.out) rfl us.length rfl false (decide_eq_false h2))
      have HF := Lib.hid (show r = false by rw [← HR.out]; exact decide_eq_false (fun e => h2 (Fr.mk.inj e).2.1))
      clear h2
      go_enter Tryz.func34, Tryz.ntmps34
      go_wp2_with fail
      refine HS.out.mono ?_; rintro e w1 ⟨rfl, hq⟩
      obtain ⟨m1, rfl⟩ := hq
      go_wp2_with fail
      go_ret
      exact ⟨by rw [HF.out]; rfl, HX.out.drewN m1⟩
  · have HF := Lib.hid (show r = false by rw [← HR.out]; exact decide_eq_false (fun e => h1 (Fr.mk.inj e).1))
    have hb : (s == t) = false := beq_eq_false_iff_ne.2 h1
    go_enter Tryz.func34, Tryz.ntmps34
    go_wp2_with fail
    go_ret
    exact ⟨by rw [HF.out]; rfl, HX.out⟩

theorem gsame_fr (a b : Fr) (A B C D : Option Addr) (c1 c2 c3 c4 : Nat) (w : World) (ha : Rd w A c1 a.num) (hb : Rd w B c2 a.den) (hc : Rd w C c3 b.num) (hd : Rd w D c4 b.den) (r : Bool) (hr : decide (a = b) = r) :
    Calls Tryz.prog 34 #[.agg #[.bool a.neg, .slice A a.num.length c1, .slice B a.den.length c2], .agg #[.bool b.neg, .slice C b.num.length c3, .slice D b.den.length c4]] w fun e w' => e = .returned (.bool r) ∧ Ext w w' :=
  gsame_fr_raw a.neg b.neg A B C D a.num a.den b.num b.den c1 c2 c3 c4 w ha hb hc hd r hr

end Go.Proofs.YtifonmdcicegdaaGreat

/- The reference: size, Small. -/
namespace Go.Proofs.YtifonmdcicegdaaGreat
open Go Go.RowKit

set_option maxHeartbeats 1000000 in
theorem gsize3_any (x : Int) (w : World) (h0 : -9223372036854775808 ≤ x) (h1 : x ≤ 9223372036854775807) :
    Calls Tryz.prog 247 #[.int .i64 x] w fun e w' => ∃ A' c', e = .returned (.slice A' (wd x.natAbs).length c') ∧ Own w' w.heap.size A' c' (wd x.natAbs) ∧ Ext w w' := by
  obtain ⟨m, hm⟩ : ∃ m, m = x.natAbs := ⟨_, rfl⟩
  rw [← hm]
  have H := Lib.hid (gof_any m w (by omega))
  by_cases hx : x < 0
  · have HE := Lib.hid (show IntKind.u64.wrap (-IntKind.u64.wrap x) = (m : Int) by rw [IntKind.wrap_u64, IntKind.wrap_u64]; omega)
    clear hm
    go_enter Tryz.func247, Tryz.ntmps247
    go_wp2_with fail
    rw [HE.out]
    refine H.out.mono ?_; rintro e w1 ⟨A1, c1, rfl, h1, hx1⟩
    have H1 := Lib.hid h1
    have HX1 := Lib.hid hx1
    clear h1 hx1
    go_wp2_with fail
    go_ret
    exact ⟨_, _, rfl, H1.out, HX1.out⟩
  · obtain rfl : x = (m : Int) := by omega
    clear hm
    go_enter Tryz.func247, Tryz.ntmps247
    go_wp2_with fail
    refine H.out.mono ?_; rintro e w1 ⟨A1, c1, rfl, h1, hx1⟩
    have H1 := Lib.hid h1
    have HX1 := Lib.hid hx1
    clear h1 hx1
    go_wp2_with fail
    go_ret
    exact ⟨_, _, rfl, H1.out, HX1.out⟩

set_option maxHeartbeats 1000000 in
theorem gsmall3_any (n d : Int) (w : World) (h0 : -9223372036854775808 ≤ n) (h1 : n ≤ 9223372036854775807) (k0 : -9223372036854775808 ≤ d) (k1 : d ≤ 9223372036854775807) :
    Calls Tryz.prog 171 #[.int .i64 n, .int .i64 d] w (RatP w (fsmall n d)) := by
  by_cases hd : d = 0
  · have HT := Lib.hid (show fsmall n d = (Fr.zero, 7) from if_pos hd)
    subst hd
    go_enter Tryz.func171, Tryz.ntmps171
    go_wp2_with fail
    exact bodyPost_ret (v := .tuple #[.agg #[.bool false, .slice none 0 0, .slice none 0 0], .int .i64 7]) (by simp [results, Tryz.results171, go_sem]) rfl (RatP.nil HT.out rfl (by repeat (first | exact Ext.refl w | refine Ext.setCell ?_ (Nat.le_refl _) _ | refine Ext.alloc ?_ _)))
  · have hdb : (d == 0) = false := beq_eq_false_iff_ne.2 hd
    have Hn := Lib.hid (wd_len_64 n h0 h1)
    have Hd := Lib.hid (wd_len_64 d k0 k1)
    have Hz := Lib.hid (show d.natAbs ≠ 0 by omega)
    obtain ⟨t, ht⟩ : ∃ t, t = tell (mkRat (sg (decide (n < 0) != decide (d < 0)) n.natAbs) d.natAbs) := ⟨_, rfl⟩
    have HT := Lib.hid (show fsmall n d = t by rw [ht]; exact if_neg hd)
    have HL := fun (wx : World) (b : Bool) (A B : Option Addr) (c e : Nat) (ha : Rd wx A c (wd n.natAbs)) (hb : Rd wx B e (wd d.natAbs)) (hbb : b = (decide (n < 0) != decide (d < 0))) => Lib.hid (show Calls Tryz.prog 143 #[.bool b, .slice A (wd n.natAbs).length c, .slice B (wd d.natAbs).length e] wx (RatP wx t) by
      subst hbb; rw [ht]; exact gof3_any _ A B _ _ c e wx ha hb Hz.out (by have := Hn.out; omega) (by have := Hd.out; omega))
    have HLL := Lib.hid HL
    clear HL ht hd
    go_enter Tryz.func171, Tryz.ntmps171
    go_wp2_with fail
    refine (gsize3_any n _ h0 h1).mono ?_; rintro e w1 ⟨A1, c1, rfl, h1', hx1⟩
    have H1 := Lib.hid h1'
    have HX1 := Lib.hid hx1
    clear h1' hx1
    go_wp2_with fail
    refine (gsize3_any d _ k0 k1).mono ?_; rintro e w2 ⟨A2, c2, rfl, h2, hx2⟩
    have H2 := Lib.hid h2
    have H1 := Lib.hid (H1.out.ext hx2)
    have HX2 := Lib.hid (HX1.out.trans hx2)
    clear h2 hx2
    go_wp2_with fail
    refine (HLL.out _ _ _ _ _ _ H1.out.rd H2.out.rd rfl).out.mono ?_; rintro e w3 ⟨A3, c3, B3, d3, rfl, h3, h4, h5, hx3⟩
    have H3 := Lib.hid (h3.lower (show w.heap.size + 1 ≤ w2.heap.size by have := HX2.out.size; simp at this; omega))
    have H4 := Lib.hid (h4.lower (show w.heap.size + 1 ≤ w2.heap.size by have := HX2.out.size; simp at this; omega))
    have HAp := Lib.hid h5
    have HX3 := Lib.hid (HX2.out.trans hx3)
    have HXw := Lib.hid (((Ext.refl w).alloc _).trans HX3.out)
    have hz3 : w.heap.size < w3.heap.size := by have := HX3.out.size; simp at this; omega
    clear h3 h4 h5 hx3
    obtain ⟨hc, hf⟩ := bcell HX3.out
    go_wp2_with fail
    exact bodyPost_ret (v := .tuple #[.agg #[.bool t.1.neg, .slice A3 t.1.num.length c3, .slice B3 t.1.den.length d3], .int .i64 t.2]) (by simp [results, Tryz.results171, go_sem, hc]) rfl (RatP.mk HT.out rfl (by refine Own.lower ?_ (Nat.le_succ _); repeat (first | exact H3.out | refine Own.setBelow ?_ (Nat.lt_succ_self _) _)) (by refine Own.lower ?_ (Nat.le_succ _); repeat (first | exact H4.out | refine Own.setBelow ?_ (Nat.lt_succ_self _) _)) HAp.out (by repeat (first | exact HXw.out | refine Ext.setCell ?_ (Nat.le_refl _) _)))

end Go.Proofs.YtifonmdcicegdaaGreat

/- The reference of ratio over fractions at addresses. -/
namespace Go.Proofs.YtifonmdcicegdaaGreat
open Go Go.RowKit

section
variable (a b : Fr) (p q : Adr) (w : World) (ha : RF w p a) (hb : RF w q b)
include ha hb
theorem nAdd : Calls Tryz.prog 15 #[.agg #[.bool a.neg, .slice p.A a.num.length p.c, .slice p.B a.den.length p.d], .agg #[.bool b.neg, .slice q.A b.num.length q.c, .slice q.B b.den.length q.d]] w (TF w (fadd a b)) :=
  (gaddF_fr a b _ _ _ _ _ _ _ _ w ha.num ha.den hb.num hb.den ha.wf hb.wf).mono fun _ _ h => h.tf (fadd_good a b).wf
theorem nSub : Calls Tryz.prog 18 #[.agg #[.bool a.neg, .slice p.A a.num.length p.c, .slice p.B a.den.length p.d], .agg #[.bool b.neg, .slice q.A b.num.length q.c, .slice q.B b.den.length q.d]] w (TF w (fsub a b)) :=
  (gsub_fr a b _ _ _ _ _ _ _ _ w ha.num ha.den hb.num hb.den ha.wf hb.wf).mono fun _ _ h => h.tf (fsub_good a b).wf
theorem nMul : Calls Tryz.prog 20 #[.agg #[.bool a.neg, .slice p.A a.num.length p.c, .slice p.B a.den.length p.d], .agg #[.bool b.neg, .slice q.A b.num.length q.c, .slice q.B b.den.length q.d]] w (TF w (fmul a b)) :=
  (gmul_fr a b _ _ _ _ _ _ _ _ w ha.num ha.den hb.num hb.den ha.wf hb.wf).mono fun _ _ h => h.tf (fmul_good a b).wf
theorem nQuo : Calls Tryz.prog 22 #[.agg #[.bool a.neg, .slice p.A a.num.length p.c, .slice p.B a.den.length p.d], .agg #[.bool b.neg, .slice q.A b.num.length q.c, .slice q.B b.den.length q.d]] w (TF w (fquo a b)) :=
  (gquo_fr a b _ _ _ _ _ _ _ _ w ha.num ha.den hb.num hb.den ha.wf hb.wf).mono fun _ _ h => h.tf (fquo_good a b).wf
theorem nSame : Calls Tryz.prog 34 #[.agg #[.bool a.neg, .slice p.A a.num.length p.c, .slice p.B a.den.length p.d], .agg #[.bool b.neg, .slice q.A b.num.length q.c, .slice q.B b.den.length q.d]] w fun e w' => e = .returned (.bool (decide (a = b))) ∧ Below w.heap.size w w' :=
  gsame_fr a b _ _ _ _ _ _ _ _ w ha.num ha.den hb.num hb.den _ rfl
end
theorem nNeg (a : Fr) (p : Adr) (w : World) (ha : RF w p a) : Calls Tryz.prog 24 #[.agg #[.bool a.neg, .slice p.A a.num.length p.c, .slice p.B a.den.length p.d]] w (TF w (fneg a)) :=
  (gneg_fr a _ _ _ _ w ha.num ha.den ha.wf).mono fun _ _ h => h.tf (fneg_wf ha.wf)
theorem nCheck (a : Fr) (p : Adr) (w : World) (ha : RF w p a) : Calls Tryz.prog 30 #[.agg #[.bool a.neg, .slice p.A a.num.length p.c, .slice p.B a.den.length p.d]] w fun e w' => e = .returned (.int .i64 (fchk a)) ∧ Below w.heap.size w w' :=
  gcheck_fr a _ _ _ _ w ha.num ha.den ha.wf
theorem nSmall (n d : Int) (w : World) (h0 : -9223372036854775808 ≤ n) (h1 : n ≤ 9223372036854775807) (k0 : -9223372036854775808 ≤ d) (k1 : d ≤ 9223372036854775807) : Calls Tryz.prog 171 #[.int .i64 n, .int .i64 d] w (TF w (fsmall n d)) :=
  (gsmall3_any n d w h0 h1 k0 k1).mono fun _ _ h => h.tf (fsmall_wf n d)

end Go.Proofs.YtifonmdcicegdaaGreat

/- The reference of gauss: Check, both, Zero, Same, Neg, Conj, Int. -/
namespace Go.Proofs.YtifonmdcicegdaaGreat
open Go Go.RowKit

theorem RF.nil (w : World) : RF w Adr.nil Fr.zero := ⟨Rd.nil _, Rd.nil _, Fr.zero_wf⟩
/-- the reference's conjugate: its real part is the argument's own -/
def ConjP (wb w : World) (t : Ga × Int) (e : Ending) (w' : World) : Prop :=
  ∃ p q : Adr, e = .returned (.tuple #[.agg #[.bool t.1.re.neg, .slice p.A t.1.re.num.length p.c, .slice p.B t.1.re.den.length p.d, .bool t.1.im.neg, .slice q.A t.1.im.num.length q.c, .slice q.B t.1.im.den.length q.d], .int .i64 t.2]) ∧ (∀ wx, Below wb.heap.size wb wx → RF wx p t.1.re) ∧ OF w' w.heap.size q t.1.im ∧ Below w.heap.size w w'

set_option maxRecDepth 8000 in
set_option maxHeartbeats 4000000 in
theorem ra_Check (a : Ga) (p q : Adr) (w : World) (ha : RG w p q a) :
    Calls Tryz.prog 41 #[.agg #[.bool a.re.neg, .slice p.A a.re.num.length p.c, .slice p.B a.re.den.length p.d, .bool a.im.neg, .slice q.A a.im.num.length q.c, .slice q.B a.im.den.length q.d]] w fun e w' => e = .returned (.int .i64 (gchk a)) ∧ Below w.heap.size w w' := by
  by_cases h0 : fchk a.re ≠ 0
  · have HZ := Lib.hid (gchk_bad1 h0)
    have hb : (fchk a.re != 0) = true := bne_iff_ne.2 h0
    clear h0
    go_enter Tryz.func41, Tryz.ntmps41
    go_upto_region 1 with fail
    go_name_world W0 hW
    have S0 : Sta w w none _ _ W0 := hW ▸ (Sta.start w).new _ _
    clear hW
    simp only [List.nil_append] at S0
    have C0 := S0.c6 0 rfl
    go_wp2_with fail
    refine (nCheck a.re p W0 (ha.re.ext S0.x)).mono ?_; rintro e w1 ⟨rfl, x1⟩
    have S1 := S0.ext x1
    clear x1
    clear C0
    have C0 := S1.c6 0 rfl
    go_wp2_with fail
    rw [HZ.out]
    go_ret
    exact ⟨rfl, S1.below⟩
  · have h1 : fchk a.re = 0 := by simpa using h0
    have HZ := Lib.hid (gchk_bad2 h1)
    have hb : (fchk a.re != 0) = false := bne_eq_false_iff_eq.2 h1
    clear h0 h1
    go_enter Tryz.func41, Tryz.ntmps41
    go_upto_region 1 with fail
    go_name_world W0 hW
    have S0 : Sta w w none _ _ W0 := hW ▸ (Sta.start w).new _ _
    clear hW
    simp only [List.nil_append] at S0
    have C0 := S0.c6 0 rfl
    go_wp2_with fail
    refine (nCheck a.re p W0 (ha.re.ext S0.x)).mono ?_; rintro e w1 ⟨rfl, x1⟩
    have S1 := S0.ext x1
    clear x1
    clear C0
    have C0 := S1.c6 0 rfl
    go_wp2_with fail
    refine (nCheck a.im q w1 (ha.im.ext S1.x)).mono ?_; rintro e w2 ⟨rfl, x1⟩
    have S2 := S1.ext x1
    clear x1
    go_wp2_with fail
    rw [HZ.out]
    go_ret
    exact ⟨rfl, S2.below⟩

set_option maxRecDepth 8000 in
set_option maxHeartbeats 4000000 in
theorem ra_both (a b : Ga) (p q r s : Adr) (w : World) (ha : RG w p q a) (hb : RG w r s b) :
    Calls Tryz.prog 164 #[.agg #[.bool a.re.neg, .slice p.A a.re.num.length p.c, .slice p.B a.re.den.length p.d, .bool a.im.neg, .slice q.A a.im.num.length q.c, .slice q.B a.im.den.length q.d], .agg #[.bool b.re.neg, .slice r.A b.re.num.length r.c, .slice r.B b.re.den.length r.d, .bool b.im.neg, .slice s.A b.im.num.length s.c, .slice s.B b.im.den.length s.d]] w fun e w' => e = .returned (.int .i64 (gchk2 a b)) ∧ Below w.heap.size w w' := by
  by_cases h0 : gchk a ≠ 0
  · have HZ := Lib.hid (gchk2_bad1 (b := b) h0)
    have hb' : (gchk a != 0) = true := bne_iff_ne.2 h0
    clear h0
    go_enter Tryz.func164, Tryz.ntmps164
    go_upto_region 1 with fail
    go_name_world W0 hW
    have S0 : Sta w w none _ _ W0 := hW ▸ ((Sta.start w).new _ _).new _ _
    clear hW
    simp only [World.size_alloc, List.nil_append, List.cons_append] at S0
    have C0 := S0.c6 0 rfl
    go_wp2_with fail
    refine (ra_Check a p q W0 (ha.ext S0.x)).mono ?_; rintro e w1 ⟨rfl, x1⟩
    have S1 := S0.ext x1
    clear x1
    clear C0
    have C1 := S1.c6 1 rfl
    go_wp2_with fail
    rw [HZ.out]
    go_ret
    exact ⟨rfl, S1.below⟩
  · have h1 : gchk a = 0 := by simpa using h0
    have HZ := Lib.hid (gchk2_bad2 (b := b) h1)
    have hb' : (gchk a != 0) = false := bne_eq_false_iff_eq.2 h1
    clear h0 h1
    go_enter Tryz.func164, Tryz.ntmps164
    go_upto_region 1 with fail
    go_name_world W0 hW
    have S0 : Sta w w none _ _ W0 := hW ▸ ((Sta.start w).new _ _).new _ _
    clear hW
    simp only [World.size_alloc, List.nil_append, List.cons_append] at S0
    have C0 := S0.c6 0 rfl
    go_wp2_with fail
    refine (ra_Check a p q W0 (ha.ext S0.x)).mono ?_; rintro e w1 ⟨rfl, x1⟩
    have S1 := S0.ext x1
    clear x1
    clear C0
    have C1 := S1.c6 1 rfl
    go_wp2_with fail
    refine (ra_Check b r s w1 (hb.ext S1.x)).mono ?_; rintro e w2 ⟨rfl, x1⟩
    have S2 := S1.ext x1
    clear x1
    go_wp2_with fail
    rw [HZ.out]
    go_ret
    exact ⟨rfl, S2.below⟩

set_option maxRecDepth 8000 in
set_option maxHeartbeats 4000000 in
theorem ra_Zero (a : Ga) (p q : Adr) (w : World) (ha : RG w p q a) :
    Calls Tryz.prog 45 #[.agg #[.bool a.re.neg, .slice p.A a.re.num.length p.c, .slice p.B a.re.den.length p.d, .bool a.im.neg, .slice q.A a.im.num.length q.c, .slice q.B a.im.den.length q.d]] w fun e w' => e = .returned (.bool (gzero a)) ∧ Below w.heap.size w w' := by
  by_cases h0 : gchk a ≠ 0
  · have HZ := Lib.hid (show gzero a = false from decide_eq_false fun h => h0 h.1)
    have hb : (gchk a == 0) = false := beq_eq_false_iff_ne.2 h0
    clear h0
    go_enter Tryz.func45, Tryz.ntmps45
    go_upto_region 1 with fail
    go_name_world W0 hW
    have S0 : Sta w w none _ _ W0 := hW ▸ (Sta.start w).new _ _
    clear hW
    simp only [List.nil_append] at S0
    have C0 := S0.c6 0 rfl
    go_wp2_with fail
    refine (ra_Check a p q W0 (ha.ext S0.x)).mono ?_; rintro e w1 ⟨rfl, x1⟩
    have S1 := S0.ext x1
    clear x1
    clear C0
    have C0 := S1.c6 0 rfl
    go_wp2_with fail
    rw [HZ.out]
    go_ret
    exact ⟨rfl, S1.below⟩
  · have h1 : gchk a = 0 := by simpa using h0
    have hb : (gchk a == 0) = true := beq_iff_eq.2 h1
    by_cases h2 : a.re.num.length = 0
    · have hc : ((a.re.num.length : Int) == 0) = true := beq_iff_eq.2 (by omega)
      by_cases h3 : a.im.num.length = 0
      · have HZ := Lib.hid (show gzero a = true from decide_eq_true ⟨h1, h2, h3⟩)
        have hd : ((a.im.num.length : Int) == 0) = true := beq_iff_eq.2 (by omega)
        clear h0 h1 h2 h3
        go_enter Tryz.func45, Tryz.ntmps45
        go_upto_region 1 with fail
        go_name_world W0 hW
        have S0 : Sta w w none _ _ W0 := hW ▸ (Sta.start w).new _ _
        clear hW
        simp only [List.nil_append] at S0
        have C0 := S0.c6 0 rfl
        go_wp2_with fail
        refine (ra_Check a p q W0 (ha.ext S0.x)).mono ?_; rintro e w1 ⟨rfl, x1⟩
        have S1 := S0.ext x1
        clear x1
        clear C0
        have C0 := S1.c6 0 rfl
        go_wp2_with fail
        rw [HZ.out]
        go_ret
        exact ⟨rfl, S1.below⟩
      · have HZ := Lib.hid (show gzero a = false from decide_eq_false fun h => h3 h.2.2)
        have hd : ((a.im.num.length : Int) == 0) = false := beq_eq_false_iff_ne.2 (by omega)
        clear h0 h1 h2 h3
        go_enter Tryz.func45, Tryz.ntmps45
        go_upto_region 1 with fail
        go_name_world W0 hW
        have S0 : Sta w w none _ _ W0 := hW ▸ (Sta.start w).new _ _
        clear hW
        simp only [List.nil_append] at S0
        have C0 := S0.c6 0 rfl
        go_wp2_with fail
        refine (ra_Check a p q W0 (ha.ext S0.x)).mono ?_; rintro e w1 ⟨rfl, x1⟩
        have S1 := S0.ext x1
        clear x1
        clear C0
        have C0 := S1.c6 0 rfl
        go_wp2_with fail
        rw [HZ.out]
        go_ret
        exact ⟨rfl, S1.below⟩
    · have HZ := Lib.hid (show gzero a = false from decide_eq_false fun h => h2 h.2.1)
      have hc : ((a.re.num.length : Int) == 0) = false := beq_eq_false_iff_ne.2 (by omega)
      clear h0 h1 h2
      go_enter Tryz.func45, Tryz.ntmps45
      go_upto_region 1 with fail
      go_name_world W0 hW
      have S0 : Sta w w none _ _ W0 := hW ▸ (Sta.start w).new _ _
      clear hW
      simp only [List.nil_append] at S0
      have C0 := S0.c6 0 rfl
      go_wp2_with fail
      refine (ra_Check a p q W0 (ha.ext S0.x)).mono ?_; rintro e w1 ⟨rfl, x1⟩
      have S1 := S0.ext x1
      clear x1
      clear C0
      have C0 := S1.c6 0 rfl
      go_wp2_with fail
      rw [HZ.out]
      go_ret
      exact ⟨rfl, S1.below⟩

set_option maxRecDepth 8000 in
set_option maxHeartbeats 4000000 in
theorem ra_Same (a b : Ga) (p q r s : Adr) (w : World) (ha : RG w p q a) (hb : RG w r s b) :
    Calls Tryz.prog 43 #[.agg #[.bool a.re.neg, .slice p.A a.re.num.length p.c, .slice p.B a.re.den.length p.d, .bool a.im.neg, .slice q.A a.im.num.length q.c, .slice q.B a.im.den.length q.d], .agg #[.bool b.re.neg, .slice r.A b.re.num.length r.c, .slice r.B b.re.den.length r.d, .bool b.im.neg, .slice s.A b.im.num.length s.c, .slice s.B b.im.den.length s.d]] w fun e w' => e = .returned (.bool (gsame a b)) ∧ Below w.heap.size w w' := by
  have hs := gsame_cases a b
  by_cases h0 : gchk2 a b ≠ 0
  · have HZ := Lib.hid (show gsame a b = false by rw [hs, decide_eq_false h0]; rfl)
    have hb' : (gchk2 a b == 0) = false := beq_eq_false_iff_ne.2 h0
    clear h0 hs
    go_enter Tryz.func43, Tryz.ntmps43
    go_upto_region 1 with fail
    go_name_world W0 hW
    have S0 : Sta w w none _ _ W0 := hW ▸ ((Sta.start w).new _ _).new _ _
    clear hW
    simp only [World.size_alloc, List.nil_append, List.cons_append] at S0
    have C0 := S0.c6 0 rfl
    have C1 := S0.c6 1 rfl
    go_wp2_with fail
    refine (ra_both a b p q r s W0 (ha.ext S0.x) (hb.ext S0.x)).mono ?_; rintro e w1 ⟨rfl, x1⟩
    have S1 := S0.ext x1
    clear x1
    clear C0 C1
    have C0 := S1.c6 0 rfl
    have C1 := S1.c6 1 rfl
    go_wp2_with fail
    rw [HZ.out]
    go_ret
    exact ⟨rfl, S1.below⟩
  · have h1 : gchk2 a b = 0 := by simpa using h0
    have hb' : (gchk2 a b == 0) = true := beq_iff_eq.2 h1
    rw [decide_eq_true h1] at hs
    by_cases h2 : a.re = b.re
    · have HB1 := Lib.hid (decide_eq_true h2)
      rw [decide_eq_true h2] at hs
      by_cases h3 : a.im = b.im
      · have HB2 := Lib.hid (decide_eq_true h3)
        have HZ := Lib.hid (show gsame a b = true by rw [hs, decide_eq_true h3]; rfl)
        clear h0 h1 h2 h3 hs
        go_enter Tryz.func43, Tryz.ntmps43
        go_upto_region 1 with fail
        go_name_world W0 hW
        have S0 : Sta w w none _ _ W0 := hW ▸ ((Sta.start w).new _ _).new _ _
        clear hW
        simp only [World.size_alloc, List.nil_append, List.cons_append] at S0
        have C0 := S0.c6 0 rfl
        have C1 := S0.c6 1 rfl
        go_wp2_with fail
        refine (ra_both a b p q r s W0 (ha.ext S0.x) (hb.ext S0.x)).mono ?_; rintro e w1 ⟨rfl, x1⟩
        have S1 := S0.ext x1
        clear x1
        clear C0 C1
        have C0 := S1.c6 0 rfl
        have C1 := S1.c6 1 rfl
        go_wp2_with fail
        refine (nSame a.re b.re p r w1 (ha.re.ext S1.x) (hb.re.ext S1.x)).mono ?_; rintro e w2 ⟨rfl, x2⟩
        rw [HB1.out]
        have S2 := S1.ext x2
        clear x2
        clear C0 C1
        have C0 := S2.c6 0 rfl
        have C1 := S2.c6 1 rfl
        go_wp2_with fail
        refine (nSame a.im b.im q s w2 (ha.im.ext S2.x) (hb.im.ext S2.x)).mono ?_; rintro e w3 ⟨rfl, x3⟩
        rw [HB2.out]
        have S3 := S2.ext x3
        clear x3
        go_wp2_with fail
        rw [HZ.out]
        go_ret
        exact ⟨rfl, S3.below⟩
      · have HB2 := Lib.hid (decide_eq_false h3)
        have HZ := Lib.hid (show gsame a b = false by rw [hs, decide_eq_false h3]; rfl)
        clear h0 h1 h2 h3 hs
        go_enter Tryz.func43, Tryz.ntmps43
        go_upto_region 1 with fail
        go_name_world W0 hW
        have S0 : Sta w w none _ _ W0 := hW ▸ ((Sta.start w).new _ _).new _ _
        clear hW
        simp only [World.size_alloc, List.nil_append, List.cons_append] at S0
        have C0 := S0.c6 0 rfl
        have C1 := S0.c6 1 rfl
        go_wp2_with fail
        refine (ra_both a b p q r s W0 (ha.ext S0.x) (hb.ext S0.x)).mono ?_; rintro e w1 ⟨rfl, x1⟩
        have S1 := S0.ext x1
        clear x1
        clear C0 C1
        have C0 := S1.c6 0 rfl
        have C1 := S1.c6 1 rfl
        go_wp2_with fail
        refine (nSame a.re b.re p r w1 (ha.re.ext S1.x) (hb.re.ext S1.x)).mono ?_; rintro e w2 ⟨rfl, x2⟩
        rw [HB1.out]
        have S2 := S1.ext x2
        clear x2
        clear C0 C1
        have C0 := S2.c6 0 rfl
        have C1 := S2.c6 1 rfl
        go_wp2_with fail
        refine (nSame a.im b.im q s w2 (ha.im.ext S2.x) (hb.im.ext S2.x)).mono ?_; rintro e w3 ⟨rfl, x3⟩
        rw [HB2.out]
        have S3 := S2.ext x3
        clear x3
        go_wp2_with fail
        rw [HZ.out]
        go_ret
        exact ⟨rfl, S3.below⟩
    · have HB1 := Lib.hid (decide_eq_false h2)
      have HZ := Lib.hid (show gsame a b = false by rw [hs, decide_eq_false h2]; rfl)
      clear h0 h1 h2 hs
      go_enter Tryz.func43, Tryz.ntmps43
      go_upto_region 1 with fail
      go_name_world W0 hW
      have S0 : Sta w w none _ _ W0 := hW ▸ ((Sta.start w).new _ _).new _ _
      clear hW
      simp only [World.size_alloc, List.nil_append, List.cons_append] at S0
      have C0 := S0.c6 0 rfl
      have C1 := S0.c6 1 rfl
      go_wp2_with fail
      refine (ra_both a b p q r s W0 (ha.ext S0.x) (hb.ext S0.x)).mono ?_; rintro e w1 ⟨rfl, x1⟩
      have S1 := S0.ext x1
      clear x1
      clear C0 C1
      have C0 := S1.c6 0 rfl
      have C1 := S1.c6 1 rfl
      go_wp2_with fail
      refine (nSame a.re b.re p r w1 (ha.re.ext S1.x) (hb.re.ext S1.x)).mono ?_; rintro e w2 ⟨rfl, x2⟩
      rw [HB1.out]
      have S2 := S1.ext x2
      clear x2
      clear C0 C1
      have C0 := S2.c6 0 rfl
      have C1 := S2.c6 1 rfl
      go_wp2_with fail
      rw [HZ.out]
      go_ret
      exact ⟨rfl, S2.below⟩

set_option maxRecDepth 8000 in
set_option maxHeartbeats 4000000 in
theorem ra_Neg (a : Ga) (p q : Adr) (w : World) (ha : RG w p q a) :
    Calls Tryz.prog 49 #[.agg #[.bool a.re.neg, .slice p.A a.re.num.length p.c, .slice p.B a.re.den.length p.d, .bool a.im.neg, .slice q.A a.im.num.length q.c, .slice q.B a.im.den.length q.d]] w (TG w (gneg a)) := by
  by_cases h0 : gchk a ≠ 0
  · have HZ := Lib.hid (gneg_1 h0)
    have hb : (gchk a != 0) = true := bne_iff_ne.2 h0
    clear h0
    go_enter Tryz.func49, Tryz.ntmps49
    go_upto_region 1 with fail
    go_name_world W0 hW
    have S0 : Sta w w none _ _ W0 := hW ▸ ((Sta.start w).new _ _).new _ _
    clear hW
    simp only [World.size_alloc, List.nil_append, List.cons_append] at S0
    have C0 := S0.c6 0 rfl
    go_wp2_with fail
    refine (ra_Check a p q W0 (ha.ext S0.x)).mono ?_; rintro e w1 ⟨rfl, x1⟩
    have S1 := S0.ext x1
    clear x1
    clear C0
    have Z := S1.c6 1 rfl
    have ZF := S1.f6 1 rfl
    go_wp2_with fail
    rw [HZ.out]
    exact bodyPost_ret (v := .tuple #[.agg #[.bool false, .slice none 0 0, .slice none 0 0, .bool false, .slice none 0 0, .slice none 0 0], .int .i64 (gchk a)]) (by simp [results, Tryz.results49, go_sem, Z]) rfl ⟨Adr.nil, Adr.nil, rfl, OG.nil _ _, (S1.set6 (i := 1) rfl).below⟩
  · have h1 : gchk a = 0 := by simpa using h0
    have HZ := Lib.hid (gneg_2 h1)
    have hb : (gchk a != 0) = false := bne_eq_false_iff_eq.2 h1
    clear h0 h1
    go_enter Tryz.func49, Tryz.ntmps49
    go_upto_region 1 with fail
    go_name_world W0 hW
    have S0 : Sta w w none _ _ W0 := hW ▸ ((Sta.start w).new _ _).new _ _
    clear hW
    simp only [World.size_alloc, List.nil_append, List.cons_append] at S0
    have C0 := S0.c6 0 rfl
    go_wp2_with fail
    refine (ra_Check a p q W0 (ha.ext S0.x)).mono ?_; rintro e w1 ⟨rfl, x1⟩
    have S1 := S0.ext x1
    clear x1
    clear C0
    have C0 := S1.c6 0 rfl
    go_wp2_with fail
    obtain ⟨t1, ht1⟩ : ∃ t, t = fneg a.re := ⟨_, rfl⟩
    have Ht1 := Lib.hid ht1
    clear ht1
    refine (Ht1.out ▸ nNeg a.re p w1 (ha.re.ext S1.x) : Calls _ _ _ _ (TF w1 t1)).mono ?_; rintro e w2 ⟨p1, rfl, o1, x1⟩
    have S2 := S1.call x1 o1
    clear o1 x1
    clear C0
    go_upto_region 5 with fail
    go_name_world W3 hW
    have S3 : Sta w w none _ _ W3 := hW ▸ S2.new _ _
    clear hW
    have C0 := S3.c6 0 rfl
    go_wp2_with fail
    obtain ⟨t2, ht2⟩ : ∃ t, t = fneg a.im := ⟨_, rfl⟩
    have Ht2 := Lib.hid ht2
    clear ht2
    refine (Ht2.out ▸ nNeg a.im q W3 (ha.im.ext S3.x) : Calls _ _ _ _ (TF W3 t2)).mono ?_; rintro e w4 ⟨p2, rfl, o1, x1⟩
    have S4 := S3.call x1 o1
    clear o1 x1
    clear C0
    go_upto_region 6 with fail
    go_name_world W5 hW
    have S5 : Sta w w none _ _ W5 := hW ▸ S4.new _ _
    clear hW
    have C2 := S5.c3 2 rfl
    have C3 := S5.c3 3 rfl
    have Z := S5.c6 1 rfl
    have ZF := S5.f6 1 rfl
    go_wp2_with fail
    rw [HZ.out, ← Ht1.out, ← Ht2.out]
    exact bodyPost_ret (v := .tuple #[.agg #[.bool t1.1.neg, .slice p1.A t1.1.num.length p1.c, .slice p1.B t1.1.den.length p1.d, .bool t2.1.neg, .slice p2.A t2.1.num.length p2.c, .slice p2.B t2.1.den.length p2.d], .int .i64 0]) (by simp [results, Tryz.results49, go_sem, Z]) rfl ⟨p1, p2, rfl, ⟨(S5.set6 (i := 1) rfl).r 0 _ _ rfl, (S5.set6 (i := 1) rfl).r 1 _ _ rfl, S5.rd 0 1 _ _ _ _ (by decide) rfl rfl⟩, (S5.set6 (i := 1) rfl).below⟩

set_option maxRecDepth 8000 in
set_option maxHeartbeats 4000000 in
theorem ra_Conj (a : Ga) (p q : Adr) (wb w : World) (x0 : Below wb.heap.size wb w) (hab : RG wb p q a) :
    Calls Tryz.prog 47 #[.agg #[.bool a.re.neg, .slice p.A a.re.num.length p.c, .slice p.B a.re.den.length p.d, .bool a.im.neg, .slice q.A a.im.num.length q.c, .slice q.B a.im.den.length q.d]] w (ConjP wb w (gconj a)) := by
  have ha : RG w p q a := hab.ext x0
  by_cases h0 : gchk a ≠ 0
  · have HZ := Lib.hid (gconj_1 h0)
    have hb : (gchk a != 0) = true := bne_iff_ne.2 h0
    clear h0
    go_enter Tryz.func47, Tryz.ntmps47
    go_upto_region 1 with fail
    go_name_world W0 hW
    have S0 : Sta w w none _ _ W0 := hW ▸ ((Sta.start w).new _ _).new _ _
    clear hW
    simp only [World.size_alloc, List.nil_append, List.cons_append] at S0
    have C0 := S0.c6 0 rfl
    go_wp2_with fail
    refine (ra_Check a p q W0 (ha.ext S0.x)).mono ?_; rintro e w1 ⟨rfl, x1⟩
    have S1 := S0.ext x1
    clear x1
    clear C0
    have Z := S1.c6 1 rfl
    have ZF := S1.f6 1 rfl
    go_wp2_with fail
    rw [HZ.out]
    exact bodyPost_ret (v := .tuple #[.agg #[.bool false, .slice none 0 0, .slice none 0 0, .bool false, .slice none 0 0, .slice none 0 0], .int .i64 (gchk a)]) (by simp [results, Tryz.results47, go_sem, Z]) rfl ⟨Adr.nil, Adr.nil, rfl, (fun _ _ => RF.nil _), OF.nil _ _, (S1.set6 (i := 1) rfl).below⟩
  · have h1 : gchk a = 0 := by simpa using h0
    have HZ := Lib.hid (gconj_2 h1)
    have hb : (gchk a != 0) = false := bne_eq_false_iff_eq.2 h1
    clear h0 h1
    go_enter Tryz.func47, Tryz.ntmps47
    go_upto_region 1 with fail
    go_name_world W0 hW
    have S0 : Sta w w none _ _ W0 := hW ▸ ((Sta.start w).new _ _).new _ _
    clear hW
    simp only [World.size_alloc, List.nil_append, List.cons_append] at S0
    have C0 := S0.c6 0 rfl
    go_wp2_with fail
    refine (ra_Check a p q W0 (ha.ext S0.x)).mono ?_; rintro e w1 ⟨rfl, x1⟩
    have S1 := S0.ext x1
    clear x1
    clear C0
    have C0 := S1.c6 0 rfl
    go_wp2_with fail
    obtain ⟨t1, ht1⟩ : ∃ t, t = fneg a.im := ⟨_, rfl⟩
    have Ht1 := Lib.hid ht1
    clear ht1
    refine (Ht1.out ▸ nNeg a.im q w1 (ha.im.ext S1.x) : Calls _ _ _ _ (TF w1 t1)).mono ?_; rintro e w2 ⟨p1, rfl, o1, x1⟩
    have S2 := S1.call x1 o1
    clear o1 x1
    clear C0
    go_upto_region 5 with fail
    go_name_world W3 hW
    have S3 : Sta w w none _ _ W3 := hW ▸ S2.new _ _
    clear hW
    have C0 := S3.c6 0 rfl
    have C2 := S3.c3 2 rfl
    have Z := S3.c6 1 rfl
    have ZF := S3.f6 1 rfl
    go_wp2_with fail
    rw [HZ.out, ← Ht1.out]
    exact bodyPost_ret (v := .tuple #[.agg #[.bool a.re.neg, .slice p.A a.re.num.length p.c, .slice p.B a.re.den.length p.d, .bool t1.1.neg, .slice p1.A t1.1.num.length p1.c, .slice p1.B t1.1.den.length p1.d], .int .i64 0]) (by simp [results, Tryz.results47, go_sem, Z]) rfl ⟨p, p1, rfl, (fun _ x => hab.re.ext x), (S3.set6 (i := 1) rfl).r 0 _ _ rfl, (S3.set6 (i := 1) rfl).below⟩

set_option maxRecDepth 8000 in
set_option maxHeartbeats 4000000 in
theorem ra_Int (x y : Int) (w : World) (h0 : -9223372036854775808 ≤ x) (h1 : x ≤ 9223372036854775807) (k0 : -9223372036854775808 ≤ y) (k1 : y ≤ 9223372036854775807) :
    Calls Tryz.prog 53 #[.int .i64 x, .int .i64 y] w (PG w (gint x y)) := by
  have HX := Lib.hid (fun wx => nSmall x 1 wx h0 h1 (by decide) (by decide))
  have HY := Lib.hid (fun wx => nSmall y 1 wx k0 k1 (by decide) (by decide))
  unfold gint
  obtain ⟨t1, ht1⟩ : ∃ t, t = fsmall x 1 := ⟨_, rfl⟩
  obtain ⟨t2, ht2⟩ : ∃ t, t = fsmall y 1 := ⟨_, rfl⟩
  rw [← ht1] at HX ⊢
  rw [← ht2] at HY ⊢
  clear ht1 ht2 h0 h1 k0 k1
  go_enter Tryz.func53, Tryz.ntmps53
  go_upto_region 1 with fail
  go_name_world W0 hW
  have S0 : Sta w w none _ _ W0 := hW ▸ (Sta.start w).new _ _
  clear hW
  simp only [List.nil_append] at S0
  go_wp2_with fail
  refine (HX.out W0).mono ?_; rintro e w1 ⟨p1, rfl, o1, x1⟩
  have S1 := S0.call x1 o1
  clear o1 x1
  go_upto_region 2 with fail
  go_name_world W2 hW
  have S2 : Sta w w none _ _ W2 := hW ▸ S1.new _ _
  clear hW
  go_wp2_with fail
  refine (HY.out W2).mono ?_; rintro e w3 ⟨p2, rfl, o2, x2⟩
  have S3 := S2.call x2 o2
  clear o2 x2
  go_upto_region 3 with fail
  go_name_world W4 hW
  have S4 : Sta w w none _ _ W4 := hW ▸ S3.new _ _
  clear hW
  have C1 := S4.c3 1 rfl
  have C2 := S4.c3 2 rfl
  have Z := S4.c6 0 rfl
  have ZF := S4.f6 0 rfl
  go_wp2_with fail
  exact bodyPost_ret (v := .agg #[.bool t1.1.neg, .slice p1.A t1.1.num.length p1.c, .slice p1.B t1.1.den.length p1.d, .bool t2.1.neg, .slice p2.A t2.1.num.length p2.c, .slice p2.B t2.1.den.length p2.d]) (by simp [results, Tryz.results53, go_sem, Z]) rfl (PG.mk (a := ⟨t1.1, t2.1⟩) (i := 0) (j := 1) (S4.set6 (i := 0) rfl) rfl rfl (by decide))

end Go.Proofs.YtifonmdcicegdaaGreat

