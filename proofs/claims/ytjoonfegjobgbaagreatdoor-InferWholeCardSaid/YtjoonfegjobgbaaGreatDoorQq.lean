/- Texts of this claim, joined: R3 R15 E1 B3 A25 U1 U2. -/
import Derived.RegionTactic
import Derived.ChangeAlike
import Derived.Test.YtjoonfegjobgbaaGreatDoorQp
set_option linter.unusedVariables false
set_option linter.unusedSimpArgs false
set_option maxRecDepth 100000
namespace Go.Proofs.YtjoonfegjobgbaaGreatDoor
open Go Go.RowKit
def fmake (s1 : Bool) (xs : List Int) (s2 : Bool) (ys : List Int) : Fr × Int :=
  if wchk s1 xs ≠ 0 then (Fr.zero, wchk s1 xs) else if wchk s2 ys ≠ 0 then (Fr.zero, wchk s2 ys) else if ys = [] then (Fr.zero, 7)
  else tell (mkRat (sg (s1 != s2) (val xs).toNat) (val ys).toNat)
theorem wchk_ok {s : Bool} {xs : List Int} (hw : Wf xs) (h : wchk s xs = 0) : xs = wd (val xs).toNat ∧ xs.length ≤ 2048 := by
  unfold wchk at h
  by_cases h1 : 2048 < xs.length
  · rw [if_pos h1] at h; omega
  · rw [if_neg h1] at h
    refine ⟨(wd_val hw fun hne => ?_).symm, by omega⟩
    by_cases h2 : xs ≠ [] ∧ nth xs (xs.length - 1) = 0
    · rw [if_pos h2] at h; omega
    · exact fun e => h2 ⟨hne, e⟩
set_option maxHeartbeats 1000000 in
theorem make_any (s1 s2 : Bool) (A B : Option Addr) (xs ys : List Int) (c d : Nat) (w : World) (ha : Rd w A c xs) (hb : Rd w B d ys) (hx : Wf xs) (hy : Wf ys) :
    Calls Tryz.prog 26 #[.agg #[.bool s1, .slice A xs.length c], .agg #[.bool s2, .slice B ys.length d]] w (RatP w (fmake s1 xs s2 ys)) := by
  have HA := Lib.hid ha
  have HB := Lib.hid hb
  have hly := hb.lim
  have HW := fun (wx : World) (hx : Ext w wx) => Lib.hid (wcheck_any s1 A xs c wx (HA.out.ext hx))
  have HW' := fun (wx : World) (hx : Ext w wx) => Lib.hid (wcheck_any s2 B ys d wx (HB.out.ext hx))
  have KW := Lib.hid HW
  have KW' := Lib.hid HW'
  clear HW HW' ha hb
  by_cases h1 : wchk s1 xs = 0
  · by_cases h2 : wchk s2 ys = 0
    · by_cases h3 : ys = []
      · have HT := Lib.hid (show fmake s1 xs s2 ys = (Fr.zero, 7) by unfold fmake; rw [if_neg (by omega), if_neg (by omega), if_pos h3])
        have hb : ((ys.length : Int) == 0) = true := by rw [h3]; rfl
        have H1 := Lib.hid h1
        have H2 := Lib.hid h2
        clear h1 h2 h3
        go_enter Tryz.func26, Tryz.ntmps26
        go_wp2_with fail
        refine (KW.out _ (by repeat (first | exact Ext.refl w | refine Ext.alloc ?_ _))).out.mono ?_; rintro e w1 ⟨rfl, hx1⟩
        rw [H1.out]
        have HX1 := Lib.hid hx1
        obtain ⟨hc1, hf1⟩ := bcell hx1
        have hz1 : w.heap.size + 2 < w1.heap.size := by have := hx1.size; simp at this; omega
        clear hx1
        go_wp2_with fail
        refine (KW'.out _ (((((Ext.refl w).alloc _).alloc _).alloc _).trans HX1.out)).out.mono ?_; rintro e w2 ⟨rfl, hx2⟩
        rw [H2.out]
        have HX2 := Lib.hid (HX1.out.trans hx2)
        clear hc1 hf1 hz1
        obtain ⟨hc, hf⟩ := bcell HX2.out
        have hz2 : w.heap.size + 2 < w2.heap.size := by have := HX2.out.size; simp at this; omega
        have HXw := Lib.hid (((((Ext.refl w).alloc _).alloc _).alloc _).trans HX2.out)
        clear hx2
        go_wp2_with fail
        exact bodyPost_ret (v := .tuple #[.agg #[.bool false, .slice none 0 0, .slice none 0 0], .int .i64 7]) (by simp [results, Tryz.results26, go_sem, hc]) rfl (RatP.nil HT.out rfl (by repeat (first | exact HXw.out | refine Ext.setCell ?_ (by simp; try omega) _)))
      · obtain ⟨ex, lx⟩ := wchk_ok hx h1
        obtain ⟨ey, ly⟩ := wchk_ok hy h2
        have hb : ((ys.length : Int) == 0) = false := beq_eq_false_iff_ne.2 (fun e => h3 (List.eq_nil_of_length_eq_zero (by omega)))
        have hn0 : (val ys).toNat ≠ 0 := fun e => h3 (by rw [ey, e, wd_zero])
        obtain ⟨t, ht⟩ : ∃ t, t = tell (mkRat (sg (s1 != s2) (val xs).toNat) (val ys).toNat) := ⟨_, rfl⟩
        have HT := Lib.hid (show fmake s1 xs s2 ys = t by unfold fmake; rw [if_neg (by omega), if_neg (by omega), if_neg h3, ht])
        have HL := fun (wx : World) (b : Bool) (ha : Rd wx A c xs) (hb : Rd wx B d ys) (hbb : b = (s1 != s2)) => Lib.hid (show Calls Tryz.prog 79 #[.bool b, .slice A xs.length c, .slice B ys.length d] wx (RatP wx t) by
          subst hbb
          rw [ht]
          have := lowest_any (s1 != s2) A B (val xs).toNat (val ys).toNat c d wx (ex ▸ ha) (ey ▸ hb) hn0 (by rw [← ex]; omega) (by rw [← ey]; omega)
          rw [← ex, ← ey] at this
          exact this)
        have HLL := Lib.hid HL
        have H1 := Lib.hid h1
        have H2 := Lib.hid h2
        clear h1 h2 h3 HL ht ex ey lx ly hn0
        go_enter Tryz.func26, Tryz.ntmps26
        go_wp2_with fail
        refine (KW.out _ (by repeat (first | exact Ext.refl w | refine Ext.alloc ?_ _))).out.mono ?_; rintro e w1 ⟨rfl, hx1⟩
        rw [H1.out]
        have HX1 := Lib.hid hx1
        obtain ⟨hc1, hf1⟩ := bcell hx1
        have hz1 : w.heap.size + 2 < w1.heap.size := by have := hx1.size; simp at this; omega
        clear hx1
        go_wp2_with fail
        refine (KW'.out _ (((((Ext.refl w).alloc _).alloc _).alloc _).trans HX1.out)).out.mono ?_; rintro e w2 ⟨rfl, hx2⟩
        rw [H2.out]
        have HX2 := Lib.hid (HX1.out.trans hx2)
        clear hc1 hf1 hz1
        obtain ⟨hc2, hf2⟩ := bcell HX2.out
        have hz2 : w.heap.size + 2 < w2.heap.size := by have := HX2.out.size; simp at this; omega
        have HXw2 := Lib.hid (((((Ext.refl w).alloc _).alloc _).alloc _).trans HX2.out)
        clear hx2
        go_wp2_with fail
        refine (HLL.out _ _ (HA.out.ext HXw2.out) (HB.out.ext HXw2.out) rfl).out.mono ?_; rintro e w3 ⟨A3, c3, B3, d3, rfl, h3, h4, h5, hx3⟩
        have H3 := Lib.hid (h3.lower (show w.heap.size + 3 ≤ w2.heap.size by omega))
        have H4 := Lib.hid (h4.lower (show w.heap.size + 3 ≤ w2.heap.size by omega))
        have HAp := Lib.hid h5
        have HX3 := Lib.hid (HX2.out.trans hx3)
        have HXw := Lib.hid (HXw2.out.trans hx3)
        have hz3 : w.heap.size + 2 < w3.heap.size := by have := hx3.size; omega
        clear h3 h4 h5 hx3 hc2 hf2 hz2
        obtain ⟨hc, hf⟩ := bcell HX3.out
        go_wp2_with fail
        exact bodyPost_ret (v := .tuple #[.agg #[.bool t.1.neg, .slice A3 t.1.num.length c3, .slice B3 t.1.den.length d3], .int .i64 t.2]) (by simp [results, Tryz.results26, go_sem, hc]) rfl (RatP.mk HT.out rfl (by refine Own.lower ?_ (show w.heap.size ≤ w.heap.size + 3 by omega); repeat (first | exact H3.out | refine Own.setBelow ?_ (by simp; try omega) _)) (by refine Own.lower ?_ (show w.heap.size ≤ w.heap.size + 3 by omega); repeat (first | exact H4.out | refine Own.setBelow ?_ (by simp; try omega) _)) HAp.out (by repeat (first | exact HXw.out | refine Ext.setCell ?_ (by simp; try omega) _)))
    · have HT := Lib.hid (show fmake s1 xs s2 ys = (Fr.zero, wchk s2 ys) by unfold fmake; rw [if_neg (by omega), if_pos h2])
      have hne : (wchk s2 ys != 0) = true := bne_iff_ne.2 h2
      have H1 := Lib.hid h1
      clear h1 h2
      go_enter Tryz.func26, Tryz.ntmps26
      go_wp2_with fail
      refine (KW.out _ (by repeat (first | exact Ext.refl w | refine Ext.alloc ?_ _))).out.mono ?_; rintro e w1 ⟨rfl, hx1⟩
      rw [H1.out]
      have HX1 := Lib.hid hx1
      obtain ⟨hc1, hf1⟩ := bcell hx1
      have hz1 : w.heap.size + 2 < w1.heap.size := by have := hx1.size; simp at this; omega
      clear hx1
      go_wp2_with fail
      refine (KW'.out _ (((((Ext.refl w).alloc _).alloc _).alloc _).trans HX1.out)).out.mono ?_; rintro e w2 ⟨rfl, hx2⟩
      have HX2 := Lib.hid (HX1.out.trans hx2)
      clear hc1 hf1 hz1
      obtain ⟨hc, hf⟩ := bcell HX2.out
      have hz2 : w.heap.size + 2 < w2.heap.size := by have := HX2.out.size; simp at this; omega
      have HXw := Lib.hid (((((Ext.refl w).alloc _).alloc _).alloc _).trans HX2.out)
      clear hx2
      go_wp2_with fail
      exact bodyPost_ret (v := .tuple #[.agg #[.bool false, .slice none 0 0, .slice none 0 0], .int .i64 (wchk s2 ys)]) (by simp [results, Tryz.results26, go_sem, hc]) rfl (RatP.nil HT.out rfl (by repeat (first | exact HXw.out | refine Ext.setCell ?_ (by simp; try omega) _)))
  · have HT := Lib.hid (show fmake s1 xs s2 ys = (Fr.zero, wchk s1 xs) from if_pos h1)
    have hne : (wchk s1 xs != 0) = true := bne_iff_ne.2 h1
    clear h1
    go_enter Tryz.func26, Tryz.ntmps26
    go_wp2_with fail
    refine (KW.out _ (by repeat (first | exact Ext.refl w | refine Ext.alloc ?_ _))).out.mono ?_; rintro e w1 ⟨rfl, hx1⟩
    have HXw := Lib.hid (((((Ext.refl w).alloc _).alloc _).alloc _).trans hx1)
    obtain ⟨hc, hf⟩ := bcell hx1
    have hz1 : w.heap.size + 2 < w1.heap.size := by have := hx1.size; simp at this; omega
    clear hx1
    go_wp2_with fail
    exact bodyPost_ret (v := .tuple #[.agg #[.bool false, .slice none 0 0, .slice none 0 0], .int .i64 (wchk s1 xs)]) (by simp [results, Tryz.results26, go_sem, hc]) rfl (RatP.nil HT.out rfl (by repeat (first | exact HXw.out | refine Ext.setCell ?_ (by simp; try omega) _)))
def FlP (w : World) (t : Bool × List Int × Int) (e : Ending) (w' : World) : Prop :=
  ∃ A c, e = .returned (.tuple #[.agg #[.bool t.1, .slice A t.2.1.length c], .int .i64 t.2.2]) ∧ Own w' w.heap.size A c t.2.1 ∧ Ext w w'
set_option maxRecDepth 4000 in
set_option maxHeartbeats 2000000 in
theorem floor_fr_raw (s : Bool) (xs ys : List Int) (A B : Option Addr) (c1 c2 : Nat) (w : World) (ha : Rd w A c1 xs) (hb : Rd w B c2 ys) (wa : (⟨s, xs, ys⟩ : Fr).Wf) :
    Calls Tryz.prog 25 #[.agg #[.bool s, .slice A xs.length c1, .slice B ys.length c2]] w (FlP w (ffloor ⟨s, xs, ys⟩)) := by
  have HCK := Lib.hid (fun wx (h1 : Rd wx A c1 xs) (h2 : Rd wx B c2 ys) => show Calls Tryz.prog 24 #[.agg #[.bool s, .slice A xs.length c1, .slice B ys.length c2]] wx (fun e w' => e = .returned (.int .i64 (fchk ⟨s, xs, ys⟩)) ∧ Ext wx w') from rcheck_fr ⟨s, xs, ys⟩ A B c1 c2 wx h1 h2 wa)
  obtain ⟨a, ea⟩ : ∃ a : Fr, a = ⟨s, xs, ys⟩ := ⟨_, rfl⟩
  rw [← ea] at HCK wa ⊢
  have HA := Lib.hid ha
  have HB := Lib.hid hb
  clear ha hb
  by_cases hk : fchk a ≠ 0
  · have HT := Lib.hid (show ffloor a = (false, [], fchk a) from if_pos hk)
    have hb1 : (fchk a != 0) = true := bne_iff_ne.2 hk
    rw [HT.out]
    clear hk ea
    go_enter Tryz.func25, Tryz.ntmps25
    go_wp2_with fail
    obtain ⟨W, hW⟩ : ∃ W, W = (w.alloc (.cells #[.bool s, .slice A xs.length c1, .slice B ys.length c2] 24)).alloc (.cells #[.bool false, .slice none 0 0] 43) := ⟨_, rfl⟩
    have F0 : Thr W w.heap.size (.bool s) (.slice A xs.length c1) (.slice B ys.length c2) := by rw [hW]; refine ⟨?_, ?_, ?_⟩ <;> simp [go_sem]
    have HX : Hid (Ext w W) := by rw [hW]; exact ((Ext.refl w).alloc _).alloc _
    have HV : Hid (Var (w.heap.size + 1) [.bool false, .slice none 0 0] W) := by
      have h1 := Var.new (w.alloc (.cells #[.bool s, .slice A xs.length c1, .slice B ys.length c2] 24)) [.bool false, .slice none 0 0] 43
      rw [hW]
      unfold Hid
      simpa using h1
    have HZ := Lib.hid (show W.heap.size = w.heap.size + 2 by rw [hW]; simp)
    try rw [← hW]
    clear hW
    refine (HCK.out W (HA.out.ext HX.out) (HB.out.ext HX.out)).mono ?_; rintro e w1 ⟨rfl, hx1⟩
    have F1 := thr_ext hx1 F0
    have HX1 := Lib.hid (HX.out.trans hx1)
    have HV1 := Lib.hid (HV.out.ext hx1)
    have HZ1 := Lib.hid (show w.heap.size + 2 ≤ w1.heap.size by have := hx1.size; have := HZ.out; omega)
    clear hx1 F0 HX HV
    have r0 := HV1.out.at_ 0 _ rfl
    have s0 := HV1.out.fr 0
    have r1 := HV1.out.at_ 1 _ rfl
    have s1 := HV1.out.fr 1
    clear F1
    go_wp2_with fail
    exact bodyPost_ret (v := .tuple #[.agg #[.bool false, .slice none 0 0], .int .i64 (fchk a)]) (by simp [results, Tryz.results25, go_sem, r0, r1]) rfl ⟨none, 0, rfl, Own.nil _ _, (by repeat (first | (with_reducible exact HX1.out) | refine Ext.setCell ?_ (by simp; try omega) _))⟩
  have h0 : fchk a = 0 := by simpa using hk
  have hb1 : (fchk a != 0) = false := bne_eq_false_iff_eq.2 h0
  obtain ⟨q, eq, lq⟩ := fchk_ok wa h0
  have LQ := not_lng lq
  have E1 : xs = wd q.num.natAbs := by have h := congrArg Fr.num (ea.symm.trans eq); exact h
  have E2 : ys = wd q.den := by have h := congrArg Fr.den (ea.symm.trans eq); exact h
  have E5 : s = decide (q.num < 0) := by have h := congrArg Fr.neg (ea.symm.trans eq); exact h
  have HT := Lib.hid (show ffloor a = (s, wd q.floor.natAbs, 0) by unfold ffloor; rw [if_neg (by omega), eq, dec_enc, E5]; rfl)
  rw [HT.out]
  have FP := floor_pos q
  have FN := floor_neg q
  have hden := q.den_nz
  obtain ⟨Q, hQ⟩ : ∃ Q, q.num.natAbs / q.den = Q := ⟨_, rfl⟩
  obtain ⟨R, hR⟩ : ∃ R, q.num.natAbs % q.den = R := ⟨_, rfl⟩
  have HDM := Lib.hid (fun wx (hx : Ext w wx) => by
    have h1 := divMod_any A B q.num.natAbs q.den c1 c2 wx (E1 ▸ HA.out.ext hx) (E2 ▸ HB.out.ext hx) hden (by omega) (by omega)
    rw [← E1, ← E2, hQ, hR] at h1
    exact h1)
  have lQ1 := wd_len_mono (show Q + 1 ≤ q.num.natAbs + 1 by rw [← hQ]; have := Nat.div_le_self q.num.natAbs q.den; omega)
  have lQ2 : R ≠ 0 → (wd (Q + 1)).length ≤ 2048 := fun hR0 => by
    have h1 : Q + 1 ≤ q.num.natAbs := by
      have e1 := Nat.div_add_mod q.num.natAbs q.den
      rw [hQ, hR] at e1
      have e2 : 1 * Q ≤ q.den * Q := Nat.mul_le_mul_right _ (by omega)
      omega
    have := wd_len_mono h1
    omega
  have lQ : (wd Q).length ≤ 2048 := by have := wd_len_mono (show Q ≤ q.num.natAbs by rw [← hQ]; exact Nat.div_le_self _ _); omega
  rw [hQ] at FP FN
  rw [hR] at FN
  obtain ⟨F, hF⟩ : ∃ F, q.floor.natAbs = F := ⟨_, rfl⟩
  rw [hF] at FP FN ⊢
  have hFS : q.floor < 0 → F ≠ 0 := fun h => by omega
  have HFP := Lib.hid (show s = false → F = Q from fun h => (FP (of_decide_eq_false (E5 ▸ h))).1)
  have HFN := Lib.hid (show s = true → (R = 0 → F = Q) ∧ (R ≠ 0 → F = Q + 1) ∧ F ≠ 0 from fun h => ⟨(FN (of_decide_eq_true (E5 ▸ h))).1, (FN (of_decide_eq_true (E5 ▸ h))).2.1, hFS (FN (of_decide_eq_true (E5 ▸ h))).2.2⟩)
  have HRZ := Lib.hid (show R = 0 ↔ (wd R).length = 0 from wd_len_zero.symm)
  have HL2 := Lib.hid lQ2
  clear hk h0 eq E1 E2 E5 ea wa HT FP FN hden hF hFS lQ1 lQ2 LQ lq hQ hR
  go_enter Tryz.func25, Tryz.ntmps25
  go_wp2_with fail
  obtain ⟨W, hW⟩ : ∃ W, W = (w.alloc (.cells #[.bool s, .slice A xs.length c1, .slice B ys.length c2] 24)).alloc (.cells #[.bool false, .slice none 0 0] 43) := ⟨_, rfl⟩
  have F0 : Thr W w.heap.size (.bool s) (.slice A xs.length c1) (.slice B ys.length c2) := by rw [hW]; refine ⟨?_, ?_, ?_⟩ <;> simp [go_sem]
  have HX : Hid (Ext w W) := by rw [hW]; exact ((Ext.refl w).alloc _).alloc _
  have HV : Hid (Var (w.heap.size + 1) [.bool false, .slice none 0 0] W) := by
    have h1 := Var.new (w.alloc (.cells #[.bool s, .slice A xs.length c1, .slice B ys.length c2] 24)) [.bool false, .slice none 0 0] 43
    rw [hW]
    unfold Hid
    simpa using h1
  have HZ := Lib.hid (show W.heap.size = w.heap.size + 2 by rw [hW]; simp)
  try rw [← hW]
  clear hW
  refine (HCK.out W (HA.out.ext HX.out) (HB.out.ext HX.out)).mono ?_; rintro e w1 ⟨rfl, hx1⟩
  have F1 := thr_ext hx1 F0
  have HX1 := Lib.hid (HX.out.trans hx1)
  have HV1 := Lib.hid (HV.out.ext hx1)
  have HZ1 := Lib.hid (show w.heap.size + 2 ≤ w1.heap.size by have := hx1.size; have := HZ.out; omega)
  clear hx1 F0 HX HV
  obtain ⟨u0, u1, u2⟩ := id F1
  go_wp2_with fail
  refine (HDM.out _ HX1.out).mono ?_; rintro e w2 ⟨A5, c5, B5, d5, rfl, o1, o2, ap, hx⟩
  have hzz := HZ1.out
  have O1 := Lib.hid (o1.lower (show w.heap.size + 2 ≤ w1.heap.size by omega))
  have F2 := thr_ext hx F1
  have HX2 := Lib.hid (HX1.out.trans hx)
  have HV2 := Lib.hid (HV1.out.ext hx)
  have hz2 := hx.size
  clear o1 o2 ap hx u0 u1 u2 F1 HV1
  obtain ⟨u0, u1, u2⟩ := id F2
  cases s with
  | false =>
    have HEF := Lib.hid (HFP.out rfl)
    have r0 := HV2.out.at_ 0 _ rfl
    have s0 := HV2.out.fr 0
    have r1 := HV2.out.at_ 1 _ rfl
    have s1 := HV2.out.fr 1
    go_wp2_with fail
    exact bodyPost_ret (v := .tuple #[.agg #[.bool false, .slice A5 (wd Q).length c5], .int .i64 0]) (by simp [results, Tryz.results25, go_sem, r0, r1]) rfl ⟨A5, c5, by rw [HEF.out], by rw [HEF.out]; exact (by refine Own.lower ?_ (show w.heap.size ≤ w.heap.size + 2 by omega); repeat (first | (with_reducible exact O1.out) | refine Own.setBelow ?_ (by simp; try omega) _)), (by repeat (first | (with_reducible exact HX2.out) | refine Ext.setCell ?_ (by simp; try omega) _))⟩
  | true =>
    obtain ⟨g1, g2, g3⟩ := HFN.out rfl
    by_cases hr : R = 0
    · have HEF := Lib.hid (g1 hr)
      have hrl : ¬ (0 < (wd R).length) := by have := HRZ.out.1 hr; omega
      have hql : 0 < (wd Q).length := by have h1 := HEF.out; have h2 := @wd_len_zero Q; omega
      clear g1 g2 g3 hr
      have r0 := HV2.out.at_ 0 _ rfl
      have s0 := HV2.out.fr 0
      have r1 := HV2.out.at_ 1 _ rfl
      have s1 := HV2.out.fr 1
      go_wp2_with fail
      exact bodyPost_ret (v := .tuple #[.agg #[.bool true, .slice A5 (wd Q).length c5], .int .i64 0]) (by simp [results, Tryz.results25, go_sem, r0, r1]) rfl ⟨A5, c5, by rw [HEF.out], by rw [HEF.out]; exact (by refine Own.lower ?_ (show w.heap.size ≤ w.heap.size + 2 by omega); repeat (first | (with_reducible exact O1.out) | refine Own.setBelow ?_ (by simp; try omega) _)), (by repeat (first | (with_reducible exact HX2.out) | refine Ext.setCell ?_ (by simp; try omega) _))⟩
    · have HEF := Lib.hid (g2 hr)
      have hrl : 0 < (wd R).length := by have h1 := mt HRZ.out.2 hr; omega
      have hql : 0 < (wd (Q + 1)).length := by have h2 := @wd_len_zero (Q + 1); omega
      have hl2 := HL2.out hr
      clear g1 g2 g3 hr
      have HAD := Lib.hid (fun (wx : World) (h1 : Rd wx A5 c5 (wd Q)) (b : Nat) (hb : Rd wx (some ⟨b, 0, none⟩) 1 [1]) => by
        have h := add_any A5 (some ⟨b, 0, none⟩) Q 1 c5 1 wx h1 (by rw [wd_one]; exact hb) (by omega) (by rw [wd_one]; decide)
        rw [show (wd 1).length = 1 by rw [wd_one]; rfl] at h
        exact h)
      go_wp2_with fail
      refine (HAD.out _ (O1.out.rd.ext ((Ext.refl _).alloc _)) _ (Own.lit w2 _ [1] rfl (by decide)).rd).mono ?_; rintro e w3 ⟨A6, c6, rfl, o1, hx⟩
      have O3 := Lib.hid (o1.lower (show w.heap.size + 2 ≤ (w2.alloc (.cells #[.int .u32 1] 46)).heap.size by simp; omega))
      have HXa := Lib.hid (((Ext.refl w2).alloc (.cells #[.int .u32 1] 46)).trans hx)
      clear o1 hx u0 u1 u2
      have HX3 := Lib.hid (HX2.out.trans HXa.out)
      have HV3 := Lib.hid (HV2.out.ext HXa.out)
      obtain ⟨u0, u1, u2⟩ := thr_ext HXa.out F2
      have r0 := HV3.out.at_ 0 _ rfl
      have s0 := HV3.out.fr 0
      have r1 := HV3.out.at_ 1 _ rfl
      have s1 := HV3.out.fr 1
      go_wp2_with fail
      exact bodyPost_ret (v := .tuple #[.agg #[.bool true, .slice A6 (wd (Q + 1)).length c6], .int .i64 0]) (by simp [results, Tryz.results25, go_sem, r0, r1]) rfl ⟨A6, c6, by rw [HEF.out], by rw [HEF.out]; exact (by refine Own.lower ?_ (show w.heap.size ≤ w.heap.size + 2 by omega); repeat (first | (with_reducible exact O3.out) | refine Own.setBelow ?_ (by simp; try omega) _)), (by repeat (first | (with_reducible exact HX3.out) | refine Ext.setCell ?_ (by simp; try omega) _))⟩
theorem floor_fr (a : Fr) (A B : Option Addr) (c1 c2 : Nat) (w : World) (ha : Rd w A c1 a.num) (hb : Rd w B c2 a.den) (wa : a.Wf) :
    Calls Tryz.prog 25 #[.agg #[.bool a.neg, .slice A a.num.length c1, .slice B a.den.length c2]] w (FlP w (ffloor a)) :=
  floor_fr_raw a.neg a.num a.den A B c1 c2 w ha hb wa
def sp_aCmp : Spec := { q := .un, ps := [tW32, tW32], rs := [.it .i64], fresh := true, pre := fun _ x => some (nrm x.1 ∧ nrm x.2.1), post := fun _ x => ((), (cmp (toN x.1) (toN x.2.1), ())) }
theorem fo_aCmp : FnOk Tryz.prog 84 sp_aCmp := by
  refine ⟨callFunc_enter Tryz.func84 (by kernel_rfl) rfl, fun Z w gv vs y x hZ hv hp _ _ => ?_⟩
  obtain ⟨xs, ys, u⟩ := x
  match vs, hv with
  | [u, v], ⟨h1, h2, _⟩ =>
    obtain ⟨p1, p2⟩ : nrm xs ∧ nrm ys := hp
    obtain ⟨m, rfl⟩ := nrm_ex p1
    obtain ⟨n, rfl⟩ := nrm_ex p2
    obtain ⟨A, c, rfl, k1, _⟩ := rv_wd h1
    obtain ⟨B, d, rfl, k2, _⟩ := rv_wd h2
    refine (compare_any A B m n c d w k1 k2).mono fun e w' ⟨e1, e2⟩ => ?_
    subst e1
    refine told_new (S := sp_aCmp) (r := (cmp (toN (wd m)) (toN (wd n)), ())) (us := [_]) (bs := []) rfl rfl (.inl ⟨_, rfl, rfl⟩) hZ ⟨[], [], rfl, ⟨?_, rfl⟩, rfl⟩ List.nodup_nil (fun g hg => by simp at hg) e2
    rw [RT, toN_wd, toN_wd]
    have := cmp_rng m n
    exact ⟨rfl, Int.le_trans (by decide) this.1, Int.le_trans this.2 (by decide)⟩
theorem told_WE {gv : Nat} {S : Spec} {Z : Nat → Prop} {w w' : World} {n : Nat} {e : Int} {A : Option Addr} {c : Nat} (hS : S.ptr = false) (hf : S.fresh = true) (hrs : S.rs = [tW32, .it .i64]) (he : Er e) (h1 : Own w' w.heap.size A c (wd n)) (h2 : Ext w w') (hZ : ∀ g, Z g → g < w.heap.size) {q : El S.q} {r : Els S.rs} (hr : r = hrs ▸ ((wd n, e, ()) : Els [tW32, .it .i64])) :
    ∃ v us bs Z', Ending.returned (.tuple #[.slice A (wd n).length c, .int .i64 e]) = .returned v ∧ told_ us v ∧ RQs S.fresh Z' w' w.heap.size S.rs r us bs ∧ bs.Nodup ∧ (∀ g ∈ bs, ¬ Z' g) ∧
      (∀ g, Z g → Z' g) ∧ (∀ g, Z' g → Z g ∨ w.heap.size ≤ g) ∧ (∀ g, Z' g → g < w'.heap.size) ∧ w.grownBy w' (if S.ptr = true then some gv else none) ∧
      (S.ptr = true → ∃ cells et, w'.heap[gv]? = some (.cells cells et (0, 0)) ∧ RT Z' w' S.q q cells.toList) := by
  refine told_new (us := [.slice A (wd n).length c, .int .i64 e]) (bs := blkA A) hS hf (.inr ⟨by simp, rfl⟩) hZ ?_ (blkA1_nodup A) (blkA1_base h1) h2
  obtain ⟨qq, ps, rs, fresh, pre, post⟩ := S
  cases hrs
  subst hr
  exact ⟨_, [], (List.append_nil _).symm, rq_own h1 (wf_wd n), [], [], rfl, rq_err (base := w.heap.size) he, rfl⟩
def sp_aGcd : Spec := { q := .un, ps := [tW32, tW32], rs := [tW32, .it .i64], fresh := true, pre := fun _ x => some (nrm x.1 ∧ nrm x.2.1 ∧ x.1.length ≤ 8192 ∧ x.2.1.length ≤ 8192), post := fun _ x => ((), (wd (Nat.gcd (toN x.1) (toN x.2.1)), 0, ())) }
theorem fo_aGcd : FnOk Tryz.prog 87 sp_aGcd := by
  refine ⟨callFunc_enter Tryz.func87 (by kernel_rfl) rfl, fun Z w gv vs y x hZ hv hp _ _ => ?_⟩
  obtain ⟨xs, ys, u⟩ := x
  match vs, hv with
  | [u, v], ⟨h1, h2, _⟩ =>
    obtain ⟨p1, p2, p3, p4⟩ : nrm xs ∧ nrm ys ∧ xs.length ≤ 8192 ∧ ys.length ≤ 8192 := hp
    obtain ⟨m, rfl⟩ := nrm_ex p1
    obtain ⟨n, rfl⟩ := nrm_ex p2
    obtain ⟨A, c, rfl, k1, _⟩ := rv_wd h1
    obtain ⟨B, d, rfl, k2, _⟩ := rv_wd h2
    refine (gcd_any A B m n c d w k1 k2 p3 p4).mono fun e w' ⟨A', c', e1, e2, e3⟩ => ?_
    subst e1
    exact told_WE (S := sp_aGcd) rfl rfl rfl Er.zero e2 e3 hZ (by show ((wd (Nat.gcd (toN (wd m)) (toN (wd n))), (0 : Int), ()) : Els [tW32, .it .i64]) = _; rw [toN_wd, toN_wd])
theorem fsign_rng (a : Fr) : -1 ≤ fsign a ∧ fsign a ≤ 1 := by
  unfold fsign
  repeat' split
  all_goals constructor <;> decide
def sp_rSgn : Spec := { q := .un, ps := [tR], rs := [.it .i64], fresh := true, pre := fun _ _ => none, post := fun _ x => ((), (fsign (toFr x.1), ())) }
theorem fo_rSgn : FnOk Tryz.prog 20 sp_rSgn := by
  refine ⟨callFunc_enter Tryz.func20 (by kernel_rfl) rfl, fun Z w gv vs y x hZ hv hp _ _ => ?_⟩
  match vs, hv with
  | [u], ⟨h1, _⟩ =>
    obtain ⟨p, rfl, k1⟩ := rv_fr h1
    refine (sign_fr (toFr x.1) p.A p.B _ _ w k1.num k1.den k1.wf).mono fun e w' ⟨e1, e2⟩ => ?_
    subst e1
    exact told_new (S := sp_rSgn) (r := (fsign (toFr x.1), ())) (us := [_]) (bs := []) rfl rfl (.inl ⟨_, rfl, rfl⟩) hZ ⟨[], [], rfl, rq_i64 (base := w.heap.size) (fsign_rng _), rfl⟩ List.nodup_nil (fun g hg => by simp at hg) e2
theorem rq_whole {Z : Nat → Prop} {w : World} {base : Nat} {A : Option Addr} {c : Nat} {b : Bool} {xs : List Int} (h : Own w base A c xs) (hw : Wf xs) : RQ true Z w base tWhole (b, xs, ()) [.bool b, .slice A xs.length c] (blkA A) :=
  ⟨[_], [_], [], _, rfl, rfl, ⟨by rw [RT], rfl⟩, [_], [], _, [], rfl, (List.append_nil _).symm, rq_own h hw, rfl, rfl⟩
def flR (t : Bool × List Int × Int) : El .un × Els [tWhole, .it .i64] := ((), ((t.1, t.2.1, ()), t.2.2, ()))
def sp_rFloor : Spec := { q := .un, ps := [tR], rs := [tWhole, .it .i64], fresh := true, pre := fun _ _ => none, post := fun _ x => flR (ffloor (toFr x.1)) }
theorem er_floor (a : Fr) : Er (ffloor a).2.2 ∧ Wf (ffloor a).2.1 := by
  unfold ffloor
  split
  · exact ⟨er_fchk a, wf_nil⟩
  · exact ⟨Er.zero, wf_wd _⟩
theorem fo_rFloor : FnOk Tryz.prog 25 sp_rFloor := by
  refine ⟨callFunc_enter Tryz.func25 (by kernel_rfl) rfl, fun Z w gv vs y x hZ hv hp _ _ => ?_⟩
  match vs, hv with
  | [u], ⟨h1, _⟩ =>
    obtain ⟨p, rfl, k1⟩ := rv_fr h1
    refine (floor_fr (toFr x.1) p.A p.B _ _ w k1.num k1.den k1.wf).mono fun e w' ⟨A, c, e1, e2, e3⟩ => ?_
    subst e1
    exact told_new (S := sp_rFloor) (r := (flR (ffloor (toFr x.1))).2) (us := [.agg #[.bool (ffloor (toFr x.1)).1, .slice A (ffloor (toFr x.1)).2.1.length c], .int .i64 (ffloor (toFr x.1)).2.2]) (bs := blkA A) rfl rfl (.inr ⟨by simp, rfl⟩) hZ ⟨_, [], (List.append_nil _).symm, ⟨_, rfl, rq_whole e2 (er_floor _).2⟩, [], [], rfl, rq_err (base := w.heap.size) (er_floor _).1, rfl⟩ (blkA1_nodup A) (blkA1_base e2) e3
theorem rv_whole {Z : Nat → Prop} {w : World} {x : El tWhole} {v : Value} (h : RV Z w tWhole x v) : ∃ A c, v = .agg #[.bool x.1, .slice A x.2.1.length c] ∧ Rd w A c x.2.1 ∧ Wf x.2.1 := by
  unfold RV at h
  rw [if_pos (show tWhole.agg = true from rfl)] at h
  obtain ⟨us, rfl, h⟩ := h
  obtain ⟨u1, u2, e, h1, h2⟩ := h.pr_
  obtain ⟨u3, u4, e2, h3, h4⟩ := h2.pr_
  obtain ⟨A, c, e3, k1, k2⟩ := rd_of h3
  have e4 := h1.bo_
  have e5 := h4.un_
  subst e2 e3 e4 e5
  refine ⟨A, c, ?_, k1, k2⟩
  rw [show us = us.toList.toArray by simp, e]
  rfl
def sp_rMake : Spec := { q := .un, ps := [tWhole, tWhole], rs := [tR, .it .i64], fresh := true, pre := fun _ _ => none, post := fun _ x => pR (fmake x.1.1 x.1.2.1 x.2.1.1 x.2.1.2.1) }
theorem er_wchk (s : Bool) (xs : List Int) : Er (wchk s xs) := by
  unfold wchk
  repeat' split
  all_goals exact ⟨by decide, by decide⟩
theorem er_fmake (s : Bool) (xs : List Int) (t : Bool) (ys : List Int) : Er (fmake s xs t ys).2 := by
  unfold fmake
  split
  · exact er_wchk s xs
  · split
    · exact er_wchk t ys
    · split
      · exact ⟨by decide, by decide⟩
      · exact er_tell _
theorem fmake_wf (s : Bool) (xs : List Int) (t : Bool) (ys : List Int) : (fmake s xs t ys).1.Wf := by
  unfold fmake
  split
  · exact Fr.zero_wf
  · split
    · exact Fr.zero_wf
    · split
      · exact Fr.zero_wf
      · exact (tell_good _).wf
theorem fo_rMake : FnOk Tryz.prog 26 sp_rMake := by
  refine ⟨callFunc_enter Tryz.func26 (by kernel_rfl) rfl, fun Z w gv vs y x hZ hv _ _ _ => ?_⟩
  match vs, hv with
  | [u, v], ⟨h1, h2, _⟩ =>
    obtain ⟨A, c, rfl, k1, k2⟩ := rv_whole h1
    obtain ⟨B, d, rfl, l1, l2⟩ := rv_whole h2
    exact (make_any _ _ A B _ _ c d w k1 l1 k2 l2).mono fun e w' ht => told_TF (S := sp_rMake) rfl rfl rfl (er_fmake _ _ _ _) (ht.tf (fmake_wf _ _ _ _)) hZ rfl
def chks (e : Int) (l : List (El tR)) : Int := l.foldl (fun e r => if e ≠ 0 then e else fchk (toFr r)) e
theorem chks_succ (e : Int) (l : List (El tR)) (i : Nat) (h : i < l.length) : chks e (l.take (i + 1)) = if chks e (l.take i) ≠ 0 then chks e (l.take i) else fchk (toFr (l.getD i (dfl tR))) := by
  unfold chks
  rw [List.take_add_one, List.getElem?_eq_getElem h, Option.toList_some, List.foldl_append, List.getD_eq_getElem?_getD, List.getElem?_eq_getElem h]
  rfl
noncomputable def sp_wcheck : Spec := { q := tW, ps := [.sl tR], rs := [], fresh := true, pre := fun _ _ => none, post := fun y x => ((chks y.1 x.1, ()), ()) }
noncomputable def iv_wcheck (y : El sp_wcheck.q) (x : Els sp_wcheck.ps) : Nat → Option Inv := fun k => if k = 0 then some { X := Nat, tm := fun i => [(0, .c (.pv 0 0)), (6, .c (.sl tR x.1)), (7, .c (.sc (.int .i64 x.1.length))), (8, .c (.sc (.int .i64 i)))], ob := fun i => [(0, .var [.sc (.int .i64 (chks y.1 (x.1.take i)))])], n := 1, I := fun i => i ≤ x.1.length, μ := fun i => x.1.length - i } else none
noncomputable abbrev c_wcheck : Cfg := cfgS (Tryz.f144).ntmps true [(24, sp_rCheck.prim)]
theorem w_wcheck (y : El sp_wcheck.q) (x : Els sp_wcheck.ps) : aW c_wcheck (iv_wcheck y x) Tryz.f144 sp_wcheck y x =
  ((∃ (x_1 : Nat), x.1 = x.1 ∧ (x.1.length : Int) = (x.1.length : Int) ∧ (↑x_1 : Int) = (0 : Int) ∧ chks y.1 (List.take x_1 x.1) = y.1 ∧ x_1.le (List.length x.1)) ∧ ∀ (x_1 : Nat), x_1.le (List.length x.1) → (decide ((↑x_1 : Int) < (x.1.length : Int)) = true → ((0 : Int) ≤ (↑x_1 : Int) ∧ (↑x_1 : Int) < (x.1.length : Int)) ∧ ((chks y.1 (List.take x_1 x.1) == (0 : Int)) = true → ∀ (r : Ro [Ty.it IntKind.i64]), r = ((), fchk (toFr (List.getD x.1 (↑x_1 : Int).toNat (dfl tR))), ()) → ((-9223372036854775808 : Int) ≤ (↑x_1 : Int) + (1 : Int) ∧ (↑x_1 : Int) + (1 : Int) ≤ (9223372036854775807 : Int)) ∧ ∃ (x' : Nat), x.1 = x.1 ∧ (x.1.length : Int) = (x.1.length : Int) ∧ (↑x' : Int) = (↑x_1 : Int) + (1 : Int) ∧ chks y.1 (List.take x' x.1) = r.2.1 ∧ x'.le (List.length x.1) ∧ List.length x.1 - x' < List.length x.1 - x_1) ∧ ((chks y.1 (List.take x_1 x.1) == (0 : Int)) = false → ((-9223372036854775808 : Int) ≤ (↑x_1 : Int) + (1 : Int) ∧ (↑x_1 : Int) + (1 : Int) ≤ (9223372036854775807 : Int)) ∧ ∃ (x' : Nat), x.1 = x.1 ∧ (x.1.length : Int) = (x.1.length : Int) ∧ (↑x' : Int) = (↑x_1 : Int) + (1 : Int) ∧ chks y.1 (List.take x' x.1) = chks y.1 (List.take x_1 x.1) ∧ x'.le (List.length x.1) ∧ List.length x.1 - x' < List.length x.1 - x_1)) ∧ (decide ((↑x_1 : Int) < (x.1.length : Int)) = false → ((chks y.1 (List.take x_1 x.1), ()), ()) = ((chks y.1 x.1, ()), ()))) := by kernel_rfl
theorem fo_wcheck : FnOk Tryz.prog 144 sp_wcheck := fnOk_of (C := c_wcheck) iv_wcheck Tryz.func144 rfl (by kernel_rfl) tys_ok (prims_cons (spec_prim fo_rCheck) prims_nil) mixed_ (Nat.le_refl _) rfl fun y x h1 h2 h3 h4 => by
  refine Eq.mpr (w_wcheck y x) ?_
  have hl : x.1.length ≤ 9223372036854775807 := h3.1.1
  refine ⟨⟨0, rfl, rfl, rfl, rfl, Nat.zero_le _⟩, fun i hi => ⟨fun h => ?_, fun h => ?_⟩⟩
  · have h := of_decide_eq_true h
    have hi' : i < x.1.length := by omega
    refine ⟨⟨by omega, h⟩, fun hz r hr => ⟨by omega, i + 1, rfl, rfl, rfl, ?_, hi', by omega⟩, fun hz => ⟨by omega, i + 1, rfl, rfl, rfl, ?_, hi', by omega⟩⟩
    · rw [chks_succ _ _ _ hi', hr, if_neg (by simpa using hz)]; rfl
    · rw [chks_succ _ _ _ hi', if_pos (by simpa using hz)]
  · have h := of_decide_eq_false h
    rw [List.take_of_length_le (by omega)]
def mvC (b : Bool) (O : Store) : Ce → Nat → Option (Ce × OB × Nat)
  | .ow j, n => match O j with
    | some (.ty e t l 0) => some (.ow n, [(n, .ty e t (bif b then [] else l) 0), (j, .dead)], n + 1)
    | _ => none
  | .nl, n => some (.nl, [], n)
  | .tt, n => some (.sc (.bool (!b)), [], n)
  | .ff, n => some (.ff, [], n)
  | .sc (.bool x), n => some (.sc (.bool (bif b then false else x)), [], n)
  | _, _ => none
def mvCs (b : Bool) (O : Store) : List Ce → Nat → Option (List Ce × OB × Nat)
  | [], n => some ([], [], n)
  | x :: xs, n => match mvC b O x n with
    | some (y, ob, m) => match mvCs b (upO O ob) xs m with
      | some (ys, ob', k) => some (y :: ys, ob' ++ ob, k)
      | none => none
    | none => none
def zV : Value → Value
  | .bool _ => .bool false
  | _ => .slice none 0 0
section
variable {P : Program} {C : Cfg} {gp : Option Nat} {Z0 Z Z' : Nat → Prop} {w0 : Base} {w w' : World} {D D' : Nat → Prop} {c c' : Cf} {T : Nat → Option AV} {O O' : Store} {a : Act} {o : Oper} {N : Nat}
theorem Sim.move1 (S : Sim gp Z0 w0 N D c T O a.tmps w) {i j e : Nat} {t : Ty} {l : List (El t)} (b : Bool) (hi : ¬ D i) (hj : O j = some (.ty e t l 0)) :
    ∃ c', c.Le c' ∧ Sim gp Z0 w0 N (fun k => D k ∨ k = i) c' T (upO O [(i, .ty e t (bif b then [] else l) 0), (j, .dead)]) a.tmps w ∧ ∀ v, RC c w v (.ow j) → RC c' w (bif b then .slice none 0 0 else v) (.ow i) := by
  obtain ⟨en, k1, k0, k2, k3⟩ := S.obj j _ hj
  have k2 : en.ln = l.length := k2
  have hij : i ≠ j := fun h => hi (by rw [h]; exact S.dom j _ k1)
  have hci : c.m i = none := by
    cases h : c.m i with
    | none => rfl
    | some f => exact absurd (S.dom i f h) hi
  let f : Ent := bif b then ⟨none, 0, 0, []⟩ else en
  have le := Cf.add_le (e := f) hci
  have at_ := Cf.add_at c i f
  have lk : ∀ k o, look [(i, Ob.ty e t (bif b then [] else l) 0), (j, .dead)] k = some o → (k = i ∧ o = .ty e t (bif b then [] else l) 0) ∨ (k = j ∧ o = .dead) := fun k o h => by
    have h' : look ([(i, Ob.ty e t (bif b then [] else l) 0)] ++ [(j, .dead)]) k = some o := h
    rw [look_append, look_one, look_one] at h'
    by_cases h1 : k = i
    · rw [if_pos h1] at h'; cases h'; exact .inl ⟨h1, rfl⟩
    · rw [if_neg h1] at h'
      by_cases h2 : k = j
      · rw [if_pos h2] at h'; cases h'; exact .inr ⟨h2, rfl⟩
      · rw [if_neg h2] at h'; cases h'
  have hdead : look [(i, Ob.ty e t (bif b then [] else l) 0), (j, .dead)] j = some .dead := by
    show look ([(i, Ob.ty e t (bif b then [] else l) 0)] ++ [(j, .dead)]) j = _
    rw [look_append, look_one, look_one, if_neg (Ne.symm hij), if_pos rfl]
  refine ⟨c.add i f, le, ?_, fun v hv => ?_⟩
  · have := S.step (d := none) (v := .bool true) (av := .c .tt) (ob := [(i, .ty e t (bif b then [] else l) 0), (j, .dead)]) (c' := c.add i f) (w' := w) (D' := fun k => D k ∨ k = i) rfl le (Stay.refl _ _) rfl (fun _ _ _ _ _ _ _ _ _ => rfl) (fun k o h => ?_) (fun k o e' g h hl he hg => ?_) (fun k m o p e' f' g h1 h2 h3 h4 h5 => ?_) (fun g hg => ⟨S.zl g hg, S.zz g hg, fun k o e' h1 _ h3 h4 h5 => S.zo k o e' g h1 h3 h4 h5 hg⟩) (fun k e' h => ?_) S.gr (fun k cs o h1 h2 => ?_)
    · exact this
    · rcases lk k o h with ⟨rfl, rfl⟩ | ⟨rfl, rfl⟩
      · refine ⟨f, at_, ?_⟩
        cases b with
        | true => exact ⟨rfl, rfl, .inl ⟨rfl, rfl, rfl, rfl⟩⟩
        | false =>
          exact ⟨k0, k2, k3⟩
      · trivial
    · rcases lk k o h with ⟨rfl, rfl⟩ | ⟨rfl, rfl⟩
      · rw [at_] at he
        cases he
        cases b with
        | true => rw [Ent.has_one rfl] at hg; cases hg
        | false => exact ⟨.inl ⟨j, _, en, hj, rfl, k1, hg, by rw [hdead]; rfl⟩, S.zo j _ en g hj rfl k1 hg⟩
      · cases hl
    · rcases lk k o h1 with ⟨rfl, rfl⟩ | ⟨rfl, rfl⟩
      · rcases lk m p h2 with ⟨rfl, rfl⟩ | ⟨rfl, rfl⟩
        · exact absurd rfl h5
        · cases h4
      · cases h3
    · by_cases hk : k = i
      · exact .inr hk
      · left
        have h' : (if k = i then some f else c.m k) = some e' := h
        rw [if_neg hk] at h'
        exact S.dom k e' h'
    · rcases lk k o h2 with ⟨rfl, rfl⟩ | ⟨rfl, rfl⟩
      · obtain ⟨e', _, _, _, y, _⟩ := S.obj k _ h1
        rw [hci] at y; cases y
      · rw [hj] at h1; cases h1
  · obtain ⟨e', q1, q2⟩ := hv
    rw [k1] at q1
    cases q1
    refine ⟨f, at_, ?_⟩
    cases b with
    | true => rfl
    | false => exact q2
theorem mvC_le {b : Bool} {O : Store} {x y : Ce} {n m : Nat} {ob : OB} (h : mvC b O x n = some (y, ob, m)) : n ≤ m := by
  unfold mvC at h
  split at h
  · split at h <;> cases h
    exact Nat.le_succ _
  all_goals first | (cases h; done) | (cases h; exact Nat.le_refl _)
theorem mvCs_le {b : Bool} : ∀ {cs : List Ce} {O : Store} {ys : List Ce} {n m : Nat} {ob : OB}, mvCs b O cs n = some (ys, ob, m) → n ≤ m
  | [], _, _, _, _, _, h => by cases h; exact Nat.le_refl _
  | x :: xs, O, ys, n, m, ob, h => by
    unfold mvCs at h
    split at h
    · rename_i h1
      split at h
      · rename_i h2
        cases h
        exact Nat.le_trans (mvC_le h1) (mvCs_le h2)
      · cases h
    · cases h
theorem mvCs_sound {b : Bool} : ∀ {cs : List Ce} {vs : List Value} {n : Nat} {D : Nat → Prop} {c : Cf} {O O' : Store} {ys : List Ce} {ob : OB} {m : Nat}, Sim gp Z0 w0 N D c T O a.tmps w → (∀ i o, O' i = some o → O i = some o) → mvCs b O' cs n = some (ys, ob, m) → (∀ k, n ≤ k → k < m → ¬ D k) → RL c w vs cs →
    n ≤ m ∧ ∃ c', c.Le c' ∧ Sim gp Z0 w0 N (fun k => D k ∨ (n ≤ k ∧ k < m)) c' T (upO O ob) a.tmps w ∧ RL c' w (bif b then vs.map zV else vs) ys
  | [], vs, n, D, c, O, O', ys, ob, m, S, hO, h, hD, hv => by
    cases h
    refine ⟨Nat.le_refl _, c, Cf.Le.refl c, ?_, ?_⟩
    · have : (fun k => D k ∨ (n ≤ k ∧ k < n)) = D := by funext k; exact propext ⟨fun h => h.elim id (fun h => by omega), .inl⟩
      rw [this]; exact S
    · match vs, hv.1 with
      | [], _ => cases b <;> exact RL.nil
  | x :: xs, vs, n, D, c, O, O', ys, ob, m, S, hO, h, hD, hv => by
    unfold mvCs at h
    split at h
    · rename_i y ob1 m1 h1
      split at h
      · rename_i ys' ob2 k h2
        cases h
        match vs, hv.1 with
        | v :: vs, hl =>
          have hv1 : RC c w v x := hv.2 0 v x rfl rfl
          have hv2 : RL c w vs xs := ⟨by simpa using hl, fun i u z e1 e2 => hv.2 (i + 1) u z (by simpa using e1) (by simpa using e2)⟩
          have step : ∀ {c1 : Cf} {D1 : Nat → Prop}, c.Le c1 → Sim gp Z0 w0 N D1 c1 T (upO O ob1) a.tmps w → (∀ k', D1 k' → D k' ∨ (n ≤ k' ∧ k' < m1)) → (∀ k', D k' ∨ (n ≤ k' ∧ k' < m1) → D1 k') → n ≤ m1 → RC c1 w (bif b then zV v else v) y →
              n ≤ m ∧ ∃ c', c.Le c' ∧ Sim gp Z0 w0 N (fun k => D k ∨ (n ≤ k ∧ k < m)) c' T (upO O (ob2 ++ ob1)) a.tmps w ∧ RL c' w (bif b then (v :: vs).map zV else v :: vs) (y :: ys') := fun {c1 D1} le1 S1 hd1 hd2 hnm hy => by
            obtain ⟨q0, c2, q1, q2, q3⟩ := mvCs_sound (O' := upO O' ob1) S1 (fun i o h => by
              unfold upO at h ⊢
              split at h
              · exact h
              · exact hO i o h) h2 (fun k' hk1 hk2 hk3 => by
                rcases hd1 k' hk3 with h | h
                · exact hD k' (by omega) hk2 h
                · omega) (hv2.mono le1 (Stay.refl _ _))
            refine ⟨by omega, c2, le1.trans q1, ?_, ?_⟩
            · rw [upO_upO] at q2
              have e : (fun k' => D1 k' ∨ (m1 ≤ k' ∧ k' < m)) = (fun k' => D k' ∨ (n ≤ k' ∧ k' < m)) := by
                funext k'
                refine propext ⟨fun h => ?_, fun h => ?_⟩
                · rcases h with h | h
                  · rcases hd1 k' h with h | h
                    · exact .inl h
                    · exact .inr (by omega)
                  · exact .inr (by omega)
                · by_cases hk : k' < m1
                  · rcases h with h | h
                    · exact .inl (hd2 k' (.inl h))
                    · exact .inl (hd2 k' (.inr (by omega)))
                  · rcases h with h | h
                    · exact .inl (hd2 k' (.inl h))
                    · exact .inr (by omega)
              rw [e] at q2
              exact q2
            · cases b with
              | true => exact RL.cons (hy.mono q1 (Stay.refl _ _)) q3
              | false => exact RL.cons (hy.mono q1 (Stay.refl _ _)) q3
          unfold mvC at h1
          split at h1
          · rename_i j n'
            split at h1
            · rename_i e t l hj
              cases h1
              have hlt : ¬ D n := fun h => by
                have hm1 := (mvCs_le h2)
                exact hD n (Nat.le_refl _) (by omega) h
              obtain ⟨c1, le1, S1, hr⟩ := S.move1 b hlt (hO _ _ hj)
              refine step le1 S1 (fun k' h => h.imp id (fun h => by omega)) (fun k' h => h.imp id (fun h => by omega)) (by omega) ?_
              have := hr v hv1
              obtain ⟨_, _, hv'⟩ := hv1
              subst hv'
              cases b <;> exact this
            · cases h1
          · cases h1
            exact step (Cf.Le.refl c) S (fun k' h => .inl h) (fun k' h => h.elim id (fun h => by omega)) (by omega) (by cases (show v = _ from hv1); cases b <;> rfl)
          · cases h1
            exact step (Cf.Le.refl c) S (fun k' h => .inl h) (fun k' h => h.elim id (fun h => by omega)) (by omega) (by cases (show v = _ from hv1); cases b <;> exact ⟨rfl, trivial⟩)
          · cases h1
            exact step (Cf.Le.refl c) S (fun k' h => .inl h) (fun k' h => h.elim id (fun h => by omega)) (by omega) (by cases (show v = _ from hv1); cases b <;> rfl)
          · cases h1
            exact step (Cf.Le.refl c) S (fun k' h => .inl h) (fun k' h => h.elim id (fun h => by omega)) (by omega) (by cases (show v = _ from hv1.1); cases b <;> exact ⟨rfl, trivial⟩)
          · cases h1
      · cases h
    · cases h
end
structure Way (gw : Nat) (e : Int) (w : World) : Prop where
  c : w.cell? ⟨gw, 0, none⟩ = some (.int .i64 e)
  f : ∀ o, w.frozen? ⟨gw, o, none⟩ = false
theorem Way.lt {gw : Nat} {e : Int} {w : World} (h : Way gw e w) : gw < w.heap.size := World.block_lt_of_cell? w ⟨gw, 0, none⟩ h.c
theorem Way.ext {gw : Nat} {e : Int} {w w' : World} (h : Way gw e w) (x : Ext w w') : Way gw e w' := ⟨x.cell h.c, fun o => (Below.frozen (p := ⟨gw, o, none⟩) x h.lt).trans (h.f o)⟩
theorem grown_setNewU {w w' : World} {row : Option Nat} {p : Addr} {u : Value} (h : w.grownBy w' row) (hp : w.heap.size ≤ p.block) : w.grownBy (w'.setCell p u) row :=
  ⟨h.os, h.tape, h.output, by simpa using h.size, fun k hk hr => (Below.heap_setCell _ _ _ _ (by omega)).trans (h.block k hk hr)⟩
theorem grown_setWay {w w' : World} {gw : Nat} {u : Value} (h : w.grownBy w' (some gw)) : w.grownBy (w'.setCell ⟨gw, 0, none⟩ u) (some gw) := grown_trans h (grown_setCell w' ⟨gw, 0, none⟩ u)
set_option maxRecDepth 4000 in
set_option maxHeartbeats 2000000 in
theorem told_any (gw : Nat) (e0 : Int) (a b : Fr) (A B C D : Option Addr) (c1 c2 c3 c4 : Nat) (w : World) (hw : Way gw e0 w) :
    Calls Tryz.prog 98 #[.pointer (some ⟨gw, 0, none⟩), .agg #[.bool a.neg, .slice A a.num.length c1, .slice B a.den.length c2], .agg #[.bool b.neg, .slice C b.num.length c3, .slice D b.den.length c4]] w fun e w' => (e0 ≠ 0 → e = .returned (.tuple #[.agg #[.bool false, .slice none 0 0, .slice none 0 0, .bool false, .slice none 0 0, .slice none 0 0], .int .i64 e0])) ∧ (e0 = 0 → e = .returned (.tuple #[.agg #[.bool a.neg, .slice A a.num.length c1, .slice B a.den.length c2, .bool b.neg, .slice C b.num.length c3, .slice D b.den.length c4], .int .i64 0])) ∧ Ext w w' := by
  have hl := hw.lt
  have HW := Lib.hid hw
  clear hw
  by_cases h0 : e0 ≠ 0
  · have hb : (e0 != 0) = true := bne_iff_ne.2 h0
    have g0 := (HW.out.ext ((((Ext.refl w).alloc (.cells #[.bool a.neg, .slice A a.num.length c1, .slice B a.den.length c2] 24)).alloc (.cells #[.bool b.neg, .slice C b.num.length c3, .slice D b.den.length c4] 24)).alloc (.cells #[.bool false, .slice none 0 0, .slice none 0 0, .bool false, .slice none 0 0, .slice none 0 0] 50))).c
    go_enter Tryz.func98, Tryz.ntmps98
    go_wp2_with fail
    go_region
    all_goals
      go_wp2_with fail
      exact bodyPost_ret (v := .tuple #[.agg #[.bool false, .slice none 0 0, .slice none 0 0, .bool false, .slice none 0 0, .slice none 0 0], .int .i64 e0]) (by simp [results, Tryz.results98, go_sem]) rfl ⟨fun _ => rfl, fun h => absurd h h0, by repeat (first | (with_reducible exact Ext.refl w) | (with_reducible refine Ext.alloc ?_ _) | (with_reducible refine Ext.drew ?_) | refine Ext.setCell ?_ (by simp; try omega) _)⟩
  · obtain rfl : e0 = 0 := by simpa using h0
    have hb : ((0 : Int) != 0) = false := rfl
    have g0 := (HW.out.ext ((((Ext.refl w).alloc (.cells #[.bool a.neg, .slice A a.num.length c1, .slice B a.den.length c2] 24)).alloc (.cells #[.bool b.neg, .slice C b.num.length c3, .slice D b.den.length c4] 24)).alloc (.cells #[.bool false, .slice none 0 0, .slice none 0 0, .bool false, .slice none 0 0, .slice none 0 0] 50))).c
    go_enter Tryz.func98, Tryz.ntmps98
    go_wp2_with fail
    exact bodyPost_ret (v := .tuple #[.agg #[.bool a.neg, .slice A a.num.length c1, .slice B a.den.length c2, .bool b.neg, .slice C b.num.length c3, .slice D b.den.length c4], .int .i64 0]) (by simp [results, Tryz.results98, go_sem]) rfl ⟨fun h => absurd rfl h, fun _ => rfl, by repeat (first | (with_reducible exact Ext.refl w) | (with_reducible refine Ext.alloc ?_ _) | (with_reducible refine Ext.drew ?_) | refine Ext.setCell ?_ (by simp; try omega) _)⟩
end Go.Proofs.YtjoonfegjobgbaaGreatDoor
