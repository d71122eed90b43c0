/- ratio.plus. -/
import Derived.Test.YtnhgagfkepmanaaR4
import Derived.Deep.RegionHeld3
namespace Go.Proofs.Ytnhgagfkepmanaa
open Go Go.RowKit

abbrev Six (w : World) (h : Nat) (a b c d e f : Value) : Prop := w.cell? ⟨h, 0, none⟩ = some a ∧ w.cell? ⟨h, 1, none⟩ = some b ∧ w.cell? ⟨h, 2, none⟩ = some c ∧ w.cell? ⟨h + 1, 0, none⟩ = some d ∧ w.cell? ⟨h + 1, 1, none⟩ = some e ∧ w.cell? ⟨h + 1, 2, none⟩ = some f
theorem six_ext {w w' : World} {h : Nat} {a b c d e f : Value} (x : Ext w w') (H : Six w h a b c d e f) : Six w' h a b c d e f := ⟨x.cell H.1, x.cell H.2.1, x.cell H.2.2.1, x.cell H.2.2.2.1, x.cell H.2.2.2.2.1, x.cell H.2.2.2.2.2⟩
theorem six_drew {w : World} {h : Nat} {a b c d e f : Value} (H : Six w h a b c d e f) : Six w.drew h a b c d e f := H

/-- a sum as the program makes it: the size and the sign -/
theorem plus_cases (p q : Rat) : (decide (p.num < 0) = decide (q.num < 0) ∧ mkRat (sg (decide (p.num < 0)) (p.num.natAbs * q.den + q.num.natAbs * p.den)) (p.den * q.den) = p + q)
    ∨ (decide (p.num < 0) ≠ decide (q.num < 0) ∧ p.num.natAbs * q.den < q.num.natAbs * p.den ∧ mkRat (sg (decide (q.num < 0)) (q.num.natAbs * p.den - p.num.natAbs * q.den)) (p.den * q.den) = p + q)
    ∨ (decide (p.num < 0) ≠ decide (q.num < 0) ∧ q.num.natAbs * p.den ≤ p.num.natAbs * q.den ∧ mkRat (sg (decide (p.num < 0)) (p.num.natAbs * q.den - q.num.natAbs * p.den)) (p.den * q.den) = p + q) := by
  by_cases h : decide (p.num < 0) = decide (q.num < 0)
  · exact .inl ⟨h, add_same p q h⟩
  · rcases Nat.lt_or_ge (p.num.natAbs * q.den) (q.num.natAbs * p.den) with hl | hl
    · exact .inr (.inl ⟨h, hl, add_less p q h hl⟩)
    · exact .inr (.inr ⟨h, hl, add_more p q h hl⟩)

set_option maxRecDepth 4000 in
set_option maxHeartbeats 2000000 in
theorem plus_gen (s t : Bool) (A B C D : Option Addr) (a b a' b' : Nat) (c1 c2 c3 c4 : Nat) (w : World) (r : Rat) (ha : Rd w A c1 (wd a)) (hb : Rd w B c2 (wd b)) (hc : Rd w C c3 (wd a')) (hd : Rd w D c4 (wd b')) (hb0 : b ≠ 0) (hb0' : b' ≠ 0)
    (la : (wd a).length ≤ 2048) (lb : (wd b).length ≤ 2048) (la' : (wd a').length ≤ 2048) (lb' : (wd b').length ≤ 2048)
    (hr : (s = t ∧ mkRat (sg s (a * b' + a' * b)) (b * b') = r) ∨ (s ≠ t ∧ a * b' < a' * b ∧ mkRat (sg t (a' * b - a * b')) (b * b') = r) ∨ (s ≠ t ∧ a' * b ≤ a * b' ∧ mkRat (sg s (a * b' - a' * b)) (b * b') = r)) :
    Calls Try.prog 31 #[.agg #[.bool s, .slice A (wd a).length c1, .slice B (wd b).length c2], .agg #[.bool t, .slice C (wd a').length c3, .slice D (wd b').length c4]] w (RatP w (tell r)) := by
  have lX := wd_len_mul a b'
  have lY := wd_len_mul a' b
  have lZ := wd_len_mul b b'
  have hZ0 : b * b' ≠ 0 := Nat.mul_ne_zero hb0 hb0'
  obtain ⟨X, hX⟩ : ∃ X, X = a * b' := ⟨_, rfl⟩
  obtain ⟨Y, hY⟩ : ∃ Y, Y = a' * b := ⟨_, rfl⟩
  obtain ⟨Z, hZ⟩ : ∃ Z, Z = b * b' := ⟨_, rfl⟩
  have HT1 := Lib.hid (fun wx x1 x2 => times_any A D a b' c1 c4 wx x1 x2 (by omega))
  have HT2 := Lib.hid (fun wx x1 x2 => times_any C B a' b c3 c2 wx x1 x2 (by omega))
  have HT3 := Lib.hid (fun wx x1 x2 => times_any B D b b' c2 c4 wx x1 x2 (by omega))
  rw [← hX] at lX HT1
  rw [← hY] at lY HT2
  rw [← hZ] at lZ hZ0 HT3
  rw [← hX, ← hY, ← hZ] at hr
  have HR := Lib.hid hr
  have HA := Lib.hid ha
  have HB := Lib.hid hb
  have HC := Lib.hid hc
  have HD := Lib.hid hd
  clear hX hY hZ hr ha hb hc hd hb0 hb0'
  obtain ⟨tt, htt⟩ : ∃ tt, tt = tell r := ⟨_, rfl⟩
  have HT := Lib.hid htt.symm
  clear htt
  go_enter Try.func31, Try.ntmps31
  go_wp2_with fail
  have HX := Lib.hid ((((Ext.refl w).alloc (.cells #[.bool s, .slice A (wd a).length c1, .slice B (wd b).length c2] 27)).alloc (.cells #[.bool t, .slice C (wd a').length c3, .slice D (wd b').length c4] 27)).alloc (.cells #[.bool false, .slice none 0 0, .slice none 0 0] 27))
  obtain ⟨W, hW⟩ : ∃ W, W = (((w.alloc (.cells #[.bool s, .slice A (wd a).length c1, .slice B (wd b).length c2] 27)).alloc (.cells #[.bool t, .slice C (wd a').length c3, .slice D (wd b').length c4] 27)).alloc (.cells #[.bool false, .slice none 0 0, .slice none 0 0] 27)) := ⟨_, rfl⟩
  have F0 : Six W w.heap.size (.bool s) (.slice A (wd a).length c1) (.slice B (wd b).length c2) (.bool t) (.slice C (wd a').length c3) (.slice D (wd b').length c4) := by rw [hW]; refine ⟨?_, ?_, ?_, ?_, ?_, ?_⟩ <;> simp [go_sem]
  have R0 : W.cell? ⟨w.heap.size + 2, 0, none⟩ = some (.bool false) ∧ W.cell? ⟨w.heap.size + 2, 1, none⟩ = some (.slice none 0 0) ∧ W.cell? ⟨w.heap.size + 2, 2, none⟩ = some (.slice none 0 0) := by rw [hW]; refine ⟨?_, ?_, ?_⟩ <;> simp [go_sem]
  have Z0 : W.heap.size = w.heap.size + 3 := by rw [hW]; simp
  have RF : ∀ o, W.frozen? ⟨w.heap.size + 2, o, none⟩ = false := by intro o; rw [hW]; simp [go_sem]
  rw [← hW] at HX
  have HR0 := Lib.hid R0
  have HRF := Lib.hid RF
  have HZ0 := Lib.hid Z0
  try rw [← hW]
  clear hW R0 RF Z0
  go_region_held3 (fun w' => w'.cell? ⟨w.heap.size, 0, none⟩ = some (.bool s) ∧ w'.cell? ⟨w.heap.size, 1, none⟩ = some (.slice A (wd a).length c1) ∧ w'.cell? ⟨w.heap.size, 2, none⟩ = some (.slice B (wd b).length c2) ∧ w'.cell? ⟨w.heap.size + 1, 0, none⟩ = some (.bool t) ∧ w'.cell? ⟨w.heap.size + 1, 1, none⟩ = some (.slice C (wd a').length c3) ∧ w'.cell? ⟨w.heap.size + 1, 2, none⟩ = some (.slice D (wd b').length c4)) (repeat (first | (with_reducible exact F0) | (with_reducible exact F1) | (with_reducible exact F2) | (with_reducible exact F3) | (with_reducible refine six_drew ?_)))
    (first
      | (go_at_call 48; with_reducible refine (HT1.out _ (HA.out.ext HX.out.drew) (HD.out.ext HX.out.drew)).mono ?_; rintro e w1 ⟨A1, d1, rfl, k1, hx1⟩; have K1 := Lib.hid k1; have HX1 := Lib.hid hx1; have F1 := six_ext hx1 (six_drew F0); clear k1 hx1)
      | (go_at_call 48; with_reducible refine (HT2.out _ (HC.out.ext (HX.out.drew.trans HX1.out)) (HB.out.ext (HX.out.drew.trans HX1.out))).mono ?_; rintro e w2 ⟨A2, d2, rfl, k2, hx2⟩; have K2 := Lib.hid k2; have HX2 := Lib.hid hx2; have F2 := six_ext hx2 F1; clear k2 hx2)
      | (go_at_call 48; with_reducible refine (HT3.out _ (HB.out.ext ((HX.out.drew.trans HX1.out).trans HX2.out)) (HD.out.ext ((HX.out.drew.trans HX1.out).trans HX2.out))).mono ?_; rintro e w3 ⟨A3, d3, rfl, k3, hx3⟩; have K3 := Lib.hid k3; have HX3 := Lib.hid hx3; have F3 := six_ext hx3 F2; clear k3 hx3))
  all_goals
    have K1x := Lib.hid (K1.out.ext (HX2.out.trans HX3.out))
    have K2x := Lib.hid (K2.out.ext HX3.out)
    have HXa := Lib.hid (show Ext W w3 from (((Ext.refl W).drew.trans HX1.out).trans HX2.out).trans HX3.out)
    clear F0 F1 F2
    obtain ⟨u0, u1, u2, v0, v1, v2⟩ := id F3
    rcases HR.out with ⟨rfl, hr⟩ | ⟨hne, hlt, hr⟩ | ⟨hne, hle, hr⟩
    · have hst : (s == s) = true := beq_self_eq_true s
      go_wp2_with fail
      refine (add_any A1 A2 X Y d1 d2 _ K1x.out.rd K2x.out.rd (by omega) (by omega)).mono ?_
      rintro e w4 ⟨A4, d4, rfl, k4, hx4⟩
      have K4 := Lib.hid k4
      have HX4 := Lib.hid (HXa.out.trans hx4)
      obtain ⟨u0, u1, u2, v0, v1, v2⟩ := six_ext hx4 F3
      have KZ := Lib.hid (K3.out.ext hx4)
      clear k4 hx4 F3
      go_wp2_with fail
      refine (lowest_any s A4 A3 (X + Y) Z d4 d3 _ K4.out.rd KZ.out.rd hZ0 (by have := wd_len_add X Y; omega) (by omega)).mono ?_
      rw [hr, HT.out]
      rintro e w5 ⟨A5, d5, B5, e5, rfl, k5, k6, k7, hx5⟩
      have K5 := Lib.hid (k5.lower (show w.heap.size + 3 ≤ w4.heap.size by have := HX4.out.size; have := HZ0.out; omega))
      have K6 := Lib.hid (k6.lower (show w.heap.size + 3 ≤ w4.heap.size by have := HX4.out.size; have := HZ0.out; omega))
      have K7 := Lib.hid k7
      have HX5 := Lib.hid (HX4.out.trans hx5)
      have HXw := Lib.hid (HX.out.trans HX5.out)
      have r0 := HX5.out.cell HR0.out.1
      have r1 := HX5.out.cell HR0.out.2.1
      have r2 := HX5.out.cell HR0.out.2.2
      have f0 := (HX5.out.frozen HR0.out.1).trans (HRF.out 0)
      have f1 := (HX5.out.frozen HR0.out.2.1).trans (HRF.out 1)
      have f2 := (HX5.out.frozen HR0.out.2.2).trans (HRF.out 2)
      clear k5 k6 k7 hx5 u0 u1 u2 v0 v1 v2
      go_wp2_with fail
      exact bodyPost_ret (v := .tuple #[.agg #[.bool tt.1.neg, .slice A5 tt.1.num.length d5, .slice B5 tt.1.den.length e5], .int .i64 tt.2]) (by simp [results, Try.results31, go_sem, r0, r1, r2]) rfl (RatP.mk HT.out rfl (by refine Own.lower ?_ (show w.heap.size ≤ w.heap.size + 3 by omega); repeat (first | (with_reducible exact K5.out) | refine Own.setBelow ?_ (by simp; try omega) _)) (by refine Own.lower ?_ (show w.heap.size ≤ w.heap.size + 3 by omega); repeat (first | (with_reducible exact K6.out) | refine Own.setBelow ?_ (by simp; try omega) _)) K7.out (by repeat (first | (with_reducible exact HXw.out) | refine Ext.setCell ?_ (by simp; try omega) _)))
    · have hst : (s == t) = false := beq_eq_false_iff_ne.2 hne
      have hc : cmp X Y < 0 := cmp_lt_iff.2 hlt
      go_wp2_with fail
      refine (compare_any A1 A2 X Y _ _ _ (K1x.out.rd) (K2x.out.rd)).mono ?_; rintro e wc ⟨rfl, hxc⟩
      have K1x := Lib.hid (K1x.out.ext hxc)
      have K2x := Lib.hid (K2x.out.ext hxc)
      have K3 := Lib.hid (K3.out.ext hxc)
      have HXa := Lib.hid (HXa.out.trans hxc)
      have F3 := six_ext hxc F3
      clear hxc
      go_wp2_with fail
      refine (sub_any A2 A1 Y X d2 d1 _ K2x.out.rd K1x.out.rd (by omega) (by omega)).mono ?_
      rintro e w4 ⟨A4, d4, rfl, k4, hx4⟩
      have K4 := Lib.hid k4
      have HX4 := Lib.hid (HXa.out.trans hx4)
      obtain ⟨u0, u1, u2, v0, v1, v2⟩ := six_ext hx4 F3
      have KZ := Lib.hid (K3.out.ext hx4)
      clear k4 hx4 F3
      go_wp2_with fail
      refine (lowest_any t A4 A3 (Y - X) Z d4 d3 _ K4.out.rd KZ.out.rd hZ0 (by have := wd_len_mono (Nat.sub_le Y X); omega) (by omega)).mono ?_
      rw [hr, HT.out]
      rintro e w5 ⟨A5, d5, B5, e5, rfl, k5, k6, k7, hx5⟩
      have K5 := Lib.hid (k5.lower (show w.heap.size + 3 ≤ w4.heap.size by have := HX4.out.size; have := HZ0.out; omega))
      have K6 := Lib.hid (k6.lower (show w.heap.size + 3 ≤ w4.heap.size by have := HX4.out.size; have := HZ0.out; omega))
      have K7 := Lib.hid k7
      have HX5 := Lib.hid (HX4.out.trans hx5)
      have HXw := Lib.hid (HX.out.trans HX5.out)
      have r0 := HX5.out.cell HR0.out.1
      have r1 := HX5.out.cell HR0.out.2.1
      have r2 := HX5.out.cell HR0.out.2.2
      have f0 := (HX5.out.frozen HR0.out.1).trans (HRF.out 0)
      have f1 := (HX5.out.frozen HR0.out.2.1).trans (HRF.out 1)
      have f2 := (HX5.out.frozen HR0.out.2.2).trans (HRF.out 2)
      clear k5 k6 k7 hx5 u0 u1 u2 v0 v1 v2
      go_wp2_with fail
      exact bodyPost_ret (v := .tuple #[.agg #[.bool tt.1.neg, .slice A5 tt.1.num.length d5, .slice B5 tt.1.den.length e5], .int .i64 tt.2]) (by simp [results, Try.results31, go_sem, r0, r1, r2]) rfl (RatP.mk HT.out rfl (by refine Own.lower ?_ (show w.heap.size ≤ w.heap.size + 3 by omega); repeat (first | (with_reducible exact K5.out) | refine Own.setBelow ?_ (by simp; try omega) _)) (by refine Own.lower ?_ (show w.heap.size ≤ w.heap.size + 3 by omega); repeat (first | (with_reducible exact K6.out) | refine Own.setBelow ?_ (by simp; try omega) _)) K7.out (by repeat (first | (with_reducible exact HXw.out) | refine Ext.setCell ?_ (by simp; try omega) _)))
    · have hst : (s == t) = false := beq_eq_false_iff_ne.2 hne
      have hc : ¬ cmp X Y < 0 := fun h => by have := cmp_lt_iff.1 h; omega
      go_wp2_with fail
      refine (compare_any A1 A2 X Y _ _ _ (K1x.out.rd) (K2x.out.rd)).mono ?_; rintro e wc ⟨rfl, hxc⟩
      have K1x := Lib.hid (K1x.out.ext hxc)
      have K2x := Lib.hid (K2x.out.ext hxc)
      have K3 := Lib.hid (K3.out.ext hxc)
      have HXa := Lib.hid (HXa.out.trans hxc)
      have F3 := six_ext hxc F3
      clear hxc
      go_wp2_with fail
      refine (sub_any A1 A2 X Y d1 d2 _ K1x.out.rd K2x.out.rd (by omega) (by omega)).mono ?_
      rintro e w4 ⟨A4, d4, rfl, k4, hx4⟩
      have K4 := Lib.hid k4
      have HX4 := Lib.hid (HXa.out.trans hx4)
      obtain ⟨u0, u1, u2, v0, v1, v2⟩ := six_ext hx4 F3
      have KZ := Lib.hid (K3.out.ext hx4)
      clear k4 hx4 F3
      go_wp2_with fail
      refine (lowest_any s A4 A3 (X - Y) Z d4 d3 _ K4.out.rd KZ.out.rd hZ0 (by have := wd_len_mono (Nat.sub_le X Y); omega) (by omega)).mono ?_
      rw [hr, HT.out]
      rintro e w5 ⟨A5, d5, B5, e5, rfl, k5, k6, k7, hx5⟩
      have K5 := Lib.hid (k5.lower (show w.heap.size + 3 ≤ w4.heap.size by have := HX4.out.size; have := HZ0.out; omega))
      have K6 := Lib.hid (k6.lower (show w.heap.size + 3 ≤ w4.heap.size by have := HX4.out.size; have := HZ0.out; omega))
      have K7 := Lib.hid k7
      have HX5 := Lib.hid (HX4.out.trans hx5)
      have HXw := Lib.hid (HX.out.trans HX5.out)
      have r0 := HX5.out.cell HR0.out.1
      have r1 := HX5.out.cell HR0.out.2.1
      have r2 := HX5.out.cell HR0.out.2.2
      have f0 := (HX5.out.frozen HR0.out.1).trans (HRF.out 0)
      have f1 := (HX5.out.frozen HR0.out.2.1).trans (HRF.out 1)
      have f2 := (HX5.out.frozen HR0.out.2.2).trans (HRF.out 2)
      clear k5 k6 k7 hx5 u0 u1 u2 v0 v1 v2
      go_wp2_with fail
      exact bodyPost_ret (v := .tuple #[.agg #[.bool tt.1.neg, .slice A5 tt.1.num.length d5, .slice B5 tt.1.den.length e5], .int .i64 tt.2]) (by simp [results, Try.results31, go_sem, r0, r1, r2]) rfl (RatP.mk HT.out rfl (by refine Own.lower ?_ (show w.heap.size ≤ w.heap.size + 3 by omega); repeat (first | (with_reducible exact K5.out) | refine Own.setBelow ?_ (by simp; try omega) _)) (by refine Own.lower ?_ (show w.heap.size ≤ w.heap.size + 3 by omega); repeat (first | (with_reducible exact K6.out) | refine Own.setBelow ?_ (by simp; try omega) _)) K7.out (by repeat (first | (with_reducible exact HXw.out) | refine Ext.setCell ?_ (by simp; try omega) _)))

end Go.Proofs.Ytnhgagfkepmanaa
