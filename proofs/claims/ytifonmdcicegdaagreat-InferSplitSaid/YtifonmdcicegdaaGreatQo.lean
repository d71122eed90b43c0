/- Texts of this claim, joined: R5 K6 K9 K7a T1 R6 R7 R8. -/
import Derived.Deep.RegionHeld3
import Derived.Test.YtifonmdcicegdaaGreatQn
set_option linter.unusedVariables false
set_option linter.unusedSimpArgs false
namespace Go.Proofs.YtifonmdcicegdaaGreat
open Go Go.RowKit

abbrev Six (w : World) (h : Nat) (a b c d e f : Value) : Prop := w.cell? ⟨h, 0, none⟩ = some a ∧ w.cell? ⟨h, 1, none⟩ = some b ∧ w.cell? ⟨h, 2, none⟩ = some c ∧ w.cell? ⟨h + 1, 0, none⟩ = some d ∧ w.cell? ⟨h + 1, 1, none⟩ = some e ∧ w.cell? ⟨h + 1, 2, none⟩ = some f
theorem six_ext {w w' : World} {h : Nat} {a b c d e f : Value} (x : Ext w w') (H : Six w h a b c d e f) : Six w' h a b c d e f := ⟨x.cell H.1, x.cell H.2.1, x.cell H.2.2.1, x.cell H.2.2.2.1, x.cell H.2.2.2.2.1, x.cell H.2.2.2.2.2⟩
theorem six_drew {w : World} {h : Nat} {a b c d e f : Value} (H : Six w h a b c d e f) : Six w.drew h a b c d e f := H

/-- a sum as the program makes it: the size and the sign -/
theorem plus_cases (p q : Rat) : (decide (p.num < 0) = decide (q.num < 0) ∧ mkRat (sg (decide (p.num < 0)) (p.num.natAbs * q.den + q.num.natAbs * p.den)) (p.den * q.den) = p + q)
    ∨ (decide (p.num < 0) ≠ decide (q.num < 0) ∧ p.num.natAbs * q.den < q.num.natAbs * p.den ∧ mkRat (sg (decide (q.num < 0)) (q.num.natAbs * p.den - p.num.natAbs * q.den)) (p.den * q.den) = p + q)
    ∨ (decide (p.num < 0) ≠ decide (q.num < 0) ∧ q.num.natAbs * p.den ≤ p.num.natAbs * q.den ∧ mkRat (sg (decide (p.num < 0)) (p.num.natAbs * q.den - q.num.natAbs * p.den)) (p.den * q.den) = p + q) := by
  by_cases h : decide (p.num < 0) = decide (q.num < 0)
  · exact .inl ⟨h, add_same p q h⟩
  · rcases Nat.lt_or_ge (p.num.natAbs * q.den) (q.num.natAbs * p.den) with hl | hl
    · exact .inr (.inl ⟨h, hl, add_less p q h hl⟩)
    · exact .inr (.inr ⟨h, hl, add_more p q h hl⟩)

set_option maxRecDepth 4000 in
set_option maxHeartbeats 2000000 in
theorem plus_gen (s t : Bool) (A B C D : Option Addr) (a b a' b' : Nat) (c1 c2 c3 c4 : Nat) (w : World) (r : Rat) (ha : Rd w A c1 (wd a)) (hb : Rd w B c2 (wd b)) (hc : Rd w C c3 (wd a')) (hd : Rd w D c4 (wd b')) (hb0 : b ≠ 0) (hb0' : b' ≠ 0)
    (la : (wd a).length ≤ 2048) (lb : (wd b).length ≤ 2048) (la' : (wd a').length ≤ 2048) (lb' : (wd b').length ≤ 2048)
    (hr : (s = t ∧ mkRat (sg s (a * b' + a' * b)) (b * b') = r) ∨ (s ≠ t ∧ a * b' < a' * b ∧ mkRat (sg t (a' * b - a * b')) (b * b') = r) ∨ (s ≠ t ∧ a' * b ≤ a * b' ∧ mkRat (sg s (a * b' - a' * b)) (b * b') = r)) :
    Calls Tryz.prog 136 #[.agg #[.bool s, .slice A (wd a).length c1, .slice B (wd b).length c2], .agg #[.bool t, .slice C (wd a').length c3, .slice D (wd b').length c4]] w (RatP w (tell r)) := by
  have lX := wd_len_mul a b'
  have lY := wd_len_mul a' b
  have lZ := wd_len_mul b b'
  have hZ0 : b * b' ≠ 0 := Nat.mul_ne_zero hb0 hb0'
  obtain ⟨X, hX⟩ : ∃ X, X = a * b' := ⟨_, rfl⟩
  obtain ⟨Y, hY⟩ : ∃ Y, Y = a' * b := ⟨_, rfl⟩
  obtain ⟨Z, hZ⟩ : ∃ Z, Z = b * b' := ⟨_, rfl⟩
  have HT1 := Lib.hid (fun wx x1 x2 => times_any A D a b' c1 c4 wx x1 x2 (by omega))
  have HT2 := Lib.hid (fun wx x1 x2 => times_any C B a' b c3 c2 wx x1 x2 (by omega))
  have HT3 := Lib.hid (fun wx x1 x2 => times_any B D b b' c2 c4 wx x1 x2 (by omega))
  rw [← hX] at lX HT1
  rw [← hY] at lY HT2
  rw [← hZ] at lZ hZ0 HT3
  rw [← hX, ← hY, ← hZ] at hr
  have HR := Lib.hid hr
  have HA := Lib.hid ha
  have HB := Lib.hid hb
  have HC := Lib.hid hc
  have HD := Lib.hid hd
  clear hX hY hZ hr ha hb hc hd hb0 hb0'
  obtain ⟨tt, htt⟩ : ∃ tt, tt = tell r := ⟨_, rfl⟩
  have HT := Lib.hid htt.symm
  clear htt
  go_enter Tryz.func136, Tryz.ntmps136
  go_wp2_with fail
  have HX := Lib.hid ((((Ext.refl w).alloc (.cells #[.bool s, .slice A (wd a).length c1, .slice B (wd b).length c2] 24)).alloc (.cells #[.bool t, .slice C (wd a').length c3, .slice D (wd b').length c4] 24)).alloc (.cells #[.bool false, .slice none 0 0, .slice none 0 0] 24))
  obtain ⟨W, hW⟩ : ∃ W, W = (((w.alloc (.cells #[.bool s, .slice A (wd a).length c1, .slice B (wd b).length c2] 24)).alloc (.cells #[.bool t, .slice C (wd a').length c3, .slice D (wd b').length c4] 24)).alloc (.cells #[.bool false, .slice none 0 0, .slice none 0 0] 24)) := ⟨_, rfl⟩
  have F0 : Six W w.heap.size (.bool s) (.slice A (wd a).length c1) (.slice B (wd b).length c2) (.bool t) (.slice C (wd a').length c3) (.slice D (wd b').length c4) := by rw [hW]; refine ⟨?_, ?_, ?_, ?_, ?_, ?_⟩ <;> simp [go_sem]
  have R0 : W.cell? ⟨w.heap.size + 2, 0, none⟩ = some (.bool false) ∧ W.cell? ⟨w.heap.size + 2, 1, none⟩ = some (.slice none 0 0) ∧ W.cell? ⟨w.heap.size + 2, 2, none⟩ = some (.slice none 0 0) := by rw [hW]; refine ⟨?_, ?_, ?_⟩ <;> simp [go_sem]
  have Z0 : W.heap.size = w.heap.size + 3 := by rw [hW]; simp
  have RF : ∀ o, W.frozen? ⟨w.heap.size + 2, o, none⟩ = false := by intro o; rw [hW]; simp [go_sem]
  rw [← hW] at HX
  have HR0 := Lib.hid R0
  have HRF := Lib.hid RF
  have HZ0 := Lib.hid Z0
  try rw [← hW]
  clear hW R0 RF Z0
  go_region_held3 (fun w' => w'.cell? ⟨w.heap.size, 0, none⟩ = some (.bool s) ∧ w'.cell? ⟨w.heap.size, 1, none⟩ = some (.slice A (wd a).length c1) ∧ w'.cell? ⟨w.heap.size, 2, none⟩ = some (.slice B (wd b).length c2) ∧ w'.cell? ⟨w.heap.size + 1, 0, none⟩ = some (.bool t) ∧ w'.cell? ⟨w.heap.size + 1, 1, none⟩ = some (.slice C (wd a').length c3) ∧ w'.cell? ⟨w.heap.size + 1, 2, none⟩ = some (.slice D (wd b').length c4)) (repeat (first | (with_reducible exact F0) | (with_reducible exact F1) | (with_reducible exact F2) | (with_reducible exact F3) | (with_reducible refine six_drew ?_)))
    (first
      | (go_at_call 142; with_reducible refine (HT1.out _ (HA.out.ext HX.out.drew) (HD.out.ext HX.out.drew)).mono ?_; rintro e w1 ⟨A1, d1, rfl, k1, hx1⟩; have K1 := Lib.hid k1; have HX1 := Lib.hid hx1; have F1 := six_ext hx1 (six_drew F0); clear k1 hx1)
      | (go_at_call 142; with_reducible refine (HT2.out _ (HC.out.ext (HX.out.drew.trans HX1.out)) (HB.out.ext (HX.out.drew.trans HX1.out))).mono ?_; rintro e w2 ⟨A2, d2, rfl, k2, hx2⟩; have K2 := Lib.hid k2; have HX2 := Lib.hid hx2; have F2 := six_ext hx2 F1; clear k2 hx2)
      | (go_at_call 142; with_reducible refine (HT3.out _ (HB.out.ext ((HX.out.drew.trans HX1.out).trans HX2.out)) (HD.out.ext ((HX.out.drew.trans HX1.out).trans HX2.out))).mono ?_; rintro e w3 ⟨A3, d3, rfl, k3, hx3⟩; have K3 := Lib.hid k3; have HX3 := Lib.hid hx3; have F3 := six_ext hx3 F2; clear k3 hx3))
  all_goals
    have K1x := Lib.hid (K1.out.ext (HX2.out.trans HX3.out))
    have K2x := Lib.hid (K2.out.ext HX3.out)
    have HXa := Lib.hid (show Ext W w3 from (((Ext.refl W).drew.trans HX1.out).trans HX2.out).trans HX3.out)
    clear F0 F1 F2
    obtain ⟨u0, u1, u2, v0, v1, v2⟩ := id F3
    rcases HR.out with ⟨rfl, hr⟩ | ⟨hne, hlt, hr⟩ | ⟨hne, hle, hr⟩
    · have hst : (s == s) = true := beq_self_eq_true s
      go_wp2_with fail
      refine (add_any A1 A2 X Y d1 d2 _ K1x.out.rd K2x.out.rd (by omega) (by omega)).mono ?_
      rintro e w4 ⟨A4, d4, rfl, k4, hx4⟩
      have K4 := Lib.hid k4
      have HX4 := Lib.hid (HXa.out.trans hx4)
      obtain ⟨u0, u1, u2, v0, v1, v2⟩ := six_ext hx4 F3
      have KZ := Lib.hid (K3.out.ext hx4)
      clear k4 hx4 F3
      go_wp2_with fail
      refine (lowest_any s A4 A3 (X + Y) Z d4 d3 _ K4.out.rd KZ.out.rd hZ0 (by have := wd_len_add X Y; omega) (by omega)).mono ?_
      rw [hr, HT.out]
      rintro e w5 ⟨A5, d5, B5, e5, rfl, k5, k6, k7, hx5⟩
      have K5 := Lib.hid (k5.lower (show w.heap.size + 3 ≤ w4.heap.size by have := HX4.out.size; have := HZ0.out; omega))
      have K6 := Lib.hid (k6.lower (show w.heap.size + 3 ≤ w4.heap.size by have := HX4.out.size; have := HZ0.out; omega))
      have K7 := Lib.hid k7
      have HX5 := Lib.hid (HX4.out.trans hx5)
      have HXw := Lib.hid (HX.out.trans HX5.out)
      have r0 := HX5.out.cell HR0.out.1
      have r1 := HX5.out.cell HR0.out.2.1
      have r2 := HX5.out.cell HR0.out.2.2
      have f0 := (HX5.out.frozen HR0.out.1).trans (HRF.out 0)
      have f1 := (HX5.out.frozen HR0.out.2.1).trans (HRF.out 1)
      have f2 := (HX5.out.frozen HR0.out.2.2).trans (HRF.out 2)
      clear k5 k6 k7 hx5 u0 u1 u2 v0 v1 v2
      go_wp2_with fail
      exact bodyPost_ret (v := .tuple #[.agg #[.bool tt.1.neg, .slice A5 tt.1.num.length d5, .slice B5 tt.1.den.length e5], .int .i64 tt.2]) (by simp [results, Tryz.results136, go_sem, r0, r1, r2]) rfl (RatP.mk HT.out rfl (by refine Own.lower ?_ (show w.heap.size ≤ w.heap.size + 3 by omega); repeat (first | (with_reducible exact K5.out) | refine Own.setBelow ?_ (by simp; try omega) _)) (by refine Own.lower ?_ (show w.heap.size ≤ w.heap.size + 3 by omega); repeat (first | (with_reducible exact K6.out) | refine Own.setBelow ?_ (by simp; try omega) _)) K7.out (by repeat (first | (with_reducible exact HXw.out) | refine Ext.setCell ?_ (by simp; try omega) _)))
    · have hst : (s == t) = false := beq_eq_false_iff_ne.2 hne
      have hc : cmp X Y < 0 := cmp_lt_iff.2 hlt
      go_wp2_with fail
      refine (compare_any A1 A2 X Y _ _ _ (K1x.out.rd) (K2x.out.rd)).mono ?_; rintro e wc ⟨rfl, hxc⟩
      have K1x := Lib.hid (K1x.out.ext hxc)
      have K2x := Lib.hid (K2x.out.ext hxc)
      have K3 := Lib.hid (K3.out.ext hxc)
      have HXa := Lib.hid (HXa.out.trans hxc)
      have F3 := six_ext hxc F3
      clear hxc
      go_wp2_with fail
      refine (sub_any A2 A1 Y X d2 d1 _ K2x.out.rd K1x.out.rd (by omega) (by omega)).mono ?_
      rintro e w4 ⟨A4, d4, rfl, k4, hx4⟩
      have K4 := Lib.hid k4
      have HX4 := Lib.hid (HXa.out.trans hx4)
      obtain ⟨u0, u1, u2, v0, v1, v2⟩ := six_ext hx4 F3
      have KZ := Lib.hid (K3.out.ext hx4)
      clear k4 hx4 F3
      go_wp2_with fail
      refine (lowest_any t A4 A3 (Y - X) Z d4 d3 _ K4.out.rd KZ.out.rd hZ0 (by have := wd_len_mono (Nat.sub_le Y X); omega) (by omega)).mono ?_
      rw [hr, HT.out]
      rintro e w5 ⟨A5, d5, B5, e5, rfl, k5, k6, k7, hx5⟩
      have K5 := Lib.hid (k5.lower (show w.heap.size + 3 ≤ w4.heap.size by have := HX4.out.size; have := HZ0.out; omega))
      have K6 := Lib.hid (k6.lower (show w.heap.size + 3 ≤ w4.heap.size by have := HX4.out.size; have := HZ0.out; omega))
      have K7 := Lib.hid k7
      have HX5 := Lib.hid (HX4.out.trans hx5)
      have HXw := Lib.hid (HX.out.trans HX5.out)
      have r0 := HX5.out.cell HR0.out.1
      have r1 := HX5.out.cell HR0.out.2.1
      have r2 := HX5.out.cell HR0.out.2.2
      have f0 := (HX5.out.frozen HR0.out.1).trans (HRF.out 0)
      have f1 := (HX5.out.frozen HR0.out.2.1).trans (HRF.out 1)
      have f2 := (HX5.out.frozen HR0.out.2.2).trans (HRF.out 2)
      clear k5 k6 k7 hx5 u0 u1 u2 v0 v1 v2
      go_wp2_with fail
      exact bodyPost_ret (v := .tuple #[.agg #[.bool tt.1.neg, .slice A5 tt.1.num.length d5, .slice B5 tt.1.den.length e5], .int .i64 tt.2]) (by simp [results, Tryz.results136, go_sem, r0, r1, r2]) rfl (RatP.mk HT.out rfl (by refine Own.lower ?_ (show w.heap.size ≤ w.heap.size + 3 by omega); repeat (first | (with_reducible exact K5.out) | refine Own.setBelow ?_ (by simp; try omega) _)) (by refine Own.lower ?_ (show w.heap.size ≤ w.heap.size + 3 by omega); repeat (first | (with_reducible exact K6.out) | refine Own.setBelow ?_ (by simp; try omega) _)) K7.out (by repeat (first | (with_reducible exact HXw.out) | refine Ext.setCell ?_ (by simp; try omega) _)))
    · have hst : (s == t) = false := beq_eq_false_iff_ne.2 hne
      have hc : ¬ cmp X Y < 0 := fun h => by have := cmp_lt_iff.1 h; omega
      go_wp2_with fail
      refine (compare_any A1 A2 X Y _ _ _ (K1x.out.rd) (K2x.out.rd)).mono ?_; rintro e wc ⟨rfl, hxc⟩
      have K1x := Lib.hid (K1x.out.ext hxc)
      have K2x := Lib.hid (K2x.out.ext hxc)
      have K3 := Lib.hid (K3.out.ext hxc)
      have HXa := Lib.hid (HXa.out.trans hxc)
      have F3 := six_ext hxc F3
      clear hxc
      go_wp2_with fail
      refine (sub_any A1 A2 X Y d1 d2 _ K1x.out.rd K2x.out.rd (by omega) (by omega)).mono ?_
      rintro e w4 ⟨A4, d4, rfl, k4, hx4⟩
      have K4 := Lib.hid k4
      have HX4 := Lib.hid (HXa.out.trans hx4)
      obtain ⟨u0, u1, u2, v0, v1, v2⟩ := six_ext hx4 F3
      have KZ := Lib.hid (K3.out.ext hx4)
      clear k4 hx4 F3
      go_wp2_with fail
      refine (lowest_any s A4 A3 (X - Y) Z d4 d3 _ K4.out.rd KZ.out.rd hZ0 (by have := wd_len_mono (Nat.sub_le X Y); omega) (by omega)).mono ?_
      rw [hr, HT.out]
      rintro e w5 ⟨A5, d5, B5, e5, rfl, k5, k6, k7, hx5⟩
      have K5 := Lib.hid (k5.lower (show w.heap.size + 3 ≤ w4.heap.size by have := HX4.out.size; have := HZ0.out; omega))
      have K6 := Lib.hid (k6.lower (show w.heap.size + 3 ≤ w4.heap.size by have := HX4.out.size; have := HZ0.out; omega))
      have K7 := Lib.hid k7
      have HX5 := Lib.hid (HX4.out.trans hx5)
      have HXw := Lib.hid (HX.out.trans HX5.out)
      have r0 := HX5.out.cell HR0.out.1
      have r1 := HX5.out.cell HR0.out.2.1
      have r2 := HX5.out.cell HR0.out.2.2
      have f0 := (HX5.out.frozen HR0.out.1).trans (HRF.out 0)
      have f1 := (HX5.out.frozen HR0.out.2.1).trans (HRF.out 1)
      have f2 := (HX5.out.frozen HR0.out.2.2).trans (HRF.out 2)
      clear k5 k6 k7 hx5 u0 u1 u2 v0 v1 v2
      go_wp2_with fail
      exact bodyPost_ret (v := .tuple #[.agg #[.bool tt.1.neg, .slice A5 tt.1.num.length d5, .slice B5 tt.1.den.length e5], .int .i64 tt.2]) (by simp [results, Tryz.results136, go_sem, r0, r1, r2]) rfl (RatP.mk HT.out rfl (by refine Own.lower ?_ (show w.heap.size ≤ w.heap.size + 3 by omega); repeat (first | (with_reducible exact K5.out) | refine Own.setBelow ?_ (by simp; try omega) _)) (by refine Own.lower ?_ (show w.heap.size ≤ w.heap.size + 3 by omega); repeat (first | (with_reducible exact K6.out) | refine Own.setBelow ?_ (by simp; try omega) _)) K7.out (by repeat (first | (with_reducible exact HXw.out) | refine Ext.setCell ?_ (by simp; try omega) _)))

end Go.Proofs.YtifonmdcicegdaaGreat

namespace Go.Proofs.YtifonmdcicegdaaGreat
open Go Go.RowKit

/-- a fraction whose words have room behind them -/
def LentP (w : World) (f : Fr) (e : Ending) (w' : World) : Prop :=
  ∃ A c B d, e = .returned (.agg #[.bool f.neg, .slice A f.num.length c, .slice B f.den.length d]) ∧ Own w' w.heap.size A c (f.num ++ marks) ∧ Own w' w.heap.size B d (f.den ++ marks) ∧ (∀ a b, A = some a → B = some b → a.block ≠ b.block) ∧ Ext w w'

set_option maxHeartbeats 2000000 in
theorem klentR_any (f : Fr) (A B : Option Addr) (c d : Nat) (w : World) (ha : Rd w A c f.num) (hb : Rd w B d f.den) (hm : f.num.length ≤ 1000000) (hm' : f.den.length ≤ 1000000) :
    Calls Tryz.prog 13 #[.agg #[.bool f.neg, .slice A f.num.length c, .slice B f.den.length d]] w (LentP w f) := by
  obtain ⟨s, xs, ys⟩ := f
  simp only at *
  have HA := Lib.hid ha
  have HB := Lib.hid hb
  obtain ⟨l, hl⟩ : ∃ l, xs.length = l := ⟨_, rfl⟩
  obtain ⟨n, hn⟩ : ∃ n, ys.length = n := ⟨_, rfl⟩
  have HL := Lib.hid hl
  have HN := Lib.hid hn
  rw [hl] at hm ⊢
  rw [hn] at hm' ⊢
  clear ha hb hl hn
  have HS1 := Lib.hid (fun wx (hx : Ext w wx) => klent_any A xs c l wx (HA.out.ext hx) HL.out (by omega))
  have HS2 := Lib.hid (fun wx (hx : Ext w wx) => klent_any B ys d n wx (HB.out.ext hx) HN.out (by omega))
  have HX := Lib.hid (((Ext.refl w).alloc (.cells #[.bool s, .slice A l c, .slice B n d] 24)).alloc (.cells #[.bool false, .slice none 0 0, .slice none 0 0] 24))
  go_enter Tryz.func13, Tryz.ntmps13
  go_wp2_with fail
  obtain ⟨W, hW⟩ : ∃ W, W = (w.alloc (.cells #[.bool s, .slice A l c, .slice B n d] 24)).alloc (.cells #[.bool false, .slice none 0 0, .slice none 0 0] 24) := ⟨_, rfl⟩
  have F0 : Thr W w.heap.size (.bool s) (.slice A l c) (.slice B n d) := by rw [hW]; refine ⟨?_, ?_, ?_⟩ <;> simp [go_sem]
  have HV : Hid (VarF (w.heap.size + 1) W.heap.size Fr.zero none 0 none 0 W) := by
    have h1 := VarF.zero (w.alloc (.cells #[.bool s, .slice A l c, .slice B n d] 24)) W.heap.size
    rw [← hW] at h1
    unfold Hid
    simpa using h1
  have HZ := Lib.hid (show W.heap.size = w.heap.size + 2 by rw [hW]; simp)
  rw [← hW] at HX
  try rw [← hW]
  clear hW
  go_region_held3 (fun w' => w'.cell? ⟨w.heap.size, 0, none⟩ = some (.bool s) ∧ w'.cell? ⟨w.heap.size, 1, none⟩ = some (.slice A l c) ∧ w'.cell? ⟨w.heap.size, 2, none⟩ = some (.slice B n d)) (repeat (first | (with_reducible exact F0) | (with_reducible exact F1) | (with_reducible exact F2) | (with_reducible refine thr_drew ?_) | (with_reducible refine thr_set ?_ (by simp only; omega))))
    (first
      | (go_at_call 134; (with_reducible refine (HS1.out _ HX.out.drew).mono ?_); rintro e w1 ⟨A1, d1, rfl, k1, hx1⟩; have K1 := Lib.hid k1; have HX1 := Lib.hid hx1; have F1 := thr_ext hx1 (thr_drew F0); have hc1 : l + 3 ≤ d1 := (by have := k1.rd.cap; rw [List.length_append, HL.out] at this; exact this); have hc2 : (l : Int) ≤ (d1 : Int) := (by omega); have hc3 : (0 : Int) ≤ (l : Int) := (by omega); clear k1 hx1)
      | (go_at_call 134; (with_reducible refine (HS2.out _ (HX.out.drew.trans HX1.out)).mono ?_); rintro e w2 ⟨A2, d2, rfl, k2, hx2⟩; have K2 := Lib.hid k2; have HX2 := Lib.hid hx2; have F2 := thr_ext hx2 F1; have hd1 : n + 3 ≤ d2 := (by have := k2.rd.cap; rw [List.length_append, HN.out] at this; exact this); have hd2 : (n : Int) ≤ (d2 : Int) := (by omega); have hd3 : (0 : Int) ≤ (n : Int) := (by omega); have HVx := HV.out.ext ((((Ext.refl W).drew.trans HX1.out).trans hx2)); have v0 := HVx.c0; have v1 := HVx.c1; have v2 := HVx.c2; have fv0 := HVx.fr 0; have fv1 := HVx.fr 1; have fv2 := HVx.fr 2; clear k2 hx2 HVx))
  all_goals
    have hz := HZ.out
    have hy1 := HX1.out.size
    have bA := fun a (e : A1 = some a) => (show Own w1 _ (some a) d1 _ from e ▸ K1.out).block
    have bB := fun a (e : A2 = some a) => (show Own w2 _ (some a) d2 _ from e ▸ K2.out).block
    simp only [World.size_drew] at bA bB hy1
    have HO1 := Lib.hid ((K1.out.ext HX2.out).lower (show w.heap.size ≤ W.drew.heap.size by simp only [World.size_drew]; omega))
    have HO2 := Lib.hid (K2.out.lower (show w.heap.size ≤ w1.heap.size by omega))
    have HXw := Lib.hid (HX.out.trans (((Ext.refl W).drew.trans HX1.out).trans HX2.out))
    have HAp := Lib.hid (show ∀ a b, A1 = some a → A2 = some b → a.block ≠ b.block from fun a b ea eb e => by have h1 := bA a ea; have h2 := bB b eb; omega)
    have N1 := Lib.hid (show ∀ a, A1 = some a → a.block ≠ w.heap.size + 1 from fun a ea => by have h1 := bA a ea; omega)
    have N2 := Lib.hid (show ∀ a, A2 = some a → a.block ≠ w.heap.size + 1 from fun a ea => by have h1 := bB a ea; omega)
    clear bA bB hz hy1
    go_wp2_with fail
    exact bodyPost_ret (v := .agg #[.bool s, .slice A1 l d1, .slice A2 n d2]) (by simp [results, Tryz.results13, go_sem, v0, v1, v2]) rfl ⟨A1, d1, A2, d2, by simp only; rw [HL.out, HN.out], own_set (own_set (own_set HO1.out N1.out) N1.out) N1.out, own_set (own_set (own_set HO2.out N2.out) N2.out) N2.out, HAp.out, ((HXw.out.setCell (Nat.le_succ _) _).setCell (Nat.le_succ _) _).setCell (Nat.le_succ _) _⟩

set_option maxRecDepth 8000 in
set_option maxHeartbeats 2000000 in
theorem kkeptR_any (f : Fr) (A B C D : Option Addr) (a b c d : Nat) (w : World) (ha : Rd w A a (f.num ++ marks)) (hb : Rd w B b (f.den ++ marks)) (hc : Rd w C c f.num) (hd : Rd w D d f.den) (hm : f.num.length ≤ 1000000) (hm' : f.den.length ≤ 1000000) :
    Calls Tryz.prog 36 #[.agg #[.bool f.neg, .slice A f.num.length a, .slice B f.den.length b], .agg #[.bool f.neg, .slice C f.num.length c, .slice D f.den.length d]] w fun e w' => e = .returned (.bool true) ∧ Ext w w' := by
  obtain ⟨s, xs, ys⟩ := f
  simp only at *
  have HA := Lib.hid ha
  have HB := Lib.hid hb
  have HC := Lib.hid hc
  have HD := Lib.hid hd
  have cA : xs.length + 3 ≤ a := by have := ha.cap; rw [List.length_append] at this; exact this
  have cB : ys.length + 3 ≤ b := by have := hb.cap; rw [List.length_append] at this; exact this
  have mA := ha.capm
  have mB := hb.capm
  obtain ⟨l, hl⟩ : ∃ l, xs.length = l := ⟨_, rfl⟩
  obtain ⟨n, hn⟩ : ∃ n, ys.length = n := ⟨_, rfl⟩
  have HL := Lib.hid hl
  have HN := Lib.hid hn
  rw [hl] at hm cA ⊢
  rw [hn] at hm' cB ⊢
  clear ha hb hc hd hl hn
  have HS1 := Lib.hid (fun wx (hx : Ext w wx) => kkept_any A C xs a c l ((l : Int) + 3).toNat wx (HA.out.ext hx) (HC.out.ext hx) HL.out (by omega) (by omega))
  have HS2 := Lib.hid (fun wx (hx : Ext w wx) => kkept_any B D ys b d n ((n : Int) + 3).toNat wx (HB.out.ext hx) (HD.out.ext hx) HN.out (by omega) (by omega))
  have HX := Lib.hid (((Ext.refl w).alloc (.cells #[.bool s, .slice A l a, .slice B n b] 24)).alloc (.cells #[.bool s, .slice C l c, .slice D n d] 24))
  go_enter Tryz.func36, Tryz.ntmps36
  go_wp2_with fail
  obtain ⟨W, hW⟩ : ∃ W, W = (w.alloc (.cells #[.bool s, .slice A l a, .slice B n b] 24)).alloc (.cells #[.bool s, .slice C l c, .slice D n d] 24) := ⟨_, rfl⟩
  have F0 : Six W w.heap.size (.bool s) (.slice A l a) (.slice B n b) (.bool s) (.slice C l c) (.slice D n d) := by rw [hW]; refine ⟨?_, ?_, ?_, ?_, ?_, ?_⟩ <;> simp [go_sem]
  rw [← hW] at HX
  try rw [← hW]
  clear hW
  have hs1 : IntKind.i64.wrap ((l : Int) + 3) = (l : Int) + 3 := IntWalk.i64_in _ (by omega)
  have hs2 : IntKind.i64.wrap ((n : Int) + 3) = (n : Int) + 3 := IntWalk.i64_in _ (by omega)
  have hc2 : (l : Int) + 3 ≤ (a : Int) := by omega
  have hc3 : (0 : Int) ≤ (l : Int) + 3 := by omega
  have hd2 : (n : Int) + 3 ≤ (b : Int) := by omega
  have hd3 : (0 : Int) ≤ (n : Int) + 3 := by omega
  have hss : (s == s) = true := beq_self_eq_true s
  have hll : ((l : Int) == (l : Int)) = true := beq_self_eq_true _
  have hnn : ((n : Int) == (n : Int)) = true := beq_self_eq_true _
  go_region_held3 (fun w' => w'.cell? ⟨w.heap.size, 0, none⟩ = some (.bool s) ∧ w'.cell? ⟨w.heap.size, 1, none⟩ = some (.slice A l a) ∧ w'.cell? ⟨w.heap.size, 2, none⟩ = some (.slice B n b) ∧ w'.cell? ⟨w.heap.size + 1, 0, none⟩ = some (.bool s) ∧ w'.cell? ⟨w.heap.size + 1, 1, none⟩ = some (.slice C l c) ∧ w'.cell? ⟨w.heap.size + 1, 2, none⟩ = some (.slice D n d)) (repeat (first | (with_reducible exact F0) | (with_reducible exact F1) | (with_reducible exact F2) | (with_reducible refine six_drew ?_)))
    (first
      | (go_at_call 161; (with_reducible refine (HS1.out _ HX.out.drew).mono ?_); rintro e w1 ⟨rfl, hx1⟩; have HX1 := Lib.hid hx1; have F1 := six_ext hx1 (six_drew F0); clear hx1)
      | (go_at_call 161; (with_reducible refine (HS2.out _ (HX.out.drew.trans HX1.out)).mono ?_); rintro e w2 ⟨rfl, hx2⟩; have HX2 := Lib.hid hx2; have F2 := six_ext hx2 F1; clear hx2))
  all_goals
    go_wp2_with fail
    go_ret
    exact ⟨rfl, (HX.out.drew.trans HX1.out).trans HX2.out⟩

end Go.Proofs.YtifonmdcicegdaaGreat

namespace Go.Proofs.YtifonmdcicegdaaGreat
open Go Go.RowKit

/-- what a block holds -/
def Cells (w : World) (g : Nat) (vs : List Value) : Prop := g < w.heap.size ∧ ∀ j v, vs[j]? = some v → w.cell? ⟨g, j, none⟩ = some v
theorem Cells.ext {w w' : World} {g : Nat} {vs : List Value} (h : Cells w g vs) (e : Ext w w') : Cells w' g vs := ⟨Nat.lt_of_lt_of_le h.1 e.size, fun j v hj => e.cell (h.2 j v hj)⟩
theorem Cells.at {w : World} {g : Nat} {vs : List Value} (h : Cells w g vs) (j : Nat) (v : Value) (hj : vs[j]? = some v) : w.cell? ⟨g, j, none⟩ = some v := h.2 j v hj
theorem Cells.new (w : World) (vs : List Value) (t : TypeId) : Cells (w.alloc (.cells vs.toArray t)) w.heap.size vs :=
  ⟨by simp, fun j v hj => by rw [World.cell?_alloc_at (hn := rfl)]; simpa using hj⟩

/-- what may be handed about -/
def Small (a : Fr) : Prop := (a.num.length ≤ 1000000 ∧ Wf a.num) ∧ (a.den.length ≤ 1000000 ∧ Wf a.den)
theorem Small.wf {a : Fr} (h : Small a) : a.Wf := ⟨h.1.2, h.2.2⟩

end Go.Proofs.YtifonmdcicegdaaGreat

namespace Go.Proofs.YtifonmdcicegdaaGreat
open Go Go.RowKit

theorem info_ratio : (Tryz.prog.info? 24).map (fun i => (i.zero, i.size, i.bytes)) = some (some (.agg #[.bool false, .slice none 0 0, .slice none 0 0]), 3, 56) := by kernel_rfl
/-- a list of fractions of the call's own: its cells, and the words that it leads to -/
structure Rows2 (w : World) (base : Nat) (v : Value) (k : Nat) (P : Nat → Option Addr) (C : Nat → Nat) (F : Nat → Fr) (X : Nat → List Int) : Prop where
  row : ∃ vs, w.ownsRow base 24 3 v k vs ∧ ∀ j, j < k → vs[j * 3]? = some (.bool (F j).neg) ∧ vs[j * 3 + 1]? = some (.slice (P (2 * j)) (F j).num.length (C (2 * j))) ∧ vs[j * 3 + 2]? = some (.slice (P (2 * j + 1)) (F j).den.length (C (2 * j + 1)))
  own : ∀ j, j < 2 * k → Own w base (P j) (C j) (X j)
  ap : ∀ i j, i < 2 * k → j < 2 * k → i ≠ j → ∀ a b, P i = some a → P j = some b → a.block ≠ b.block
theorem Rows2.nil (w : World) (base : Nat) (F : Nat → Fr) (X : Nat → List Int) : Rows2 w base (.slice none 0 0) 0 (fun _ => none) (fun _ => 0) F X :=
  ⟨⟨[], World.ownsRow_nil w base _ 3, fun j hj => by omega⟩, fun j hj => by omega, fun i j hi => by omega⟩
theorem Rows2.ext {w w' : World} {base : Nat} {v : Value} {k : Nat} {P : Nat → Option Addr} {C : Nat → Nat} {F : Nat → Fr} {X : Nat → List Int} (h : Rows2 w base v k P C F X) (x : Ext w w') : Rows2 w' base v k P C F X := by
  obtain ⟨vs, h1, h2⟩ := h.row
  exact ⟨⟨vs, ownsRow_ext h1 x, h2⟩, fun j hj => (h.own j hj).ext x, h.ap⟩
theorem Rows2.slice {w : World} {base : Nat} {v : Value} {k : Nat} {P : Nat → Option Addr} {C : Nat → Nat} {F : Nat → Fr} {X : Nat → List Int} (h : Rows2 w base v k P C F X) (hk : 0 < k) : ∃ g cap, v = .slice (some ⟨g, 0, none⟩) k cap ∧ k ≤ cap ∧ cap ≤ 9223372036854775807 ∧ base ≤ g ∧ g < w.heap.size := by
  obtain ⟨vs, h1, h2⟩ := h.row
  rcases h1.2 with ⟨_, h3⟩ | ⟨g, cap, cur, h3, h4, h5, h6, h7, _⟩
  · omega
  · exact ⟨g, cap, h3, h6, by simp only [maxLen] at h7; omega, h4, (Array.getElem?_eq_some_iff.1 h5).1⟩
theorem Rows2.cells {w : World} {base g c : Nat} {k : Nat} {P : Nat → Option Addr} {C : Nat → Nat} {F : Nat → Fr} {X : Nat → List Int} (h : Rows2 w base (.slice (some ⟨g, 0, none⟩) k c) k P C F X) (j : Nat) (hj : j < k) :
    w.cell? ⟨g, j * 3, none⟩ = some (.bool (F j).neg) ∧ w.cell? ⟨g, j * 3 + 1, none⟩ = some (.slice (P (2 * j)) (F j).num.length (C (2 * j))) ∧ w.cell? ⟨g, j * 3 + 2, none⟩ = some (.slice (P (2 * j + 1)) (F j).den.length (C (2 * j + 1))) := by
  obtain ⟨vs, h1, h2⟩ := h.row
  obtain ⟨e0, e1, e2⟩ := h2 j hj
  exact ⟨(World.ownsRow.cellAt h1 _ (by omega)).trans e0, (World.ownsRow.cellAt h1 _ (by omega)).trans e1, (World.ownsRow.cellAt h1 _ (by omega)).trans e2⟩
theorem Rows2.setNe {w : World} {base : Nat} {v : Value} {k : Nat} {P : Nat → Option Addr} {C : Nat → Nat} {F : Nat → Fr} {X : Nat → List Int} {p : Addr} {u : Value} (h : Rows2 w base v k P C F X) (hv : v.ownBlock ≠ some p.block) (hP : ∀ j, j < 2 * k → ∀ a, P j = some a → a.block ≠ p.block) : Rows2 (w.setCell p u) base v k P C F X := by
  obtain ⟨vs, h1, h2⟩ := h.row
  exact ⟨⟨vs, h1.kept (grown_setCell w p u) (.inr hv), h2⟩, fun j hj => own_set (h.own j hj) (hP j hj), h.ap⟩
end Go.Proofs.YtifonmdcicegdaaGreat

namespace Go.Proofs.YtifonmdcicegdaaGreat
open Go Go.RowKit

theorem Rows2.lt {w : World} {base : Nat} {v : Value} {k : Nat} {P : Nat → Option Addr} {C : Nat → Nat} {F : Nat → Fr} {X : Nat → List Int} (h : Rows2 w base v k P C F X) : ∀ b, v.ownBlock = some b → base ≤ b ∧ b < w.heap.size := by
  obtain ⟨vs, h1, h2⟩ := h.row
  exact h1.lt
theorem Var.set {g : Nat} {vs : List Value} {w : World} (h : Var g vs w) (j : Nat) (u : Value) (hj : j < vs.length) : Var g (vs.set j u) (w.setCell ⟨g, j, none⟩ u) := by
  refine ⟨by simpa using h.lt, fun i v hi => ?_, fun o => by simpa using h.fr o⟩
  by_cases e : i = j
  · subst e
    rw [List.getElem?_set_self hj] at hi
    rw [World.cell?_setCell_same _ _ _ (h.at_ i _ (List.getElem?_eq_getElem hj)), hi]
  · rw [List.getElem?_set_ne (fun e2 => e e2.symm)] at hi
    exact (World.cell?_setCell_other _ _ _ _ (by intro hh; cases hh; exact e rfl)).trans (h.at_ i v hi)
theorem Var.grown {g : Nat} {vs : List Value} {w w' : World} {row : Option Nat} (h : Var g vs w) (hg : w.grownBy w' row) (hne : some g ≠ row) : Var g vs w' :=
  ⟨Nat.lt_of_lt_of_le h.lt hg.size, fun j v hj => cell_keep hg (h.at_ j v hj) hne, fun o => (World.frozen?_of_block (a := ⟨g, o, none⟩) (hg.block g h.lt hne)).trans (h.fr o)⟩
theorem Var.setNe {g : Nat} {vs : List Value} {w : World} {p : Addr} {u : Value} (h : Var g vs w) (hp : p.block ≠ g) : Var g vs (w.setCell p u) :=
  h.grown (grown_setCell w p u) (fun e => hp (Option.some.inj e).symm)

end Go.Proofs.YtifonmdcicegdaaGreat

namespace Go.Proofs.YtifonmdcicegdaaGreat
open Go Go.RowKit

/-- plus, of any two fractions that may be -/
theorem plus_fr (a b : Fr) (A B C D : Option Addr) (c1 c2 c3 c4 : Nat) (w : World) (ha : Rd w A c1 a.num) (hb : Rd w B c2 a.den) (hc : Rd w C c3 b.num) (hd : Rd w D c4 b.den) (wa : a.Wf) (wb : b.Wf) (h : fchk a = 0) (k : fchk b = 0) (r : Rat) (hr : a.q + b.q = r) :
    Calls Tryz.prog 136 #[.agg #[.bool a.neg, .slice A a.num.length c1, .slice B a.den.length c2], .agg #[.bool b.neg, .slice C b.num.length c3, .slice D b.den.length c4]] w (RatP w (tell r)) := by
  obtain ⟨p, rfl, lp⟩ := fchk_ok wa h
  obtain ⟨q, rfl, lq⟩ := fchk_ok wb k
  rw [dec_enc, dec_enc] at hr
  subst hr
  have h1 := not_lng lp
  have h2 := not_lng lq
  exact plus_gen (decide (p.num < 0)) (decide (q.num < 0)) A B C D p.num.natAbs p.den q.num.natAbs q.den c1 c2 c3 c4 w (p + q) ha hb hc hd p.den_nz q.den_nz h1.1 h1.2 h2.1 h2.2 (plus_cases p q)

end Go.Proofs.YtifonmdcicegdaaGreat

namespace Go.Proofs.YtifonmdcicegdaaGreat
open Go Go.RowKit

theorem rcheck_fr (a : Fr) (A B : Option Addr) (c d : Nat) (w : World) (ha : Rd w A c a.num) (hb : Rd w B d a.den) (wa : a.Wf) :
    Calls Tryz.prog 29 #[.agg #[.bool a.neg, .slice A a.num.length c, .slice B a.den.length d]] w fun e w' => e = .returned (.int .i64 (fchk a)) ∧ Ext w w' :=
  rcheck_any a.neg A B a.num a.den c d w ha hb wa.num wa.den
theorem fchk2_zero {a b : Fr} (h : fchk2 a b = 0) : fchk a = 0 ∧ fchk b = 0 := by
  unfold fchk2 at h
  by_cases h1 : fchk a ≠ 0
  · rw [if_pos h1] at h; exact absurd h h1
  · rw [if_neg h1] at h; exact ⟨by simpa using h1, h⟩
theorem both_good {a b : Fr} {r} (h : fchk2 a b = 0) : both a b r = r a.q b.q := by
  obtain ⟨h1, h2⟩ := fchk2_zero h
  unfold both
  rw [if_neg (by omega), if_neg (by omega)]

set_option maxHeartbeats 1000000 in
theorem checks_any (a b : Fr) (A B C D : Option Addr) (c1 c2 c3 c4 : Nat) (w : World) (ha : Rd w A c1 a.num) (hb : Rd w B c2 a.den) (hc : Rd w C c3 b.num) (hd : Rd w D c4 b.den) (wa : a.Wf) (wb : b.Wf) :
    Calls Tryz.prog 135 #[.agg #[.bool a.neg, .slice A a.num.length c1, .slice B a.den.length c2], .agg #[.bool b.neg, .slice C b.num.length c3, .slice D b.den.length c4]] w fun e w' => e = .returned (.int .i64 (fchk2 a b)) ∧ Ext w w' := by
  have HA := Lib.hid ha
  have HB := Lib.hid hb
  have HC := Lib.hid hc
  have HD := Lib.hid hd
  clear ha hb hc hd
  have HX := Lib.hid (((Ext.refl w).alloc (.cells #[.bool a.neg, .slice A a.num.length c1, .slice B a.den.length c2] 24)).alloc (.cells #[.bool b.neg, .slice C b.num.length c3, .slice D b.den.length c4] 24))
  by_cases h1 : fchk a ≠ 0
  · have HE := Lib.hid (show fchk2 a b = fchk a from if_pos h1)
    have hb1 : (fchk a != 0) = true := bne_iff_ne.2 h1
    rw [HE.out]
    clear h1
    go_enter Tryz.func135, Tryz.ntmps135
    go_wp2_with fail
    refine (rcheck_fr a A B c1 c2 _ (HA.out.ext HX.out) (HB.out.ext HX.out) wa).mono ?_; rintro e w1 ⟨rfl, hx1⟩
    have HX1 := Lib.hid (HX.out.trans hx1)
    clear hx1
    go_wp2_with fail
    go_ret
    exact ⟨rfl, HX1.out⟩
  · have HE := Lib.hid (show fchk2 a b = fchk b from if_neg h1)
    have hb1 : (fchk a != 0) = false := bne_eq_false_iff_eq.2 (by simpa using h1)
    rw [HE.out]
    clear h1
    go_enter Tryz.func135, Tryz.ntmps135
    go_wp2_with fail
    refine (rcheck_fr a A B c1 c2 _ (HA.out.ext HX.out) (HB.out.ext HX.out) wa).mono ?_; rintro e w1 ⟨rfl, hx1⟩
    obtain ⟨hc, hf⟩ := bcell hx1
    have HX1 := Lib.hid (HX.out.trans hx1)
    clear hx1
    go_wp2_with fail
    refine (rcheck_fr b C D c3 c4 _ (HC.out.ext HX1.out) (HD.out.ext HX1.out) wb).mono ?_; rintro e w2 ⟨rfl, hx2⟩
    have HX2 := Lib.hid (HX1.out.trans hx2)
    clear hx2 hc hf
    go_wp2_with fail
    go_ret
    exact ⟨rfl, HX2.out⟩

set_option maxRecDepth 4000 in
set_option maxHeartbeats 2000000 in
theorem add_fr (a b : Fr) (A B C D : Option Addr) (c1 c2 c3 c4 : Nat) (w : World) (ha : Rd w A c1 a.num) (hb : Rd w B c2 a.den) (hc : Rd w C c3 b.num) (hd : Rd w D c4 b.den) (wa : a.Wf) (wb : b.Wf) :
    Calls Tryz.prog 14 #[.agg #[.bool a.neg, .slice A a.num.length c1, .slice B a.den.length c2], .agg #[.bool b.neg, .slice C b.num.length c3, .slice D b.den.length c4]] w (RatP w (fadd a b)) := by
  have HA := Lib.hid ha
  have HB := Lib.hid hb
  have HC := Lib.hid hc
  have HD := Lib.hid hd
  clear ha hb hc hd
  by_cases hk : fchk2 a b ≠ 0
  · have HT := Lib.hid (show fadd a b = (Fr.zero, fchk2 a b) from both_bad hk)
    have hb1 : (fchk2 a b != 0) = true := bne_iff_ne.2 hk
    clear hk
    go_enter Tryz.func14, Tryz.ntmps14
    go_wp2_with fail
    obtain ⟨W, hW⟩ : ∃ W, W = ((w.alloc (.cells #[.bool a.neg, .slice A a.num.length c1, .slice B a.den.length c2] 24)).alloc (.cells #[.bool b.neg, .slice C b.num.length c3, .slice D b.den.length c4] 24)).alloc (.cells #[.bool false, .slice none 0 0, .slice none 0 0] 24) := ⟨_, rfl⟩
    have F0 : Six W w.heap.size (.bool a.neg) (.slice A a.num.length c1) (.slice B a.den.length c2) (.bool b.neg) (.slice C b.num.length c3) (.slice D b.den.length c4) := by rw [hW]; refine ⟨?_, ?_, ?_, ?_, ?_, ?_⟩ <;> simp [go_sem]
    have HX : Hid (Ext w W) := by rw [hW]; exact (((Ext.refl w).alloc _).alloc _).alloc _
    have HV : Hid (VarF (w.heap.size + 2) W.heap.size Fr.zero none 0 none 0 W) := by
      have h1 := VarF.zero ((w.alloc (.cells #[.bool a.neg, .slice A a.num.length c1, .slice B a.den.length c2] 24)).alloc (.cells #[.bool b.neg, .slice C b.num.length c3, .slice D b.den.length c4] 24)) W.heap.size
      rw [← hW] at h1
      unfold Hid
      simpa using h1
    have HZ := Lib.hid (show W.heap.size = w.heap.size + 3 by rw [hW]; simp)
    try rw [← hW]
    clear hW
    refine (checks_any a b A B C D c1 c2 c3 c4 W (HA.out.ext HX.out) (HB.out.ext HX.out) (HC.out.ext HX.out) (HD.out.ext HX.out) wa wb).mono ?_; rintro e w1 ⟨rfl, hx1⟩
    have F1 := six_ext hx1 F0
    have HX1 := Lib.hid (HX.out.trans hx1)
    have HV1 := Lib.hid (HV.out.ext hx1)
    have HZ1 := Lib.hid (show w.heap.size + 3 ≤ w1.heap.size by have := hx1.size; have := HZ.out; omega)
    clear hx1 F0 HX HV
    have r0 := HV1.out.c0
    have s0 := HV1.out.fr 0
    have r1 := HV1.out.c1
    have s1 := HV1.out.fr 1
    have r2 := HV1.out.c2
    have s2 := HV1.out.fr 2
    clear F1
    go_wp2_with fail
    exact bodyPost_ret (v := .tuple #[.agg #[.bool false, .slice none 0 0, .slice none 0 0], .int .i64 (fchk2 a b)]) (by simp [results, Tryz.results14, go_sem, r0, r1, r2]) rfl (RatP.nil HT.out rfl (by repeat (first | (with_reducible exact HX1.out) | refine Ext.setCell ?_ (by simp; try omega) _)))
  have h0 : fchk2 a b = 0 := by simpa using hk
  have hb1 : (fchk2 a b != 0) = false := bne_eq_false_iff_eq.2 h0
  obtain ⟨k1, k2⟩ := fchk2_zero h0
  obtain ⟨t, ht⟩ : ∃ t, t = tell (a.q + b.q) := ⟨_, rfl⟩
  have HT := Lib.hid (show fadd a b = t by rw [ht]; exact both_good h0)
  have HP := Lib.hid (fun wx (hx : Ext w wx) => plus_fr a b A B C D c1 c2 c3 c4 wx (HA.out.ext hx) (HB.out.ext hx) (HC.out.ext hx) (HD.out.ext hx) wa wb k1 k2 _ rfl)
  rw [← ht] at HP
  clear ht hk k1 k2 h0
  go_enter Tryz.func14, Tryz.ntmps14
  go_wp2_with fail
  obtain ⟨W, hW⟩ : ∃ W, W = ((w.alloc (.cells #[.bool a.neg, .slice A a.num.length c1, .slice B a.den.length c2] 24)).alloc (.cells #[.bool b.neg, .slice C b.num.length c3, .slice D b.den.length c4] 24)).alloc (.cells #[.bool false, .slice none 0 0, .slice none 0 0] 24) := ⟨_, rfl⟩
  have F0 : Six W w.heap.size (.bool a.neg) (.slice A a.num.length c1) (.slice B a.den.length c2) (.bool b.neg) (.slice C b.num.length c3) (.slice D b.den.length c4) := by rw [hW]; refine ⟨?_, ?_, ?_, ?_, ?_, ?_⟩ <;> simp [go_sem]
  have HX : Hid (Ext w W) := by rw [hW]; exact (((Ext.refl w).alloc _).alloc _).alloc _
  have HV : Hid (VarF (w.heap.size + 2) W.heap.size Fr.zero none 0 none 0 W) := by
    have h1 := VarF.zero ((w.alloc (.cells #[.bool a.neg, .slice A a.num.length c1, .slice B a.den.length c2] 24)).alloc (.cells #[.bool b.neg, .slice C b.num.length c3, .slice D b.den.length c4] 24)) W.heap.size
    rw [← hW] at h1
    unfold Hid
    simpa using h1
  have HZ := Lib.hid (show W.heap.size = w.heap.size + 3 by rw [hW]; simp)
  try rw [← hW]
  clear hW
  refine (checks_any a b A B C D c1 c2 c3 c4 W (HA.out.ext HX.out) (HB.out.ext HX.out) (HC.out.ext HX.out) (HD.out.ext HX.out) wa wb).mono ?_; rintro e w1 ⟨rfl, hx1⟩
  have F1 := six_ext hx1 F0
  have HX1 := Lib.hid (HX.out.trans hx1)
  have HV1 := Lib.hid (HV.out.ext hx1)
  have HZ1 := Lib.hid (show w.heap.size + 3 ≤ w1.heap.size by have := hx1.size; have := HZ.out; omega)
  clear hx1 F0 HX HV
  obtain ⟨u0, u1, u2, v0, v1, v2⟩ := F1
  go_wp2_with fail
  clear u0 u1 u2 v0 v1 v2
  refine (HP.out _ HX1.out).mono ?_; rintro e w9 ⟨A9, c9, B9, d9, rfl, o1, o2, ap, hx⟩
  have hzz := HZ1.out
  have O1 := Lib.hid (o1.lower (show w.heap.size + 3 ≤ w1.heap.size by omega))
  have O2 := Lib.hid (o2.lower (show w.heap.size + 3 ≤ w1.heap.size by omega))
  have AP := Lib.hid ap
  have HX9 := Lib.hid (HX1.out.trans hx)
  have HV9 := Lib.hid (HV1.out.ext hx)
  have r0 := HV9.out.c0
  have s0 := HV9.out.fr 0
  have r1 := HV9.out.c1
  have s1 := HV9.out.fr 1
  have r2 := HV9.out.c2
  have s2 := HV9.out.fr 2
  clear o1 o2 ap hx
  go_wp2_with fail
  exact bodyPost_ret (v := .tuple #[.agg #[.bool t.1.neg, .slice A9 t.1.num.length c9, .slice B9 t.1.den.length d9], .int .i64 t.2]) (by simp [results, Tryz.results14, go_sem, r0, r1, r2]) rfl (RatP.mk HT.out rfl (by refine Own.lower ?_ (show w.heap.size ≤ w.heap.size + 3 by omega); repeat (first | (with_reducible exact O1.out) | refine Own.setBelow ?_ (by simp; try omega) _)) (by refine Own.lower ?_ (show w.heap.size ≤ w.heap.size + 3 by omega); repeat (first | (with_reducible exact O2.out) | refine Own.setBelow ?_ (by simp; try omega) _)) AP.out (by repeat (first | (with_reducible exact HX9.out) | refine Ext.setCell ?_ (by simp; try omega) _)))

end Go.Proofs.YtifonmdcicegdaaGreat

namespace Go.Proofs.YtifonmdcicegdaaGreat
open Go Go.RowKit

/-- the opposite -/
def fturn (b : Fr) : Fr := ⟨!b.neg && decide (0 < b.num.length), b.num, b.den⟩
theorem fturn_enc (q : Rat) : fturn (enc q) = enc (-q) := by rw [enc_neg]; rfl
theorem lng_neg (q : Rat) : lng (-q) = lng q := by unfold lng; rw [Rat.neg_num, Rat.neg_den, Int.natAbs_neg]
theorem fturn_ok {b : Fr} (wb : b.Wf) (h : fchk b = 0) : (fturn b).Wf ∧ fchk (fturn b) = 0 ∧ (fturn b).q = -b.q := by
  obtain ⟨q, rfl, lq⟩ := fchk_ok wb h
  rw [fturn_enc, dec_enc, dec_enc]
  exact ⟨enc_wf _, fchk_enc _ (by rw [lng_neg]; exact lq), rfl⟩
theorem fneg_ok {b : Fr} (wb : b.Wf) (h : fchk b = 0) : fneg b = (fturn b, 0) := by
  obtain ⟨q, rfl, lq⟩ := fchk_ok wb h
  unfold fneg
  rw [if_neg (by omega), fturn_enc, dec_enc]
theorem fchk_small {b : Fr} (h : fchk b = 0) : b.num.length ≤ 2048 ∧ b.den.length ≤ 2048 := by
  unfold fchk at h
  by_cases h1 : 2048 < b.num.length
  · rw [if_pos h1] at h; omega
  · rw [if_neg h1] at h
    by_cases h2 : 2048 < b.den.length
    · rw [if_pos h2] at h; omega
    · omega
theorem six_set {w : World} {h : Nat} {a b c d e f : Value} {p : Addr} {u : Value} (H : Six w h a b c d e f) (h1 : p.block ≠ h) (h2 : p.block ≠ h + 1) : Six (w.setCell p u) h a b c d e f :=
  have hg := grown_setCell w p u
  ⟨cell_keep hg H.1 (fun e => h1 (Option.some.inj e).symm), cell_keep hg H.2.1 (fun e => h1 (Option.some.inj e).symm), cell_keep hg H.2.2.1 (fun e => h1 (Option.some.inj e).symm), cell_keep hg H.2.2.2.1 (fun e => h2 (Option.some.inj e).symm), cell_keep hg H.2.2.2.2.1 (fun e => h2 (Option.some.inj e).symm), cell_keep hg H.2.2.2.2.2 (fun e => h2 (Option.some.inj e).symm)⟩

set_option maxHeartbeats 1000000 in
theorem turned_any (b : Fr) (C D : Option Addr) (c3 c4 : Nat) (w : World) :
    Calls Tryz.prog 139 #[.agg #[.bool b.neg, .slice C b.num.length c3, .slice D b.den.length c4]] w fun e w' => e = .returned (.agg #[.bool (fturn b).neg, .slice C b.num.length c3, .slice D b.den.length c4]) ∧ Ext w w' := by
  obtain ⟨s, xs, ys⟩ := b
  have HX := Lib.hid ((Ext.refl w).alloc (.cells #[.bool s, .slice C xs.length c3, .slice D ys.length c4] 24))
  cases s with
  | true =>
    go_enter Tryz.func139, Tryz.ntmps139
    go_wp2_with fail
    exact bodyPost_ret (v := .agg #[.bool false, .slice C xs.length c3, .slice D ys.length c4]) (by simp [results, Tryz.results139, go_sem]) rfl ⟨rfl, by repeat (first | exact Ext.refl _ | refine Ext.setCell ?_ (by simp) _ | refine Ext.alloc ?_ _)⟩
  | false =>
    have HE := Lib.hid (show (fturn ⟨false, xs, ys⟩).neg = decide (0 < xs.length) from rfl)
    obtain ⟨v, hv⟩ : ∃ v : Bool, v = decide (0 < xs.length) := ⟨_, rfl⟩
    rw [HE.out, ← hv]
    have hv2 : decide ((0 : Int) < (xs.length : Int)) = v := by rw [hv]; exact decide_eq_decide.2 (by omega)
    cases v with
    | true =>
      have h1 : 0 < xs.length := of_decide_eq_true hv.symm
      clear hv hv2 HE
      go_enter Tryz.func139, Tryz.ntmps139
      go_wp2_with fail
      exact bodyPost_ret (v := .agg #[.bool true, .slice C xs.length c3, .slice D ys.length c4]) (by simp [results, Tryz.results139, go_sem]) rfl ⟨rfl, by repeat (first | exact Ext.refl _ | refine Ext.setCell ?_ (by simp) _ | refine Ext.alloc ?_ _)⟩
    | false =>
      have h1 : ¬ (0 < xs.length) := of_decide_eq_false hv.symm
      clear hv hv2 HE
      go_enter Tryz.func139, Tryz.ntmps139
      go_wp2_with fail
      exact bodyPost_ret (v := .agg #[.bool false, .slice C xs.length c3, .slice D ys.length c4]) (by simp [results, Tryz.results139, go_sem]) rfl ⟨rfl, by repeat (first | exact Ext.refl _ | refine Ext.setCell ?_ (by simp) _ | refine Ext.alloc ?_ _)⟩
theorem turned_rd (b : Fr) (C D : Option Addr) (c3 c4 : Nat) (w : World) (hc : Rd w C c3 b.num) (hd : Rd w D c4 b.den) (_ : b.num.length ≤ 2048 ∧ b.den.length ≤ 2048) :
    Calls Tryz.prog 139 #[.agg #[.bool b.neg, .slice C b.num.length c3, .slice D b.den.length c4]] w fun e w' => ∃ C' c' D' d', e = .returned (.agg #[.bool (fturn b).neg, .slice C' b.num.length c', .slice D' b.den.length d']) ∧ Rd w' C' c' b.num ∧ Rd w' D' d' b.den ∧ Ext w w' :=
  (turned_any b C D c3 c4 w).mono fun _ _ ⟨h1, h2⟩ => ⟨C, c3, D, c4, h1, hc.ext h2, hd.ext h2, h2⟩

set_option maxRecDepth 4000 in
set_option maxHeartbeats 2000000 in
theorem sub_fr (a b : Fr) (A B C D : Option Addr) (c1 c2 c3 c4 : Nat) (w : World) (ha : Rd w A c1 a.num) (hb : Rd w B c2 a.den) (hc : Rd w C c3 b.num) (hd : Rd w D c4 b.den) (wa : a.Wf) (wb : b.Wf) :
    Calls Tryz.prog 17 #[.agg #[.bool a.neg, .slice A a.num.length c1, .slice B a.den.length c2], .agg #[.bool b.neg, .slice C b.num.length c3, .slice D b.den.length c4]] w (RatP w (fsub a b)) := by
  have HA := Lib.hid ha
  have HB := Lib.hid hb
  have HC := Lib.hid hc
  have HD := Lib.hid hd
  clear ha hb hc hd
  by_cases hk : fchk2 a b ≠ 0
  · have HT := Lib.hid (show fsub a b = (Fr.zero, fchk2 a b) from both_bad hk)
    have hb1 : (fchk2 a b != 0) = true := bne_iff_ne.2 hk
    clear hk
    go_enter Tryz.func17, Tryz.ntmps17
    go_wp2_with fail
    obtain ⟨W, hW⟩ : ∃ W, W = ((w.alloc (.cells #[.bool a.neg, .slice A a.num.length c1, .slice B a.den.length c2] 24)).alloc (.cells #[.bool b.neg, .slice C b.num.length c3, .slice D b.den.length c4] 24)).alloc (.cells #[.bool false, .slice none 0 0, .slice none 0 0] 24) := ⟨_, rfl⟩
    have F0 : Six W w.heap.size (.bool a.neg) (.slice A a.num.length c1) (.slice B a.den.length c2) (.bool b.neg) (.slice C b.num.length c3) (.slice D b.den.length c4) := by rw [hW]; refine ⟨?_, ?_, ?_, ?_, ?_, ?_⟩ <;> simp [go_sem]
    have HX : Hid (Ext w W) := by rw [hW]; exact (((Ext.refl w).alloc _).alloc _).alloc _
    have HV : Hid (VarF (w.heap.size + 2) W.heap.size Fr.zero none 0 none 0 W) := by
      have h1 := VarF.zero ((w.alloc (.cells #[.bool a.neg, .slice A a.num.length c1, .slice B a.den.length c2] 24)).alloc (.cells #[.bool b.neg, .slice C b.num.length c3, .slice D b.den.length c4] 24)) W.heap.size
      rw [← hW] at h1
      unfold Hid
      simpa using h1
    have HZ := Lib.hid (show W.heap.size = w.heap.size + 3 by rw [hW]; simp)
    try rw [← hW]
    clear hW
    refine (checks_any a b A B C D c1 c2 c3 c4 W (HA.out.ext HX.out) (HB.out.ext HX.out) (HC.out.ext HX.out) (HD.out.ext HX.out) wa wb).mono ?_; rintro e w1 ⟨rfl, hx1⟩
    have F1 := six_ext hx1 F0
    have HX1 := Lib.hid (HX.out.trans hx1)
    have HV1 := Lib.hid (HV.out.ext hx1)
    have HZ1 := Lib.hid (show w.heap.size + 3 ≤ w1.heap.size by have := hx1.size; have := HZ.out; omega)
    clear hx1 F0 HX HV
    have r0 := HV1.out.c0
    have s0 := HV1.out.fr 0
    have r1 := HV1.out.c1
    have s1 := HV1.out.fr 1
    have r2 := HV1.out.c2
    have s2 := HV1.out.fr 2
    clear F1
    go_wp2_with fail
    exact bodyPost_ret (v := .tuple #[.agg #[.bool false, .slice none 0 0, .slice none 0 0], .int .i64 (fchk2 a b)]) (by simp [results, Tryz.results17, go_sem, r0, r1, r2]) rfl (RatP.nil HT.out rfl (by repeat (first | (with_reducible exact HX1.out) | refine Ext.setCell ?_ (by simp; try omega) _)))
  have h0 : fchk2 a b = 0 := by simpa using hk
  have hb1 : (fchk2 a b != 0) = false := bne_eq_false_iff_eq.2 h0
  obtain ⟨k1, k2⟩ := fchk2_zero h0
  obtain ⟨t, ht⟩ : ∃ t, t = tell (a.q - b.q) := ⟨_, rfl⟩
  have HT := Lib.hid (show fsub a b = t by rw [ht]; exact both_good h0)
  obtain ⟨k3, k4, k5⟩ := fturn_ok wb k2
  have HTU := Lib.hid (fun wx (hx : Ext w wx) => turned_rd b C D c3 c4 wx (HC.out.ext hx) (HD.out.ext hx) (fchk_small k2))
  have HP := Lib.hid (fun wx (hx : Ext w wx) (C' D' : Option Addr) (c' d' : Nat) (h1 : Rd wx C' c' b.num) (h2 : Rd wx D' d' b.den) => show Calls Tryz.prog 136 #[.agg #[.bool a.neg, .slice A a.num.length c1, .slice B a.den.length c2], .agg #[.bool (fturn b).neg, .slice C' b.num.length c', .slice D' b.den.length d']] wx (RatP wx (tell (a.q - b.q))) from plus_fr a (fturn b) A B C' D' c1 c2 c' d' wx (HA.out.ext hx) (HB.out.ext hx) h1 h2 wa k3 k1 k4 (a.q - b.q) (by rw [k5, Rat.sub_eq_add_neg]))
  rw [← ht] at HP
  clear ht hk k1 k2 h0 k3 k4 k5
  go_enter Tryz.func17, Tryz.ntmps17
  go_wp2_with fail
  obtain ⟨W, hW⟩ : ∃ W, W = ((w.alloc (.cells #[.bool a.neg, .slice A a.num.length c1, .slice B a.den.length c2] 24)).alloc (.cells #[.bool b.neg, .slice C b.num.length c3, .slice D b.den.length c4] 24)).alloc (.cells #[.bool false, .slice none 0 0, .slice none 0 0] 24) := ⟨_, rfl⟩
  have F0 : Six W w.heap.size (.bool a.neg) (.slice A a.num.length c1) (.slice B a.den.length c2) (.bool b.neg) (.slice C b.num.length c3) (.slice D b.den.length c4) := by rw [hW]; refine ⟨?_, ?_, ?_, ?_, ?_, ?_⟩ <;> simp [go_sem]
  have HX : Hid (Ext w W) := by rw [hW]; exact (((Ext.refl w).alloc _).alloc _).alloc _
  have HV : Hid (VarF (w.heap.size + 2) W.heap.size Fr.zero none 0 none 0 W) := by
    have h1 := VarF.zero ((w.alloc (.cells #[.bool a.neg, .slice A a.num.length c1, .slice B a.den.length c2] 24)).alloc (.cells #[.bool b.neg, .slice C b.num.length c3, .slice D b.den.length c4] 24)) W.heap.size
    rw [← hW] at h1
    unfold Hid
    simpa using h1
  have HZ := Lib.hid (show W.heap.size = w.heap.size + 3 by rw [hW]; simp)
  try rw [← hW]
  clear hW
  refine (checks_any a b A B C D c1 c2 c3 c4 W (HA.out.ext HX.out) (HB.out.ext HX.out) (HC.out.ext HX.out) (HD.out.ext HX.out) wa wb).mono ?_; rintro e w1 ⟨rfl, hx1⟩
  have F1 := six_ext hx1 F0
  have HX1 := Lib.hid (HX.out.trans hx1)
  have HV1 := Lib.hid (HV.out.ext hx1)
  have HZ1 := Lib.hid (show w.heap.size + 3 ≤ w1.heap.size by have := hx1.size; have := HZ.out; omega)
  clear hx1 F0 HX HV
  obtain ⟨u0, u1, u2, v0, v1, v2⟩ := id F1
  go_wp2_with fail
  have hzz := HZ1.out
  go_region_held3 (fun w' => w'.cell? ⟨w.heap.size, 0, none⟩ = some (.bool a.neg) ∧ w'.cell? ⟨w.heap.size, 1, none⟩ = some (.slice A a.num.length c1) ∧ w'.cell? ⟨w.heap.size, 2, none⟩ = some (.slice B a.den.length c2) ∧ w'.cell? ⟨w.heap.size + 1, 0, none⟩ = some (.bool b.neg) ∧ w'.cell? ⟨w.heap.size + 1, 1, none⟩ = some (.slice C b.num.length c3) ∧ w'.cell? ⟨w.heap.size + 1, 2, none⟩ = some (.slice D b.den.length c4)) (repeat (first | (with_reducible exact F1) | (with_reducible exact F2) | (with_reducible exact F3) | (with_reducible exact F4) | (with_reducible refine six_drew ?_) | (with_reducible refine six_set ?_ (by simp only; omega) (by simp only; omega))))
    (first
      | (go_at_call 139; ((with_reducible refine (HTU.out _ HX1.out.drew).mono ?_)); rintro e w2 ⟨C5, c5, D5, d5, rfl, p1, p2, hx2⟩; have P1 := Lib.hid p1; have P2 := Lib.hid p2; have HX2 := Lib.hid hx2; have F2 := six_ext hx2 (six_drew F1); clear p1 p2 hx2)
      | (go_at_call 136; ((with_reducible refine (HP.out _ (HX1.out.drew.trans HX2.out) C5 D5 c5 d5 P1.out P2.out).mono ?_)); rintro e w9 ⟨A9, c9, B9, d9, rfl, o1, o2, ap, hx⟩; have O1 := Lib.hid (o1.lower (show w.heap.size + 3 ≤ w2.heap.size by have := HX2.out.size; simp only [World.size_drew] at this; omega)); have O2 := Lib.hid (o2.lower (show w.heap.size + 3 ≤ w2.heap.size by have := HX2.out.size; simp only [World.size_drew] at this; omega)); have AP := Lib.hid ap; have HX9 := Lib.hid ((HX1.out.drew.trans HX2.out).trans hx); have F3 := six_ext hx F2; have HV9 := HV1.out.ext (((Ext.refl _).drew.trans HX2.out).trans hx); have r0 := HV9.c0; have s0 := HV9.fr 0; have r1 := HV9.c1; have s1 := HV9.fr 1; have r2 := HV9.c2; have s2 := HV9.fr 2; clear o1 o2 ap hx HV9))
  all_goals
    go_wp2_with fail
    exact bodyPost_ret (v := .tuple #[.agg #[.bool t.1.neg, .slice A9 t.1.num.length c9, .slice B9 t.1.den.length d9], .int .i64 t.2]) (by simp [results, Tryz.results17, go_sem, r0, r1, r2]) rfl (RatP.mk HT.out rfl (by refine Own.lower ?_ (show w.heap.size ≤ w.heap.size + 3 by omega); repeat (first | (with_reducible exact O1.out) | refine Own.setBelow ?_ (by simp; try omega) _)) (by refine Own.lower ?_ (show w.heap.size ≤ w.heap.size + 3 by omega); repeat (first | (with_reducible exact O2.out) | refine Own.setBelow ?_ (by simp; try omega) _)) AP.out (by repeat (first | (with_reducible exact HX9.out) | refine Ext.setCell ?_ (by simp; try omega) _)))

end Go.Proofs.YtifonmdcicegdaaGreat

