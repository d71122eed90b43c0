/- LentRatio, KeptRatio. -/
import Derived.Test.YtnhgagfkepmanaaK5
import Derived.Test.YtnhgagfkepmanaaS2
namespace Go.Proofs.Ytnhgagfkepmanaa
open Go Go.RowKit

abbrev Thr (w : World) (g : Nat) (a b c : Value) : Prop := w.cell? ⟨g, 0, none⟩ = some a ∧ w.cell? ⟨g, 1, none⟩ = some b ∧ w.cell? ⟨g, 2, none⟩ = some c
theorem thr_ext {w w' : World} {g : Nat} {a b c : Value} (x : Ext w w') (H : Thr w g a b c) : Thr w' g a b c := ⟨x.cell H.1, x.cell H.2.1, x.cell H.2.2⟩
theorem thr_drew {w : World} {g : Nat} {a b c : Value} (H : Thr w g a b c) : Thr w.drew g a b c := H

theorem thr_set {w : World} {g : Nat} {a b c : Value} {p : Addr} {u : Value} (H : Thr w g a b c) (h1 : p.block ≠ g) : Thr (w.setCell p u) g a b c :=
  have hg := grown_setCell w p u
  ⟨cell_keep hg H.1 (fun e => h1 (Option.some.inj e).symm), cell_keep hg H.2.1 (fun e => h1 (Option.some.inj e).symm), cell_keep hg H.2.2 (fun e => h1 (Option.some.inj e).symm)⟩

/-- a fraction whose words have room behind them -/
def LentP (w : World) (f : Fr) (e : Ending) (w' : World) : Prop :=
  ∃ A c B d, e = .returned (.agg #[.bool f.neg, .slice A f.num.length c, .slice B f.den.length d]) ∧ Own w' w.heap.size A c (f.num ++ marks) ∧ Own w' w.heap.size B d (f.den ++ marks) ∧ (∀ a b, A = some a → B = some b → a.block ≠ b.block) ∧ Ext w w'

set_option maxHeartbeats 2000000 in
theorem klentR_any (f : Fr) (A B : Option Addr) (c d : Nat) (w : World) (ha : Rd w A c f.num) (hb : Rd w B d f.den) (hm : f.num.length ≤ 1000000) (hm' : f.den.length ≤ 1000000) :
    Calls Try.prog 29 #[.agg #[.bool f.neg, .slice A f.num.length c, .slice B f.den.length d]] w (LentP w f) := by
  obtain ⟨s, xs, ys⟩ := f
  simp only at *
  have HA := Lib.hid ha
  have HB := Lib.hid hb
  obtain ⟨l, hl⟩ : ∃ l, xs.length = l := ⟨_, rfl⟩
  obtain ⟨n, hn⟩ : ∃ n, ys.length = n := ⟨_, rfl⟩
  have HL := Lib.hid hl
  have HN := Lib.hid hn
  rw [hl] at hm ⊢
  rw [hn] at hm' ⊢
  clear ha hb hl hn
  have HS1 := Lib.hid (fun wx (hx : Ext w wx) => klent_any A xs c l wx (HA.out.ext hx) HL.out (by omega))
  have HS2 := Lib.hid (fun wx (hx : Ext w wx) => klent_any B ys d n wx (HB.out.ext hx) HN.out (by omega))
  have HX := Lib.hid (((Ext.refl w).alloc (.cells #[.bool s, .slice A l c, .slice B n d] 27)).alloc (.cells #[.bool false, .slice none 0 0, .slice none 0 0] 27))
  go_enter Try.func29, Try.ntmps29
  go_wp2_with fail
  obtain ⟨W, hW⟩ : ∃ W, W = (w.alloc (.cells #[.bool s, .slice A l c, .slice B n d] 27)).alloc (.cells #[.bool false, .slice none 0 0, .slice none 0 0] 27) := ⟨_, rfl⟩
  have F0 : Thr W w.heap.size (.bool s) (.slice A l c) (.slice B n d) := by rw [hW]; refine ⟨?_, ?_, ?_⟩ <;> simp [go_sem]
  have HV : Hid (VarF (w.heap.size + 1) W.heap.size Fr.zero none 0 none 0 W) := by
    have h1 := VarF.zero (w.alloc (.cells #[.bool s, .slice A l c, .slice B n d] 27)) W.heap.size
    rw [← hW] at h1
    unfold Hid
    simpa using h1
  have HZ := Lib.hid (show W.heap.size = w.heap.size + 2 by rw [hW]; simp)
  rw [← hW] at HX
  try rw [← hW]
  clear hW
  go_region_held3 (fun w' => w'.cell? ⟨w.heap.size, 0, none⟩ = some (.bool s) ∧ w'.cell? ⟨w.heap.size, 1, none⟩ = some (.slice A l c) ∧ w'.cell? ⟨w.heap.size, 2, none⟩ = some (.slice B n d)) (repeat (first | (with_reducible exact F0) | (with_reducible exact F1) | (with_reducible exact F2) | (with_reducible refine thr_drew ?_) | (with_reducible refine thr_set ?_ (by simp only; omega))))
    (first
      | (go_at_call 19; (with_reducible refine (HS1.out _ HX.out.drew).mono ?_); rintro e w1 ⟨A1, d1, rfl, k1, hx1⟩; have K1 := Lib.hid k1; have HX1 := Lib.hid hx1; have F1 := thr_ext hx1 (thr_drew F0); have hc1 : l + 3 ≤ d1 := (by have := k1.rd.cap; rw [List.length_append, HL.out] at this; exact this); have hc2 : (l : Int) ≤ (d1 : Int) := (by omega); have hc3 : (0 : Int) ≤ (l : Int) := (by omega); clear k1 hx1)
      | (go_at_call 19; (with_reducible refine (HS2.out _ (HX.out.drew.trans HX1.out)).mono ?_); rintro e w2 ⟨A2, d2, rfl, k2, hx2⟩; have K2 := Lib.hid k2; have HX2 := Lib.hid hx2; have F2 := thr_ext hx2 F1; have hd1 : n + 3 ≤ d2 := (by have := k2.rd.cap; rw [List.length_append, HN.out] at this; exact this); have hd2 : (n : Int) ≤ (d2 : Int) := (by omega); have hd3 : (0 : Int) ≤ (n : Int) := (by omega); have HVx := HV.out.ext ((((Ext.refl W).drew.trans HX1.out).trans hx2)); have v0 := HVx.c0; have v1 := HVx.c1; have v2 := HVx.c2; have fv0 := HVx.fr 0; have fv1 := HVx.fr 1; have fv2 := HVx.fr 2; clear k2 hx2 HVx))
  all_goals
    have hz := HZ.out
    have hy1 := HX1.out.size
    have bA := fun a (e : A1 = some a) => (show Own w1 _ (some a) d1 _ from e ▸ K1.out).block
    have bB := fun a (e : A2 = some a) => (show Own w2 _ (some a) d2 _ from e ▸ K2.out).block
    simp only [World.size_drew] at bA bB hy1
    have HO1 := Lib.hid ((K1.out.ext HX2.out).lower (show w.heap.size ≤ W.drew.heap.size by simp only [World.size_drew]; omega))
    have HO2 := Lib.hid (K2.out.lower (show w.heap.size ≤ w1.heap.size by omega))
    have HXw := Lib.hid (HX.out.trans (((Ext.refl W).drew.trans HX1.out).trans HX2.out))
    have HAp := Lib.hid (show ∀ a b, A1 = some a → A2 = some b → a.block ≠ b.block from fun a b ea eb e => by have h1 := bA a ea; have h2 := bB b eb; omega)
    have N1 := Lib.hid (show ∀ a, A1 = some a → a.block ≠ w.heap.size + 1 from fun a ea => by have h1 := bA a ea; omega)
    have N2 := Lib.hid (show ∀ a, A2 = some a → a.block ≠ w.heap.size + 1 from fun a ea => by have h1 := bB a ea; omega)
    clear bA bB hz hy1
    go_wp2_with fail
    exact bodyPost_ret (v := .agg #[.bool s, .slice A1 l d1, .slice A2 n d2]) (by simp [results, Try.results29, go_sem, v0, v1, v2]) rfl ⟨A1, d1, A2, d2, by simp only; rw [HL.out, HN.out], own_set (own_set (own_set HO1.out N1.out) N1.out) N1.out, own_set (own_set (own_set HO2.out N2.out) N2.out) N2.out, HAp.out, ((HXw.out.setCell (Nat.le_succ _) _).setCell (Nat.le_succ _) _).setCell (Nat.le_succ _) _⟩

set_option maxRecDepth 8000 in
set_option maxHeartbeats 2000000 in
theorem kkeptR_any (f : Fr) (A B C D : Option Addr) (a b c d : Nat) (w : World) (ha : Rd w A a (f.num ++ marks)) (hb : Rd w B b (f.den ++ marks)) (hc : Rd w C c f.num) (hd : Rd w D d f.den) (hm : f.num.length ≤ 1000000) (hm' : f.den.length ≤ 1000000) :
    Calls Try.prog 35 #[.agg #[.bool f.neg, .slice A f.num.length a, .slice B f.den.length b], .agg #[.bool f.neg, .slice C f.num.length c, .slice D f.den.length d]] w fun e w' => e = .returned (.bool true) ∧ Ext w w' := by
  obtain ⟨s, xs, ys⟩ := f
  simp only at *
  have HA := Lib.hid ha
  have HB := Lib.hid hb
  have HC := Lib.hid hc
  have HD := Lib.hid hd
  have cA : xs.length + 3 ≤ a := by have := ha.cap; rw [List.length_append] at this; exact this
  have cB : ys.length + 3 ≤ b := by have := hb.cap; rw [List.length_append] at this; exact this
  have mA := ha.capm
  have mB := hb.capm
  obtain ⟨l, hl⟩ : ∃ l, xs.length = l := ⟨_, rfl⟩
  obtain ⟨n, hn⟩ : ∃ n, ys.length = n := ⟨_, rfl⟩
  have HL := Lib.hid hl
  have HN := Lib.hid hn
  rw [hl] at hm cA ⊢
  rw [hn] at hm' cB ⊢
  clear ha hb hc hd hl hn
  have HS1 := Lib.hid (fun wx (hx : Ext w wx) => kkept_any A C xs a c l ((l : Int) + 3).toNat wx (HA.out.ext hx) (HC.out.ext hx) HL.out (by omega) (by omega))
  have HS2 := Lib.hid (fun wx (hx : Ext w wx) => kkept_any B D ys b d n ((n : Int) + 3).toNat wx (HB.out.ext hx) (HD.out.ext hx) HN.out (by omega) (by omega))
  have HX := Lib.hid (((Ext.refl w).alloc (.cells #[.bool s, .slice A l a, .slice B n b] 27)).alloc (.cells #[.bool s, .slice C l c, .slice D n d] 27))
  go_enter Try.func35, Try.ntmps35
  go_wp2_with fail
  obtain ⟨W, hW⟩ : ∃ W, W = (w.alloc (.cells #[.bool s, .slice A l a, .slice B n b] 27)).alloc (.cells #[.bool s, .slice C l c, .slice D n d] 27) := ⟨_, rfl⟩
  have F0 : Six W w.heap.size (.bool s) (.slice A l a) (.slice B n b) (.bool s) (.slice C l c) (.slice D n d) := by rw [hW]; refine ⟨?_, ?_, ?_, ?_, ?_, ?_⟩ <;> simp [go_sem]
  rw [← hW] at HX
  try rw [← hW]
  clear hW
  have hs1 : IntKind.i64.wrap ((l : Int) + 3) = (l : Int) + 3 := IntWalk.i64_in _ (by omega)
  have hs2 : IntKind.i64.wrap ((n : Int) + 3) = (n : Int) + 3 := IntWalk.i64_in _ (by omega)
  have hc2 : (l : Int) + 3 ≤ (a : Int) := by omega
  have hc3 : (0 : Int) ≤ (l : Int) + 3 := by omega
  have hd2 : (n : Int) + 3 ≤ (b : Int) := by omega
  have hd3 : (0 : Int) ≤ (n : Int) + 3 := by omega
  have hss : (s == s) = true := beq_self_eq_true s
  have hll : ((l : Int) == (l : Int)) = true := beq_self_eq_true _
  have hnn : ((n : Int) == (n : Int)) = true := beq_self_eq_true _
  go_region_held3 (fun w' => w'.cell? ⟨w.heap.size, 0, none⟩ = some (.bool s) ∧ w'.cell? ⟨w.heap.size, 1, none⟩ = some (.slice A l a) ∧ w'.cell? ⟨w.heap.size, 2, none⟩ = some (.slice B n b) ∧ w'.cell? ⟨w.heap.size + 1, 0, none⟩ = some (.bool s) ∧ w'.cell? ⟨w.heap.size + 1, 1, none⟩ = some (.slice C l c) ∧ w'.cell? ⟨w.heap.size + 1, 2, none⟩ = some (.slice D n d)) (repeat (first | (with_reducible exact F0) | (with_reducible exact F1) | (with_reducible exact F2) | (with_reducible refine six_drew ?_)))
    (first
      | (go_at_call 27; (with_reducible refine (HS1.out _ HX.out.drew).mono ?_); rintro e w1 ⟨rfl, hx1⟩; have HX1 := Lib.hid hx1; have F1 := six_ext hx1 (six_drew F0); clear hx1)
      | (go_at_call 27; (with_reducible refine (HS2.out _ (HX.out.drew.trans HX1.out)).mono ?_); rintro e w2 ⟨rfl, hx2⟩; have HX2 := Lib.hid hx2; have F2 := six_ext hx2 F1; clear hx2))
  all_goals
    go_wp2_with fail
    go_ret
    exact ⟨rfl, (HX.out.drew.trans HX1.out).trans HX2.out⟩

end Go.Proofs.Ytnhgagfkepmanaa
