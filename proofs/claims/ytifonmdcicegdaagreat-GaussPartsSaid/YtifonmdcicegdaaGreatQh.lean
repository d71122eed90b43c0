/- Texts of this claim, joined: K6 K9 K7a T1 R11 Y1. -/
import Derived.Handy
import Derived.Lib.ItoaWalk
import Derived.Deep.RegionHeld3
import Derived.Test.YtifonmdcicegdaaGreatQg
/- LentRatio, KeptRatio. -/
namespace Go.Proofs.YtifonmdcicegdaaGreat
open Go Go.RowKit

/-- a fraction whose words have room behind them -/
def LentP (w : World) (f : Fr) (e : Ending) (w' : World) : Prop :=
  ∃ A c B d, e = .returned (.agg #[.bool f.neg, .slice A f.num.length c, .slice B f.den.length d]) ∧ Own w' w.heap.size A c (f.num ++ marks) ∧ Own w' w.heap.size B d (f.den ++ marks) ∧ (∀ a b, A = some a → B = some b → a.block ≠ b.block) ∧ Ext w w'

set_option maxHeartbeats 2000000 in
theorem klentR_any (f : Fr) (A B : Option Addr) (c d : Nat) (w : World) (ha : Rd w A c f.num) (hb : Rd w B d f.den) (hm : f.num.length ≤ 1000000) (hm' : f.den.length ≤ 1000000) :
    Calls Tryz.prog 13 #[.agg #[.bool f.neg, .slice A f.num.length c, .slice B f.den.length d]] w (LentP w f) := by
  obtain ⟨s, xs, ys⟩ := f
  simp only at *
  have HA := Lib.hid ha
  have HB := Lib.hid hb
  obtain ⟨l, hl⟩ : ∃ l, xs.length = l := ⟨_, rfl⟩
  obtain ⟨n, hn⟩ : ∃ n, ys.length = n := ⟨_, rfl⟩
  have HL := Lib.hid hl
  have HN := Lib.hid hn
  rw [hl] at hm ⊢
  rw [hn] at hm' ⊢
  clear ha hb hl hn
  have HS1 := Lib.hid (fun wx (hx : Ext w wx) => klent_any A xs c l wx (HA.out.ext hx) HL.out (by omega))
  have HS2 := Lib.hid (fun wx (hx : Ext w wx) => klent_any B ys d n wx (HB.out.ext hx) HN.out (by omega))
  have HX := Lib.hid (((Ext.refl w).alloc (.cells #[.bool s, .slice A l c, .slice B n d] 24)).alloc (.cells #[.bool false, .slice none 0 0, .slice none 0 0] 24))
  go_enter Tryz.func13, Tryz.ntmps13
  go_wp2_with fail
  obtain ⟨W, hW⟩ : ∃ W, W = (w.alloc (.cells #[.bool s, .slice A l c, .slice B n d] 24)).alloc (.cells #[.bool false, .slice none 0 0, .slice none 0 0] 24) := ⟨_, rfl⟩
  have F0 : Thr W w.heap.size (.bool s) (.slice A l c) (.slice B n d) := by rw [hW]; refine ⟨?_, ?_, ?_⟩ <;> simp [go_sem]
  have HV : Hid (VarF (w.heap.size + 1) W.heap.size Fr.zero none 0 none 0 W) := by
    have h1 := VarF.zero (w.alloc (.cells #[.bool s, .slice A l c, .slice B n d] 24)) W.heap.size
    rw [← hW] at h1
    unfold Hid
    simpa using h1
  have HZ := Lib.hid (show W.heap.size = w.heap.size + 2 by rw [hW]; simp)
  rw [← hW] at HX
  try rw [← hW]
  clear hW
  go_region_held3 (fun w' => w'.cell? ⟨w.heap.size, 0, none⟩ = some (.bool s) ∧ w'.cell? ⟨w.heap.size, 1, none⟩ = some (.slice A l c) ∧ w'.cell? ⟨w.heap.size, 2, none⟩ = some (.slice B n d)) (repeat (first | (with_reducible exact F0) | (with_reducible exact F1) | (with_reducible exact F2) | (with_reducible refine thr_drew ?_) | (with_reducible refine thr_set ?_ (by simp only; omega))))
    (first
      | (go_at_call 134; (with_reducible refine (HS1.out _ HX.out.drew).mono ?_); rintro e w1 ⟨A1, d1, rfl, k1, hx1⟩; have K1 := Lib.hid k1; have HX1 := Lib.hid hx1; have F1 := thr_ext hx1 (thr_drew F0); have hc1 : l + 3 ≤ d1 := (by have := k1.rd.cap; rw [List.length_append, HL.out] at this; exact this); have hc2 : (l : Int) ≤ (d1 : Int) := (by omega); have hc3 : (0 : Int) ≤ (l : Int) := (by omega); clear k1 hx1)
      | (go_at_call 134; (with_reducible refine (HS2.out _ (HX.out.drew.trans HX1.out)).mono ?_); rintro e w2 ⟨A2, d2, rfl, k2, hx2⟩; have K2 := Lib.hid k2; have HX2 := Lib.hid hx2; have F2 := thr_ext hx2 F1; have hd1 : n + 3 ≤ d2 := (by have := k2.rd.cap; rw [List.length_append, HN.out] at this; exact this); have hd2 : (n : Int) ≤ (d2 : Int) := (by omega); have hd3 : (0 : Int) ≤ (n : Int) := (by omega); have HVx := HV.out.ext ((((Ext.refl W).drew.trans HX1.out).trans hx2)); have v0 := HVx.c0; have v1 := HVx.c1; have v2 := HVx.c2; have fv0 := HVx.fr 0; have fv1 := HVx.fr 1; have fv2 := HVx.fr 2; clear k2 hx2 HVx))
  all_goals
    have hz := HZ.out
    have hy1 := HX1.out.size
    have bA := fun a (e : A1 = some a) => (show Own w1 _ (some a) d1 _ from e ▸ K1.out).block
    have bB := fun a (e : A2 = some a) => (show Own w2 _ (some a) d2 _ from e ▸ K2.out).block
    simp only [World.size_drew] at bA bB hy1
    have HO1 := Lib.hid ((K1.out.ext HX2.out).lower (show w.heap.size ≤ W.drew.heap.size by simp only [World.size_drew]; omega))
    have HO2 := Lib.hid (K2.out.lower (show w.heap.size ≤ w1.heap.size by omega))
    have HXw := Lib.hid (HX.out.trans (((Ext.refl W).drew.trans HX1.out).trans HX2.out))
    have HAp := Lib.hid (show ∀ a b, A1 = some a → A2 = some b → a.block ≠ b.block from fun a b ea eb e => by have h1 := bA a ea; have h2 := bB b eb; omega)
    have N1 := Lib.hid (show ∀ a, A1 = some a → a.block ≠ w.heap.size + 1 from fun a ea => by have h1 := bA a ea; omega)
    have N2 := Lib.hid (show ∀ a, A2 = some a → a.block ≠ w.heap.size + 1 from fun a ea => by have h1 := bB a ea; omega)
    clear bA bB hz hy1
    go_wp2_with fail
    exact bodyPost_ret (v := .agg #[.bool s, .slice A1 l d1, .slice A2 n d2]) (by simp [results, Tryz.results13, go_sem, v0, v1, v2]) rfl ⟨A1, d1, A2, d2, by simp only; rw [HL.out, HN.out], own_set (own_set (own_set HO1.out N1.out) N1.out) N1.out, own_set (own_set (own_set HO2.out N2.out) N2.out) N2.out, HAp.out, ((HXw.out.setCell (Nat.le_succ _) _).setCell (Nat.le_succ _) _).setCell (Nat.le_succ _) _⟩

set_option maxRecDepth 8000 in
set_option maxHeartbeats 2000000 in
theorem kkeptR_any (f : Fr) (A B C D : Option Addr) (a b c d : Nat) (w : World) (ha : Rd w A a (f.num ++ marks)) (hb : Rd w B b (f.den ++ marks)) (hc : Rd w C c f.num) (hd : Rd w D d f.den) (hm : f.num.length ≤ 1000000) (hm' : f.den.length ≤ 1000000) :
    Calls Tryz.prog 36 #[.agg #[.bool f.neg, .slice A f.num.length a, .slice B f.den.length b], .agg #[.bool f.neg, .slice C f.num.length c, .slice D f.den.length d]] w fun e w' => e = .returned (.bool true) ∧ Ext w w' := by
  obtain ⟨s, xs, ys⟩ := f
  simp only at *
  have HA := Lib.hid ha
  have HB := Lib.hid hb
  have HC := Lib.hid hc
  have HD := Lib.hid hd
  have cA : xs.length + 3 ≤ a := by have := ha.cap; rw [List.length_append] at this; exact this
  have cB : ys.length + 3 ≤ b := by have := hb.cap; rw [List.length_append] at this; exact this
  have mA := ha.capm
  have mB := hb.capm
  obtain ⟨l, hl⟩ : ∃ l, xs.length = l := ⟨_, rfl⟩
  obtain ⟨n, hn⟩ : ∃ n, ys.length = n := ⟨_, rfl⟩
  have HL := Lib.hid hl
  have HN := Lib.hid hn
  rw [hl] at hm cA ⊢
  rw [hn] at hm' cB ⊢
  clear ha hb hc hd hl hn
  have HS1 := Lib.hid (fun wx (hx : Ext w wx) => kkept_any A C xs a c l ((l : Int) + 3).toNat wx (HA.out.ext hx) (HC.out.ext hx) HL.out (by omega) (by omega))
  have HS2 := Lib.hid (fun wx (hx : Ext w wx) => kkept_any B D ys b d n ((n : Int) + 3).toNat wx (HB.out.ext hx) (HD.out.ext hx) HN.out (by omega) (by omega))
  have HX := Lib.hid (((Ext.refl w).alloc (.cells #[.bool s, .slice A l a, .slice B n b] 24)).alloc (.cells #[.bool s, .slice C l c, .slice D n d] 24))
  go_enter Tryz.func36, Tryz.ntmps36
  go_wp2_with fail
  obtain ⟨W, hW⟩ : ∃ W, W = (w.alloc (.cells #[.bool s, .slice A l a, .slice B n b] 24)).alloc (.cells #[.bool s, .slice C l c, .slice D n d] 24) := ⟨_, rfl⟩
  have F0 : Six W w.heap.size (.bool s) (.slice A l a) (.slice B n b) (.bool s) (.slice C l c) (.slice D n d) := by rw [hW]; refine ⟨?_, ?_, ?_, ?_, ?_, ?_⟩ <;> simp [go_sem]
  rw [← hW] at HX
  try rw [← hW]
  clear hW
  have hs1 : IntKind.i64.wrap ((l : Int) + 3) = (l : Int) + 3 := IntWalk.i64_in _ (by omega)
  have hs2 : IntKind.i64.wrap ((n : Int) + 3) = (n : Int) + 3 := IntWalk.i64_in _ (by omega)
  have hc2 : (l : Int) + 3 ≤ (a : Int) := by omega
  have hc3 : (0 : Int) ≤ (l : Int) + 3 := by omega
  have hd2 : (n : Int) + 3 ≤ (b : Int) := by omega
  have hd3 : (0 : Int) ≤ (n : Int) + 3 := by omega
  have hss : (s == s) = true := beq_self_eq_true s
  have hll : ((l : Int) == (l : Int)) = true := beq_self_eq_true _
  have hnn : ((n : Int) == (n : Int)) = true := beq_self_eq_true _
  go_region_held3 (fun w' => w'.cell? ⟨w.heap.size, 0, none⟩ = some (.bool s) ∧ w'.cell? ⟨w.heap.size, 1, none⟩ = some (.slice A l a) ∧ w'.cell? ⟨w.heap.size, 2, none⟩ = some (.slice B n b) ∧ w'.cell? ⟨w.heap.size + 1, 0, none⟩ = some (.bool s) ∧ w'.cell? ⟨w.heap.size + 1, 1, none⟩ = some (.slice C l c) ∧ w'.cell? ⟨w.heap.size + 1, 2, none⟩ = some (.slice D n d)) (repeat (first | (with_reducible exact F0) | (with_reducible exact F1) | (with_reducible exact F2) | (with_reducible refine six_drew ?_)))
    (first
      | (go_at_call 161; (with_reducible refine (HS1.out _ HX.out.drew).mono ?_); rintro e w1 ⟨rfl, hx1⟩; have HX1 := Lib.hid hx1; have F1 := six_ext hx1 (six_drew F0); clear hx1)
      | (go_at_call 161; (with_reducible refine (HS2.out _ (HX.out.drew.trans HX1.out)).mono ?_); rintro e w2 ⟨rfl, hx2⟩; have HX2 := Lib.hid hx2; have F2 := six_ext hx2 F1; clear hx2))
  all_goals
    go_wp2_with fail
    go_ret
    exact ⟨rfl, (HX.out.drew.trans HX1.out).trans HX2.out⟩

end Go.Proofs.YtifonmdcicegdaaGreat

/- Blocks that a law's variables are. -/
namespace Go.Proofs.YtifonmdcicegdaaGreat
open Go Go.RowKit

/-- what a block holds -/
def Cells (w : World) (g : Nat) (vs : List Value) : Prop := g < w.heap.size ∧ ∀ j v, vs[j]? = some v → w.cell? ⟨g, j, none⟩ = some v
theorem Cells.ext {w w' : World} {g : Nat} {vs : List Value} (h : Cells w g vs) (e : Ext w w') : Cells w' g vs := ⟨Nat.lt_of_lt_of_le h.1 e.size, fun j v hj => e.cell (h.2 j v hj)⟩
theorem Cells.at {w : World} {g : Nat} {vs : List Value} (h : Cells w g vs) (j : Nat) (v : Value) (hj : vs[j]? = some v) : w.cell? ⟨g, j, none⟩ = some v := h.2 j v hj
theorem Cells.past {w : World} {g : Nat} {vs : List Value} (h : Cells w g vs) (j : Nat) (v : Value) (hj : vs[j]? = some v) : ∀ o, (w.alloc o).cell? ⟨g, j, none⟩ = some v := fun o => ((Ext.refl w).alloc o).cell (h.2 j v hj)
theorem Cells.past2 {w : World} {g : Nat} {vs : List Value} (h : Cells w g vs) (j : Nat) (v : Value) (hj : vs[j]? = some v) : ∀ o o', ((w.alloc o).alloc o').cell? ⟨g, j, none⟩ = some v := fun o o' => (((Ext.refl w).alloc o).alloc o').cell (h.2 j v hj)
theorem Cells.new (w : World) (vs : List Value) (t : TypeId) : Cells (w.alloc (.cells vs.toArray t)) w.heap.size vs :=
  ⟨by simp, fun j v hj => by rw [World.cell?_alloc_at (hn := rfl)]; simpa using hj⟩

theorem own_pre {w : World} {base c : Nat} {A : Option Addr} {xs ys zs : List Int} (h : Own w base A c zs) (e : zs = xs ++ ys) : Own w base A c xs := by
  subst e
  have h1 := h.take xs.length
  rwa [List.take_left' rfl] at h1
/-- what may be handed about -/
def Small (a : Fr) : Prop := (a.num.length ≤ 1000000 ∧ Wf a.num) ∧ (a.den.length ≤ 1000000 ∧ Wf a.den)
theorem small_zero : Small Fr.zero := ⟨⟨by decide, Fr.zero_wf.num⟩, ⟨by decide, Fr.zero_wf.den⟩⟩
theorem small_enc {q : Rat} (h : ¬ lng q = true) : Small (enc q) := by
  have := not_lng h
  exact ⟨⟨Nat.le_trans this.1 (by omega), wf_wd _⟩, ⟨Nat.le_trans this.2 (by omega), wf_wd _⟩⟩
theorem tell_small (q : Rat) : Small (tell q).1 := by
  unfold tell
  split
  · exact small_zero
  · rename_i h
    exact small_enc h
theorem Small.wf {a : Fr} (h : Small a) : a.Wf := ⟨h.1.2, h.2.2⟩

end Go.Proofs.YtifonmdcicegdaaGreat

/- Lists of fractions of the call's own. -/
namespace Go.Proofs.YtifonmdcicegdaaGreat
open Go Go.RowKit

theorem info_ratio : (Tryz.prog.info? 24).map (fun i => (i.zero, i.size, i.bytes)) = some (some (.agg #[.bool false, .slice none 0 0, .slice none 0 0]), 3, 56) := by kernel_rfl
/-- a list of fractions of the call's own: its cells, and the words that it leads to -/
structure Rows2 (w : World) (base : Nat) (v : Value) (k : Nat) (P : Nat → Option Addr) (C : Nat → Nat) (F : Nat → Fr) (X : Nat → List Int) : Prop where
  row : ∃ vs, w.ownsRow base 24 3 v k vs ∧ ∀ j, j < k → vs[j * 3]? = some (.bool (F j).neg) ∧ vs[j * 3 + 1]? = some (.slice (P (2 * j)) (F j).num.length (C (2 * j))) ∧ vs[j * 3 + 2]? = some (.slice (P (2 * j + 1)) (F j).den.length (C (2 * j + 1)))
  own : ∀ j, j < 2 * k → Own w base (P j) (C j) (X j)
  ap : ∀ i j, i < 2 * k → j < 2 * k → i ≠ j → ∀ a b, P i = some a → P j = some b → a.block ≠ b.block
theorem Rows2.nil (w : World) (base : Nat) (F : Nat → Fr) (X : Nat → List Int) : Rows2 w base (.slice none 0 0) 0 (fun _ => none) (fun _ => 0) F X :=
  ⟨⟨[], World.ownsRow_nil w base _ 3, fun j hj => by omega⟩, fun j hj => by omega, fun i j hi => by omega⟩
/-- words and fractions lie in different rows -/
theorem row_ne {w : World} {base base' k c : Nat} {a : Addr} {xs : List Int} {v : Value} {vs : List Value} (h : Own w base (some a) c xs) (k2 : w.ownsRow base' 24 3 v k vs) : v.ownBlock ≠ some a.block := by
  intro e
  rcases h.cases with ⟨h1, _⟩ | ⟨g, cur, h1, h2, h3, _⟩
  · cases h1
  · cases h1
    rcases k2.2 with ⟨rfl, _⟩ | ⟨g', cap, cur', rfl, _, h4, _⟩
    · cases e
    · have e2 : g' = g := Option.some.inj e
      subst e2
      rw [h3] at h4
      cases h4
theorem Rows2.ext {w w' : World} {base : Nat} {v : Value} {k : Nat} {P : Nat → Option Addr} {C : Nat → Nat} {F : Nat → Fr} {X : Nat → List Int} (h : Rows2 w base v k P C F X) (x : Ext w w') : Rows2 w' base v k P C F X := by
  obtain ⟨vs, h1, h2⟩ := h.row
  exact ⟨⟨vs, ownsRow_ext h1 x, h2⟩, fun j hj => (h.own j hj).ext x, h.ap⟩
theorem Rows2.ge {w : World} {base : Nat} {v : Value} {k : Nat} {P : Nat → Option Addr} {C : Nat → Nat} {F : Nat → Fr} {X : Nat → List Int} (h : Rows2 w base v k P C F X) : ∀ b, v.ownBlock = some b → base ≤ b := by
  obtain ⟨vs, h1, h2⟩ := h.row
  exact ownsRow_ge h1
theorem Rows2.slice {w : World} {base : Nat} {v : Value} {k : Nat} {P : Nat → Option Addr} {C : Nat → Nat} {F : Nat → Fr} {X : Nat → List Int} (h : Rows2 w base v k P C F X) (hk : 0 < k) : ∃ g cap, v = .slice (some ⟨g, 0, none⟩) k cap ∧ k ≤ cap ∧ cap ≤ 9223372036854775807 ∧ base ≤ g ∧ g < w.heap.size := by
  obtain ⟨vs, h1, h2⟩ := h.row
  rcases h1.2 with ⟨_, h3⟩ | ⟨g, cap, cur, h3, h4, h5, h6, h7, _⟩
  · omega
  · exact ⟨g, cap, h3, h6, by simp only [maxLen] at h7; omega, h4, (Array.getElem?_eq_some_iff.1 h5).1⟩
theorem Rows2.cells {w : World} {base g c : Nat} {k : Nat} {P : Nat → Option Addr} {C : Nat → Nat} {F : Nat → Fr} {X : Nat → List Int} (h : Rows2 w base (.slice (some ⟨g, 0, none⟩) k c) k P C F X) (j : Nat) (hj : j < k) :
    w.cell? ⟨g, j * 3, none⟩ = some (.bool (F j).neg) ∧ w.cell? ⟨g, j * 3 + 1, none⟩ = some (.slice (P (2 * j)) (F j).num.length (C (2 * j))) ∧ w.cell? ⟨g, j * 3 + 2, none⟩ = some (.slice (P (2 * j + 1)) (F j).den.length (C (2 * j + 1))) := by
  obtain ⟨vs, h1, h2⟩ := h.row
  obtain ⟨e0, e1, e2⟩ := h2 j hj
  exact ⟨(World.ownsRow.cellAt h1 _ (by omega)).trans e0, (World.ownsRow.cellAt h1 _ (by omega)).trans e1, (World.ownsRow.cellAt h1 _ (by omega)).trans e2⟩
theorem three_at {vs : List Value} {k : Nat} (hl : vs.length = k * 3) (a b c : Value) : (vs ++ [a, b, c])[k * 3]? = some a ∧ (vs ++ [a, b, c])[k * 3 + 1]? = some b ∧ (vs ++ [a, b, c])[k * 3 + 2]? = some c := by
  refine ⟨?_, ?_, ?_⟩ <;> rw [List.getElem?_append_right (by omega), hl] <;> simp

set_option maxHeartbeats 1000000 in
/-- append of one fraction -/
theorem wpList_appR {w : World} {ops : Array Oper} {rest : List Oper} {o : Oper} {a : Act} {Q : Exit → Act → World → Prop} (hgd : o.guard = none) (s x : Operand)
    (ho : o.op = .call { callee := .builtin .append, args := #[s, x], argTypes := #[26, 26] })
    (base : Nat) (v : Value) (k : Nat) (P : Nat → Option Addr) (C : Nat → Nat) (F : Nat → Fr) (X : Nat → List Int) (hs : a.eval s = v) (hR : Rows2 w base v k P C F X)
    (ad : Addr) (c : Nat) (hx : a.eval x = .slice (some ad) 1 c) (A B : Option Addr) (c1 c2 : Nat)
    (h0 : w.cell? (ad.add 0) = some (.bool (F k).neg)) (h1 : w.cell? (ad.add 1) = some (.slice A (F k).num.length c1)) (h2 : w.cell? (ad.add 2) = some (.slice B (F k).den.length c2))
    (hA : Own w base A c1 (X (2 * k))) (hB : Own w base B c2 (X (2 * k + 1))) (hAB : ∀ a b, A = some a → B = some b → a.block ≠ b.block)
    (hAP : ∀ j, j < 2 * k → ∀ a b, P j = some a → A = some b → a.block ≠ b.block) (hBP : ∀ j, j < 2 * k → ∀ a b, P j = some a → B = some b → a.block ≠ b.block)
    (hk : k ≤ 1000000) (hbase : base ≤ w.heap.size)
    (h : ∀ v' P' C' w', Rows2 w' base v' (k + 1) P' C' F X → w.grownBy w' v.ownBlock → wpList Tryz.prog ops Q rest (a.put o.dst v') w') : wpList Tryz.prog ops Q (o :: rest) a w := by
  obtain ⟨i0, hi, hz0, hz1, hz2⟩ := info_parts info_ratio
  obtain ⟨vs, hv1, hv2⟩ := hR.row
  have hl : vs.length = k * 3 := hv1.1
  refine wpList_append_own w hgd s x 26 ho base 24 i0 _ 3 56 Tryz.underlying26 hi hz0 hz1 hz2 rfl (by decide) v k vs hs hv1 ad 1 c [.bool (F k).neg, .slice A (F k).num.length c1, .slice B (F k).den.length c2] hx rfl
    (fun j u hu => by
      match j, hu with
      | 0, hu => cases hu; exact h0
      | 1, hu => cases hu; exact h1
      | 2, hu => cases hu; exact h2) (by intro u hu; simp at hu; rcases hu with rfl | rfl | rfl <;> rfl) (by unfold maxLen; omega) (by omega) hbase ?_
  intro v' w' hr hg _
  obtain ⟨t0, t1, t2⟩ := three_at hl (.bool (F k).neg) (.slice A (F k).num.length c1) (.slice B (F k).den.length c2)
  refine h v' (fun j => if j = 2 * k then A else if j = 2 * k + 1 then B else P j) (fun j => if j = 2 * k then c1 else if j = 2 * k + 1 then c2 else C j) w' ⟨⟨_, hr, fun j hj => ?_⟩, fun j hj => ?_, fun i j hi hj hne => ?_⟩ hg
  · by_cases e : j = k
    · subst e
      refine ⟨t0, ?_, ?_⟩
      · rw [if_pos rfl, if_pos rfl]; exact t1
      · rw [if_neg (by omega), if_pos rfl, if_neg (by omega), if_pos rfl]; exact t2
    · obtain ⟨e0, e1, e2⟩ := hv2 j (by omega)
      rw [if_neg (by omega), if_neg (by omega), if_neg (by omega), if_neg (by omega), if_neg (by omega), if_neg (by omega), if_neg (by omega), if_neg (by omega)]
      refine ⟨?_, ?_, ?_⟩ <;> rw [List.getElem?_append_left (by omega)] <;> assumption
  · have keep : ∀ {D : Option Addr} {d : Nat} {xs : List Int}, Own w base D d xs → Own w' base D d xs := fun {D d xs} hD => hD.kept hg (fun a ha e => by
      subst ha
      exact row_ne hD hv1 e.symm)
    by_cases e1 : j = 2 * k
    · rw [if_pos e1, if_pos e1, e1]; exact keep hA
    · rw [if_neg e1, if_neg e1]
      by_cases e2 : j = 2 * k + 1
      · rw [if_pos e2, if_pos e2, e2]; exact keep hB
      · rw [if_neg e2, if_neg e2]; exact keep (hR.own j (by omega))
  · intro a b ha hb
    by_cases e1 : i = 2 * k
    · rw [if_pos e1] at ha
      rw [if_neg (by omega)] at hb
      by_cases e2 : j = 2 * k + 1
      · rw [if_pos e2] at hb; exact hAB a b ha hb
      · rw [if_neg e2] at hb; exact fun e => hAP j (by omega) b a hb ha e.symm
    · rw [if_neg e1] at ha
      by_cases e2 : i = 2 * k + 1
      · rw [if_pos e2] at ha
        by_cases e3 : j = 2 * k
        · rw [if_pos e3] at hb; exact fun e => hAB b a hb ha e.symm
        · rw [if_neg e3, if_neg (by omega)] at hb; exact fun e => hBP j (by omega) b a hb ha e.symm
      · rw [if_neg e2] at ha
        by_cases e3 : j = 2 * k
        · rw [if_pos e3] at hb; exact hAP i (by omega) a b ha hb
        · rw [if_neg e3] at hb
          by_cases e4 : j = 2 * k + 1
          · rw [if_pos e4] at hb; exact hBP i (by omega) a b ha hb
          · rw [if_neg e4] at hb; exact hR.ap i j (by omega) (by omega) hne a b ha hb

set_option maxHeartbeats 1000000 in
/-- .. where it is told what has become of the row -/
theorem wpList_appT {w : World} {ops : Array Oper} {rest : List Oper} {o : Oper} {a : Act} {Q : Exit → Act → World → Prop} (hgd : o.guard = none) (s x : Operand)
    (ho : o.op = .call { callee := .builtin .append, args := #[s, x], argTypes := #[26, 26] })
    (base : Nat) (v : Value) (k : Nat) (P : Nat → Option Addr) (C : Nat → Nat) (F : Nat → Fr) (X : Nat → List Int) (hs : a.eval s = v) (hR : Rows2 w base v k P C F X)
    (ad : Addr) (c : Nat) (hx : a.eval x = .slice (some ad) 1 c) (A B : Option Addr) (c1 c2 : Nat)
    (h0 : w.cell? (ad.add 0) = some (.bool (F k).neg)) (h1 : w.cell? (ad.add 1) = some (.slice A (F k).num.length c1)) (h2 : w.cell? (ad.add 2) = some (.slice B (F k).den.length c2))
    (hA : Own w base A c1 (X (2 * k))) (hB : Own w base B c2 (X (2 * k + 1))) (hAB : ∀ a b, A = some a → B = some b → a.block ≠ b.block)
    (hAP : ∀ j, j < 2 * k → ∀ a b, P j = some a → A = some b → a.block ≠ b.block) (hBP : ∀ j, j < 2 * k → ∀ a b, P j = some a → B = some b → a.block ≠ b.block)
    (hk : k ≤ 1000000) (hbase : base ≤ w.heap.size)
    (h : ∀ g cap P' C' w', Rows2 w' base (.slice (some ⟨g, 0, none⟩) (k + 1) cap) (k + 1) P' C' F X → w.grownBy w' v.ownBlock → (v.ownBlock = some g ∨ g = w.heap.size) → (∀ j, j < 2 * (k + 1) → P' j = A ∨ P' j = B ∨ ∃ i, i < 2 * k ∧ P' j = P i) → wpList Tryz.prog ops Q rest (a.put o.dst (.slice (some ⟨g, 0, none⟩) (k + 1) cap)) w') : wpList Tryz.prog ops Q (o :: rest) a w := by
  obtain ⟨i0, hi, hz0, hz1, hz2⟩ := info_parts info_ratio
  obtain ⟨vs, hv1, hv2⟩ := hR.row
  have hl : vs.length = k * 3 := hv1.1
  refine wpList_append_lies w hgd s x 26 ho base 24 i0 _ 3 56 Tryz.underlying26 hi hz0 hz1 hz2 rfl (by decide) v k vs hs hv1 ad 1 c [.bool (F k).neg, .slice A (F k).num.length c1, .slice B (F k).den.length c2] hx rfl
    (fun j u hu => by
      match j, hu with
      | 0, hu => cases hu; exact h0
      | 1, hu => cases hu; exact h1
      | 2, hu => cases hu; exact h2) (by intro u hu; simp at hu; rcases hu with rfl | rfl | rfl <;> rfl) (by decide) (by unfold maxLen; omega) (by omega) hbase _ rfl ?_
  intro g cap w' hr hg hat _
  obtain ⟨t0, t1, t2⟩ := three_at hl (.bool (F k).neg) (.slice A (F k).num.length c1) (.slice B (F k).den.length c2)
  refine h g cap (fun j => if j = 2 * k then A else if j = 2 * k + 1 then B else P j) (fun j => if j = 2 * k then c1 else if j = 2 * k + 1 then c2 else C j) w' ⟨⟨_, hr, fun j hj => ?_⟩, fun j hj => ?_, fun i j hi hj hne => ?_⟩ hg hat ?_
  · by_cases e : j = k
    · subst e
      refine ⟨t0, ?_, ?_⟩
      · rw [if_pos rfl, if_pos rfl]; exact t1
      · rw [if_neg (by omega), if_pos rfl, if_neg (by omega), if_pos rfl]; exact t2
    · obtain ⟨e0, e1, e2⟩ := hv2 j (by omega)
      rw [if_neg (by omega), if_neg (by omega), if_neg (by omega), if_neg (by omega), if_neg (by omega), if_neg (by omega), if_neg (by omega), if_neg (by omega)]
      refine ⟨?_, ?_, ?_⟩ <;> rw [List.getElem?_append_left (by omega)] <;> assumption
  · have keep : ∀ {D : Option Addr} {d : Nat} {xs : List Int}, Own w base D d xs → Own w' base D d xs := fun {D d xs} hD => hD.kept hg (fun a ha e => by
      subst ha
      exact row_ne hD hv1 e.symm)
    by_cases e1 : j = 2 * k
    · rw [if_pos e1, if_pos e1, e1]; exact keep hA
    · rw [if_neg e1, if_neg e1]
      by_cases e2 : j = 2 * k + 1
      · rw [if_pos e2, if_pos e2, e2]; exact keep hB
      · rw [if_neg e2, if_neg e2]; exact keep (hR.own j (by omega))
  · intro a b ha hb
    by_cases e1 : i = 2 * k
    · rw [if_pos e1] at ha
      rw [if_neg (by omega)] at hb
      by_cases e2 : j = 2 * k + 1
      · rw [if_pos e2] at hb; exact hAB a b ha hb
      · rw [if_neg e2] at hb; exact fun e => hAP j (by omega) b a hb ha e.symm
    · rw [if_neg e1] at ha
      by_cases e2 : i = 2 * k + 1
      · rw [if_pos e2] at ha
        by_cases e3 : j = 2 * k
        · rw [if_pos e3] at hb; exact fun e => hAB b a hb ha e.symm
        · rw [if_neg e3, if_neg (by omega)] at hb; exact fun e => hBP j (by omega) b a hb ha e.symm
      · rw [if_neg e2] at ha
        by_cases e3 : j = 2 * k
        · rw [if_pos e3] at hb; exact hAP i (by omega) a b ha hb
        · rw [if_neg e3] at hb
          by_cases e4 : j = 2 * k + 1
          · rw [if_pos e4] at hb; exact hBP i (by omega) a b ha hb
          · rw [if_neg e4] at hb; exact hR.ap i j (by omega) (by omega) hne a b ha hb
  · intro j hj
    by_cases e1 : j = 2 * k
    · exact .inl (by rw [if_pos e1])
    · rw [if_neg e1]
      by_cases e2 : j = 2 * k + 1
      · exact .inr (.inl (by rw [if_pos e2]))
      · exact .inr (.inr ⟨j, by omega, by rw [if_neg e2]⟩)
theorem Rows2.setNe {w : World} {base : Nat} {v : Value} {k : Nat} {P : Nat → Option Addr} {C : Nat → Nat} {F : Nat → Fr} {X : Nat → List Int} {p : Addr} {u : Value} (h : Rows2 w base v k P C F X) (hv : v.ownBlock ≠ some p.block) (hP : ∀ j, j < 2 * k → ∀ a, P j = some a → a.block ≠ p.block) : Rows2 (w.setCell p u) base v k P C F X := by
  obtain ⟨vs, h1, h2⟩ := h.row
  exact ⟨⟨vs, h1.kept (grown_setCell w p u) (.inr hv), h2⟩, fun j hj => own_set (h.own j hj) (hP j hj), h.ap⟩
theorem grown_setNew {w w' : World} {row : Option Nat} {p : Addr} {u : Value} (h : w.grownBy w' row) (hp : w.heap.size ≤ p.block) : w.grownBy (w'.setCell p u) row :=
  ⟨h.os, h.tape, h.output, by simpa using h.size, fun k hk hr => (Below.heap_setCell _ _ _ _ (by omega)).trans (h.block k hk hr)⟩

end Go.Proofs.YtifonmdcicegdaaGreat

/- The law's word hear. -/
namespace Go.Proofs.YtifonmdcicegdaaGreat
open Go Go.RowKit

theorem Rows2.lt {w : World} {base : Nat} {v : Value} {k : Nat} {P : Nat → Option Addr} {C : Nat → Nat} {F : Nat → Fr} {X : Nat → List Int} (h : Rows2 w base v k P C F X) : ∀ b, v.ownBlock = some b → base ≤ b ∧ b < w.heap.size := by
  obtain ⟨vs, h1, h2⟩ := h.row
  exact h1.lt
theorem Var.set {g : Nat} {vs : List Value} {w : World} (h : Var g vs w) (j : Nat) (u : Value) (hj : j < vs.length) : Var g (vs.set j u) (w.setCell ⟨g, j, none⟩ u) := by
  refine ⟨by simpa using h.lt, fun i v hi => ?_, fun o => by simpa using h.fr o⟩
  by_cases e : i = j
  · subst e
    rw [List.getElem?_set_self hj] at hi
    rw [World.cell?_setCell_same _ _ _ (h.at_ i _ (List.getElem?_eq_getElem hj)), hi]
  · rw [List.getElem?_set_ne (fun e2 => e e2.symm)] at hi
    exact (World.cell?_setCell_other _ _ _ _ (by intro hh; cases hh; exact e rfl)).trans (h.at_ i v hi)
theorem Var.grown {g : Nat} {vs : List Value} {w w' : World} {row : Option Nat} (h : Var g vs w) (hg : w.grownBy w' row) (hne : some g ≠ row) : Var g vs w' :=
  ⟨Nat.lt_of_lt_of_le h.lt hg.size, fun j v hj => cell_keep hg (h.at_ j v hj) hne, fun o => (World.frozen?_of_block (a := ⟨g, o, none⟩) (hg.block g h.lt hne)).trans (h.fr o)⟩
theorem Var.setNe {g : Nat} {vs : List Value} {w : World} {p : Addr} {u : Value} (h : Var g vs w) (hp : p.block ≠ g) : Var g vs (w.setCell p u) :=
  h.grown (grown_setCell w p u) (fun e => hp (Option.some.inj e).symm)

/-- what hear leaves: one fraction more is told -/
def HearP (w : World) (base : Nat) (v : Value) (k : Nat) (F : Nat → Fr) (X : Nat → List Int) (e : Ending) (w' : World) : Prop :=
  ∃ g cap P C, e = .returned (.agg #[.slice (some ⟨g, 0, none⟩) (k + 1) cap, .bool true]) ∧ Rows2 w' base (.slice (some ⟨g, 0, none⟩) (k + 1) cap) (k + 1) P C F X ∧ w.grownBy w' v.ownBlock

set_option maxRecDepth 8000 in
set_option maxHeartbeats 4000000 in
theorem hear_any (V : Option Addr) (cv base k : Nat) (P0 : Nat → Option Addr) (C0 : Nat → Nat) (F : Nat → Fr) (X : Nat → List Int) (s : Bool) (xs ys : List Int) (er : Int) (A B C D : Option Addr) (c1 c2 c3 c4 : Nat) (w : World) (hR : Rows2 w base (.slice V k cv) k P0 C0 F X)
    (hF : F k = ⟨s, xs, ys⟩) (hX1 : X (2 * k) = xs) (hX2 : X (2 * k + 1) = ys) (hb : base ≤ w.heap.size) (hA : Own w base A c1 xs) (hB : Own w base B c2 ys) (hAB : ∀ a b, A = some a → B = some b → a.block ≠ b.block)
    (hAP : ∀ j, j < 2 * k → ∀ a b, P0 j = some a → A = some b → a.block ≠ b.block) (hBP : ∀ j, j < 2 * k → ∀ a b, P0 j = some a → B = some b → a.block ≠ b.block) (hC : Rd w C c3 xs) (hD : Rd w D c4 ys) (hk : k ≤ 1000000) :
    Calls Tryz.prog 16 #[.agg #[.slice V k cv, .bool true], .agg #[.bool s, .slice A xs.length c1, .slice B ys.length c2], .int .i64 er, .agg #[.bool s, .slice C xs.length c3, .slice D ys.length c4], .int .i64 er] w (HearP w base (.slice V k cv) k F X) := by
  have HR := Lib.hid hR
  have HF := Lib.hid hF
  have HX1 := Lib.hid hX1
  have HX2 := Lib.hid hX2
  have HA := Lib.hid hA
  have HB := Lib.hid hB
  have HAB := Lib.hid hAB
  have HAP := Lib.hid hAP
  have HBP := Lib.hid hBP
  have HC := Lib.hid hC
  have HD := Lib.hid hD
  have HBS := Lib.hid hb
  clear hR hF hX1 hX2 hA hB hAB hAP hBP hC hD hb
  have hee : (er == er) = true := beq_self_eq_true er
  go_enter Tryz.func16, Tryz.ntmps16
  go_wp2_with fail
  obtain ⟨W, hW⟩ : ∃ W, W = (((w.alloc (.cells #[.slice V k cv, .bool true] 29)).alloc (.cells #[.bool s, .slice A xs.length c1, .slice B ys.length c2] 24)).alloc (.cells #[.bool s, .slice C xs.length c3, .slice D ys.length c4] 24)).alloc (.cells #[.slice none 0 0, .bool false] 29) := ⟨_, rfl⟩
  have HX : Hid (Ext w W) := by rw [hW]; exact ((((Ext.refl w).alloc _).alloc _).alloc _).alloc _
  have V0 : Hid (Var w.heap.size [.slice V k cv, .bool true] W) := by rw [hW]; exact (Var.new w [.slice V k cv, .bool true] _).ext ((((Ext.refl _).alloc _).alloc _).alloc _)
  have F0 : Thr W (w.heap.size + 1) (.bool s) (.slice A xs.length c1) (.slice B ys.length c2) := by rw [hW]; refine ⟨?_, ?_, ?_⟩ <;> simp [go_sem]
  have V3 : Hid (Var (w.heap.size + 3) [.slice none 0 0, .bool false] W) := by
    rw [hW]
    have h1 := Var.new (((w.alloc (.cells #[.slice V k cv, .bool true] 29)).alloc (.cells #[.bool s, .slice A xs.length c1, .slice B ys.length c2] 24)).alloc (.cells #[.bool s, .slice C xs.length c3, .slice D ys.length c4] 24)) [.slice none 0 0, .bool false] 29
    unfold Hid
    simpa using h1
  have HZ := Lib.hid (show W.heap.size = w.heap.size + 4 by rw [hW]; simp)
  rw [← hW]
  clear hW
  refine (ksameR_any s s A B C D xs ys xs ys c1 c2 c3 c4 W (HA.out.rd.ext HX.out) (HB.out.rd.ext HX.out) (HC.out.ext HX.out) (HD.out.ext HX.out) true (decide_eq_true rfl)).mono ?_; rintro e w1 ⟨rfl, hx⟩
  have F1 := thr_ext hx F0
  have V0 := Lib.hid (V0.out.ext hx)
  have V3 := Lib.hid (V3.out.ext hx)
  have HXX := Lib.hid (HX.out.trans hx)
  have HZ1 := Lib.hid (show w.heap.size + 4 ≤ w1.heap.size by have := hx.size; have := HZ.out; omega)
  clear hx F0 HX HZ
  have k0 := V0.out.at_ 0 _ rfl
  have k1 := V0.out.at_ 1 _ rfl
  have s0 := V0.out.fr 0
  have s1 := V0.out.fr 1
  obtain ⟨u0, u1, u2⟩ := id F1
  have bV : ∀ b, (Value.slice V k cv).ownBlock = some b → base ≤ b ∧ b < w.heap.size := HR.out.lt
  have HBV := Lib.hid bV
  have HPL := Lib.hid (show ∀ j, j < 2 * k → ∀ a, P0 j = some a → a.block < w.heap.size from fun j hj a e => by have h := HR.out.own j hj; rw [e] at h; exact h.block.2)
  have HAL := Lib.hid (show ∀ a, A = some a → a.block < w.heap.size from fun a e => by have h := HA.out; rw [e] at h; exact h.block.2)
  have HBL := Lib.hid (show ∀ a, B = some a → a.block < w.heap.size from fun a e => by have h := HB.out; rw [e] at h; exact h.block.2)
  have hvn : ∀ n, w.heap.size ≤ n → (Value.slice V k cv).ownBlock ≠ some n := fun n hn e => by have := bV n e; omega
  have HVN := Lib.hid hvn
  have HXs := Lib.hid (show w.grownBy ((w1.setCell ⟨w.heap.size, 1, none⟩ (.bool true)).alloc (.cells #[.bool s, .slice A xs.length c1, .slice B ys.length c2] 24)) (Value.slice V k cv).ownBlock from grown_alloc (grown_setNew (HXX.out.by_ _) (Nat.le_refl _)) _)
  have HRs := Lib.hid (((HR.out.ext HXX.out).setNe (p := ⟨w.heap.size, 1, none⟩) (u := .bool true) (hvn _ (Nat.le_refl _)) (fun j hj a e => by have := HPL.out j hj a e; simp only; omega)).ext ((Ext.refl _).alloc (.cells #[.bool s, .slice A xs.length c1, .slice B ys.length c2] 24)))
  have VS := Lib.hid ((V0.out.set 1 (.bool true) (by simp)).ext ((Ext.refl _).alloc (.cells #[.bool s, .slice A xs.length c1, .slice B ys.length c2] 24)))
  have V3s := Lib.hid ((V3.out.setNe (p := ⟨w.heap.size, 1, none⟩) (u := .bool true) (by simp only; omega)).ext ((Ext.refl _).alloc (.cells #[.bool s, .slice A xs.length c1, .slice B ys.length c2] 24)))
  have KA := Lib.hid (show Own ((w1.setCell ⟨w.heap.size, 1, none⟩ (.bool true)).alloc (.cells #[.bool s, .slice A xs.length c1, .slice B ys.length c2] 24)) base A c1 (X (2 * k)) by rw [HX1.out]; exact (own_set (HA.out.ext HXX.out) (fun a e => by have := HAL.out a e; simp only; omega)).ext ((Ext.refl _).alloc _))
  have KB := Lib.hid (show Own ((w1.setCell ⟨w.heap.size, 1, none⟩ (.bool true)).alloc (.cells #[.bool s, .slice A xs.length c1, .slice B ys.length c2] 24)) base B c2 (X (2 * k + 1)) by rw [HX2.out]; exact (own_set (HB.out.ext HXX.out) (fun a e => by have := HBL.out a e; simp only; omega)).ext ((Ext.refl _).alloc _))
  have K0 := Lib.hid (show ((w1.setCell ⟨w.heap.size, 1, none⟩ (.bool true)).alloc (.cells #[.bool s, .slice A xs.length c1, .slice B ys.length c2] 24)).cell? ((⟨w1.heap.size, 0, none⟩ : Addr).add 0) = some (.bool (F k).neg) by rw [HF.out]; simp [go_sem, Addr.add])
  have K1 := Lib.hid (show ((w1.setCell ⟨w.heap.size, 1, none⟩ (.bool true)).alloc (.cells #[.bool s, .slice A xs.length c1, .slice B ys.length c2] 24)).cell? ((⟨w1.heap.size, 0, none⟩ : Addr).add 1) = some (.slice A (F k).num.length c1) by rw [HF.out]; simp [go_sem, Addr.add])
  have K2 := Lib.hid (show ((w1.setCell ⟨w.heap.size, 1, none⟩ (.bool true)).alloc (.cells #[.bool s, .slice A xs.length c1, .slice B ys.length c2] 24)).cell? ((⟨w1.heap.size, 0, none⟩ : Addr).add 2) = some (.slice B (F k).den.length c2) by rw [HF.out]; simp [go_sem, Addr.add])
  have KZ := Lib.hid (show base ≤ ((w1.setCell ⟨w.heap.size, 1, none⟩ (.bool true)).alloc (.cells #[.bool s, .slice A xs.length c1, .slice B ys.length c2] 24)).heap.size by have := HZ1.out; have := HBS.out; simp; omega)
  have hsz := Lib.hid (show ((w1.setCell ⟨w.heap.size, 1, none⟩ (.bool true)).alloc (.cells #[.bool s, .slice A xs.length c1, .slice B ys.length c2] 24)).heap.size = w1.heap.size + 1 by simp)
  clear bV hvn
  go_wp2_with (at_builtin; refine wpList_appT rfl _ _ rfl base (.slice V k cv) k P0 C0 F X rfl HRs.out ⟨w1.heap.size, 0, none⟩ 1 rfl A B c1 c2 K0.out K1.out K2.out KA.out KB.out HAB.out HAP.out HBP.out hk KZ.out ?_; intro g cap P' C' w2 hr hg hat hP'; have HR2 := Lib.hid hr; have HG := Lib.hid hg; have HAT := Lib.hid hat; have HPP := Lib.hid hP'; have VS2 := VS.out.grown hg (fun e => HVN.out _ (Nat.le_refl _) e.symm); have V32 := V3s.out.grown hg (fun e => HVN.out _ (by omega) e.symm); clear hr hg hat hP' k0 k1 s0 s1 u0 u1 u2 F1; have k0 := VS2.at_ 0 _ rfl; have k1 := VS2.at_ 1 _ rfl; have s0 := VS2.fr 0; have s1 := VS2.fr 1; have m0 := V32.at_ 0 _ rfl; have m1 := V32.at_ 1 _ rfl; have t0 := V32.fr 0; have t1 := V32.fr 1; clear VS2 V32)
  have HG2 := Lib.hid (grown_trans HXs.out HG.out)
  have HGN := Lib.hid (show ∀ n, w.heap.size ≤ n → n ≤ w.heap.size + 3 → g ≠ n from fun n h1 h2 e => by
    rcases HAT.out with h | h
    · have := HBV.out g h; omega
    · have h3 := hsz.out; have h4 := HZ1.out; omega)
  have HPN := Lib.hid (show ∀ j, j < 2 * (k + 1) → ∀ a, P' j = some a → a.block < w.heap.size from fun j hj a e => by
    rcases HPP.out j hj with h | h | ⟨i, hi, h⟩
    · exact HAL.out a (h ▸ e)
    · exact HBL.out a (h ▸ e)
    · exact HPL.out i hi a (h ▸ e))
  exact bodyPost_ret (v := .agg #[.slice (some ⟨g, 0, none⟩) (k + 1) cap, .bool true]) (by simp [results, Tryz.results16, go_sem, m0, m1]) rfl ⟨g, cap, P', C', rfl, by repeat (first | (with_reducible exact HR2.out) | refine Rows2.setNe ?_ (fun e => HGN.out _ (by simp only; omega) (by simp only; omega) (Option.some.inj e)) (fun j hj a e => by have := HPN.out j hj a e; simp only; omega)), by repeat (first | (with_reducible exact HG2.out) | refine grown_setNew ?_ (by simp only; omega))⟩

end Go.Proofs.YtifonmdcicegdaaGreat

/- ratio.words, Same. -/
namespace Go.Proofs.YtifonmdcicegdaaGreat
open Go Go.RowKit

set_option maxHeartbeats 1000000 in
theorem words_any (A B : Option Addr) (xs ys : List Int) (c d l : Nat) (w : World) (ha : Rd w A c xs) (hb : Rd w B d ys) (hl : xs.length = l) (n : Nat) (hn : ys.length = n) (b : Bool) (hbb : decide (xs = ys) = b) :
    Calls Tryz.prog 159 #[.slice A l c, .slice B n d] w fun e w' => e = .returned (.bool b) ∧ Quiet w w' := by
  have HL := Lib.hid hl
  have HN := Lib.hid hn
  have HA := Lib.hid ha
  have HB := Lib.hid hb
  have HBB := Lib.hid hbb
  have hll := ha.lim
  rw [hl] at hll
  clear ha hb hl hn hbb
  by_cases hne : l = n
  · subst hne
    have hbn : ((l : Int) != (l : Int)) = false := by simp
    go_enter Tryz.func159, Tryz.ntmps159
    go_wp2_with fail
    go_loopw [13] (fun i wr => ∃ k : Nat, k ≤ l ∧ i = .int .i64 k ∧ Hid (∀ j, j < k → nth xs j = nth ys j) ∧ Hid (Quiet w wr)) (fun i _ => l - (intOf i).toNat)
    case atStart => exact ⟨0, by omega, rfl, fun j hj => by omega, Quiet.refl w⟩
    case round =>
      obtain ⟨k, hk, rfl, HE, HQ⟩ := hrel
      by_cases hkl : k < l
      · obtain ⟨a, rfl, hca⟩ := (HA.out.ext HQ.out.ext).at_ k (by rw [HL.out]; exact hkl)
        obtain ⟨b', rfl, hcb⟩ := (HB.out.ext HQ.out.ext).at_ k (by rw [HN.out]; exact hkl)
        by_cases he : nth xs k = nth ys k
        · have HE2 := Lib.hid (show ∀ j, j < k + 1 → nth xs j = nth ys j from fun j hj => by
            by_cases e : j = k
            · rw [e]; exact he
            · exact HE.out j (by omega))
          have hne : (nth xs k != nth ys k) = false := bne_eq_false_iff_eq.2 he
          clear he
          go_wp2_with fail
          go_quiet (fail)
          go_wp2_with fail
          go_roundw
          case rel => exact ⟨k + 1, by omega, by go_num, HE2.out, HQ.out.drewN _⟩
          case measure => simp [intOf]; omega
        · have hne : (nth xs k != nth ys k) = true := bne_iff_ne.2 he
          have HF := Lib.hid (show b = false by rw [← HBB.out]; exact decide_eq_false (fun e => he (by rw [e])))
          clear he
          go_wp2_with fail
          go_quiet (fail)
          go_wp2_with fail
          go_ret
          exact ⟨by rw [HF.out]; rfl, HQ.out.drewN _⟩
      · have hkk : k = l := by omega
        have HF := Lib.hid (show b = true by rw [← HBB.out]; exact decide_eq_true (nth_ext (HL.out.trans HN.out.symm) (fun j hj => HE.out j (by have := HL.out; omega))))
        go_wp2_with fail
        go_ret
        exact ⟨by rw [HF.out]; rfl, HQ.out⟩
  · have hbn : ((l : Int) != (n : Int)) = true := bne_iff_ne.2 (by omega)
    have HF := Lib.hid (show b = false by rw [← HBB.out]; exact decide_eq_false (fun e => hne (by rw [← HL.out, ← HN.out, e])))
    go_enter Tryz.func159, Tryz.ntmps159
    go_wp2_with fail
    go_ret
    exact ⟨by rw [HF.out]; rfl, Quiet.refl w⟩

set_option maxHeartbeats 1000000 in
theorem same_fr_raw (s t : Bool) (A B C D : Option Addr) (xs ys us vs : List Int) (a b c d : Nat) (w : World) (ha : Rd w A a xs) (hb : Rd w B b ys) (hc : Rd w C c us) (hd : Rd w D d vs) (r : Bool) (hr : decide ((⟨s, xs, ys⟩ : Fr) = ⟨t, us, vs⟩) = r) :
    Calls Tryz.prog 33 #[.agg #[.bool s, .slice A xs.length a, .slice B ys.length b], .agg #[.bool t, .slice C us.length c, .slice D vs.length d]] w fun e w' => e = .returned (.bool r) ∧ Ext w w' := by
  have HA := Lib.hid ha
  have HB := Lib.hid hb
  have HC := Lib.hid hc
  have HD := Lib.hid hd
  have HR := Lib.hid hr
  clear ha hb hc hd hr
  have HX := Lib.hid (((Ext.refl w).alloc (.cells #[.bool s, .slice A xs.length a, .slice B ys.length b] 24)).alloc (.cells #[.bool t, .slice C us.length c, .slice D vs.length d] 24))
  by_cases h1 : s = t
  · subst h1
    by_cases h2 : xs = us
    · have H2 := Lib.hid h2
      have HS := Lib.hid (words_any A C xs us a c xs.length _ (HA.out.ext HX.out) (HC.out.ext HX.out) rfl us.length rfl true (decide_eq_true h2))
      have HS2 := Lib.hid (fun wx (hx : Ext w wx) => words_any B D ys vs b d ys.length wx (HB.out.ext hx) (HD.out.ext hx) rfl vs.length rfl r (by rw [← HR.out, h2]; simp))
      clear h2
      go_enter Tryz.func33, Tryz.ntmps33
      go_wp2_with fail
      refine HS.out.mono ?_; rintro e w1 ⟨rfl, hq⟩
      obtain ⟨m1, rfl⟩ := hq
      go_wp2_with fail
      refine (HS2.out _ (HX.out.drewN m1)).mono ?_; rintro e w2 ⟨rfl, hq⟩
      obtain ⟨m2, rfl⟩ := hq
      go_wp2_with fail
      go_ret
      exact ⟨rfl, HX.out.drewN _⟩
    · have HS := Lib.hid (words_any A C xs us a c xs.length _ (HA.out.ext HX.out) (HC.out.ext HX.out) rfl us.length rfl false (decide_eq_false h2))
      have HF := Lib.hid (show r = false by rw [← HR.out]; exact decide_eq_false (fun e => h2 (Fr.mk.inj e).2.1))
      clear h2
      go_enter Tryz.func33, Tryz.ntmps33
      go_wp2_with fail
      refine HS.out.mono ?_; rintro e w1 ⟨rfl, hq⟩
      obtain ⟨m1, rfl⟩ := hq
      go_wp2_with fail
      go_ret
      exact ⟨by rw [HF.out]; rfl, HX.out.drewN m1⟩
  · have HF := Lib.hid (show r = false by rw [← HR.out]; exact decide_eq_false (fun e => h1 (Fr.mk.inj e).1))
    have hb : (s == t) = false := beq_eq_false_iff_ne.2 h1
    go_enter Tryz.func33, Tryz.ntmps33
    go_wp2_with fail
    go_ret
    exact ⟨by rw [HF.out]; rfl, HX.out⟩

theorem same_fr (a b : Fr) (A B C D : Option Addr) (c1 c2 c3 c4 : Nat) (w : World) (ha : Rd w A c1 a.num) (hb : Rd w B c2 a.den) (hc : Rd w C c3 b.num) (hd : Rd w D c4 b.den) (r : Bool) (hr : decide (a = b) = r) :
    Calls Tryz.prog 33 #[.agg #[.bool a.neg, .slice A a.num.length c1, .slice B a.den.length c2], .agg #[.bool b.neg, .slice C b.num.length c3, .slice D b.den.length c4]] w fun e w' => e = .returned (.bool r) ∧ Ext w w' :=
  same_fr_raw a.neg b.neg A B C D a.num a.den b.num b.den c1 c2 c3 c4 w ha hb hc hd r hr

end Go.Proofs.YtifonmdcicegdaaGreat

/- Fractions at addresses; blocks that are the call's own. -/
namespace Go.Proofs.YtifonmdcicegdaaGreat
open Go Go.RowKit

/-- where a fraction's words lie -/
structure Adr where
  A : Option Addr
  c : Nat
  B : Option Addr
  d : Nat
/-- they do not lie in this block -/
def Adr.Off (p : Adr) (k : Nat) : Prop := (∀ a, p.A = some a → a.block ≠ k) ∧ (∀ a, p.B = some a → a.block ≠ k)
/-- they lie in other blocks than another's -/
structure Adr.Dis (p q : Adr) : Prop where
  aa : ∀ a b, p.A = some a → q.A = some b → a.block ≠ b.block
  ab : ∀ a b, p.A = some a → q.B = some b → a.block ≠ b.block
  ba : ∀ a b, p.B = some a → q.A = some b → a.block ≠ b.block
  bb : ∀ a b, p.B = some a → q.B = some b → a.block ≠ b.block
def Adr.nil : Adr := ⟨none, 0, none, 0⟩
/-- a fraction that is read -/
structure RF (w : World) (p : Adr) (f : Fr) : Prop where
  num : Rd w p.A p.c f.num
  den : Rd w p.B p.d f.den
  wf : f.Wf
/-- one in the call's own memory -/
structure OF (w : World) (base : Nat) (p : Adr) (f : Fr) : Prop where
  num : Own w base p.A p.c f.num
  den : Own w base p.B p.d f.den
  ap : ∀ a b, p.A = some a → p.B = some b → a.block ≠ b.block
  wf : f.Wf
theorem RF.ext {w w' : World} {p : Adr} {f : Fr} (h : RF w p f) (x : Ext w w') : RF w' p f := ⟨h.num.ext x, h.den.ext x, h.wf⟩
theorem OF.rf {w : World} {base : Nat} {p : Adr} {f : Fr} (h : OF w base p f) : RF w p f := ⟨h.num.rd, h.den.rd, h.wf⟩
theorem OF.ext {w w' : World} {base : Nat} {p : Adr} {f : Fr} (h : OF w base p f) (x : Ext w w') : OF w' base p f := ⟨h.num.ext x, h.den.ext x, h.ap, h.wf⟩
theorem OF.lower {w : World} {base base' : Nat} {p : Adr} {f : Fr} (h : OF w base p f) (hb : base' ≤ base) : OF w base' p f := ⟨h.num.lower hb, h.den.lower hb, h.ap, h.wf⟩
theorem OF.kept {w w' : World} {base k : Nat} {p : Adr} {f : Fr} (h : OF w base p f) (g : w.grownBy w' (some k)) (o : p.Off k) : OF w' base p f :=
  ⟨h.num.kept g (fun a ha e => o.1 a ha (Option.some.inj e)), h.den.kept g (fun a ha e => o.2 a ha (Option.some.inj e)), h.ap, h.wf⟩
theorem OF.set {w : World} {base : Nat} {p : Adr} {f : Fr} {a : Addr} {u : Value} (h : OF w base p f) (o : p.Off a.block) : OF (w.setCell a u) base p f := h.kept (grown_setCell w a u) o
theorem OF.offLo {w : World} {base k : Nat} {p : Adr} {f : Fr} (h : OF w base p f) (hk : k < base) : p.Off k :=
  ⟨fun a ha e => by have := h.num; rw [ha] at this; have := this.block.1; omega, fun a ha e => by have := h.den; rw [ha] at this; have := this.block.1; omega⟩
theorem OF.offHi {w : World} {base k : Nat} {p : Adr} {f : Fr} (h : OF w base p f) (hk : w.heap.size ≤ k) : p.Off k :=
  ⟨fun a ha e => by have := h.num; rw [ha] at this; have := this.block.2; omega, fun a ha e => by have := h.den; rw [ha] at this; have := this.block.2; omega⟩
theorem OF.set1 {w : World} {base k o : Nat} {p : Adr} {f : Fr} {u : Value} (h : OF w base p f) (hp : p.Off k) : OF (w.setCell ⟨k, o, none⟩ u) base p f := h.set hp
theorem OF.setLo {w : World} {base : Nat} {p : Adr} {f : Fr} {a : Addr} {u : Value} (h : OF w base p f) (hk : a.block < base) : OF (w.setCell a u) base p f := h.set (h.offLo hk)
theorem OF.alloc {w : World} {base : Nat} {p : Adr} {f : Fr} {o : Obj} (h : OF w base p f) : OF (w.alloc o) base p f := h.ext ((Ext.refl w).alloc o)
theorem OF.drew {w : World} {base : Nat} {p : Adr} {f : Fr} (h : OF w base p f) : OF w.drew base p f := h.ext (Ext.refl w).drew
theorem OF.dis {w w' : World} {base base' : Nat} {p q : Adr} {f g : Fr} (h : OF w base p f) (k : OF w' base' q g) (hb : w.heap.size ≤ base') : p.Dis q :=
  ⟨h.num.apart k.num hb, h.num.apart k.den hb, h.den.apart k.num hb, h.den.apart k.den hb⟩
theorem Adr.Dis.symm {p q : Adr} (h : p.Dis q) : q.Dis p := ⟨fun a b e f => (h.aa b a f e).symm, fun a b e f => (h.ba b a f e).symm, fun a b e f => (h.ab b a f e).symm, fun a b e f => (h.bb b a f e).symm⟩
theorem OF.nil (w : World) (base : Nat) : OF w base Adr.nil Fr.zero := ⟨Own.nil _ _, Own.nil _ _, (fun _ _ h => by cases h), Fr.zero_wf⟩
theorem Adr.Dis.nil (p : Adr) : p.Dis Adr.nil := ⟨(fun _ _ _ h => by cases h), (fun _ _ _ h => by cases h), (fun _ _ _ h => by cases h), (fun _ _ _ h => by cases h)⟩
theorem Adr.Dis.nil' (p : Adr) : Adr.nil.Dis p := (Adr.Dis.nil p).symm
theorem Adr.Off.nil (k : Nat) : Adr.nil.Off k := ⟨(fun _ h => by cases h), (fun _ h => by cases h)⟩

/-- a call's answer: a fraction in new memory and an error -/
def TF (w : World) (t : Fr × Int) (e : Ending) (w' : World) : Prop :=
  ∃ p : Adr, e = .returned (.tuple #[.agg #[.bool t.1.neg, .slice p.A t.1.num.length p.c, .slice p.B t.1.den.length p.d], .int .i64 t.2]) ∧ OF w' w.heap.size p t.1 ∧ Below w.heap.size w w'
theorem RatP.tf {w w' : World} {t : Fr × Int} {e : Ending} (h : RatP w t e w') (hg : t.1.Wf) : TF w t e w' := by
  obtain ⟨A, c, B, d, h1, h2, h3, h4, h5⟩ := h
  exact ⟨⟨A, c, B, d⟩, h1, ⟨h2, h3, h4, hg⟩, h5⟩

section
variable (a b : Fr) (p q : Adr) (w : World) (ha : RF w p a) (hb : RF w q b)
include ha hb
theorem rAdd : Calls Tryz.prog 14 #[.agg #[.bool a.neg, .slice p.A a.num.length p.c, .slice p.B a.den.length p.d], .agg #[.bool b.neg, .slice q.A b.num.length q.c, .slice q.B b.den.length q.d]] w (TF w (fadd a b)) :=
  (add_fr a b _ _ _ _ _ _ _ _ w ha.num ha.den hb.num hb.den ha.wf hb.wf).mono fun _ _ h => h.tf (fadd_good a b).wf
theorem rSub : Calls Tryz.prog 17 #[.agg #[.bool a.neg, .slice p.A a.num.length p.c, .slice p.B a.den.length p.d], .agg #[.bool b.neg, .slice q.A b.num.length q.c, .slice q.B b.den.length q.d]] w (TF w (fsub a b)) :=
  (sub_fr a b _ _ _ _ _ _ _ _ w ha.num ha.den hb.num hb.den ha.wf hb.wf).mono fun _ _ h => h.tf (fsub_good a b).wf
theorem rMul : Calls Tryz.prog 19 #[.agg #[.bool a.neg, .slice p.A a.num.length p.c, .slice p.B a.den.length p.d], .agg #[.bool b.neg, .slice q.A b.num.length q.c, .slice q.B b.den.length q.d]] w (TF w (fmul a b)) :=
  (mul_fr a b _ _ _ _ _ _ _ _ w ha.num ha.den hb.num hb.den ha.wf hb.wf).mono fun _ _ h => h.tf (fmul_good a b).wf
theorem rQuo : Calls Tryz.prog 21 #[.agg #[.bool a.neg, .slice p.A a.num.length p.c, .slice p.B a.den.length p.d], .agg #[.bool b.neg, .slice q.A b.num.length q.c, .slice q.B b.den.length q.d]] w (TF w (fquo a b)) :=
  (quo_fr a b _ _ _ _ _ _ _ _ w ha.num ha.den hb.num hb.den ha.wf hb.wf).mono fun _ _ h => h.tf (fquo_good a b).wf
end

theorem fneg_wf {a : Fr} (wa : a.Wf) : (fneg a).1.Wf := by
  unfold fneg
  split
  · exact Fr.zero_wf
  · exact enc_wf _
theorem rNeg (a : Fr) (p : Adr) (w : World) (ha : RF w p a) : Calls Tryz.prog 23 #[.agg #[.bool a.neg, .slice p.A a.num.length p.c, .slice p.B a.den.length p.d]] w (TF w (fneg a)) :=
  (neg_fr a _ _ _ _ w ha.num ha.den ha.wf).mono fun _ _ h => h.tf (fneg_wf ha.wf)
theorem rSame (a b : Fr) (p q : Adr) (w : World) (ha : RF w p a) (hb : RF w q b) : Calls Tryz.prog 33 #[.agg #[.bool a.neg, .slice p.A a.num.length p.c, .slice p.B a.den.length p.d], .agg #[.bool b.neg, .slice q.A b.num.length q.c, .slice q.B b.den.length q.d]] w fun e w' => e = .returned (.bool (decide (a = b))) ∧ Below w.heap.size w w' :=
  same_fr a b _ _ _ _ _ _ _ _ w ha.num ha.den hb.num hb.den _ rfl
theorem fsmall_wf (n d : Int) : (fsmall n d).1.Wf := by
  unfold fsmall
  split
  · exact Fr.zero_wf
  · exact tell_wf _
theorem rSmall (n d : Int) (w : World) (h0 : -9223372036854775808 ≤ n) (h1 : n ≤ 9223372036854775807) (k0 : -9223372036854775808 ≤ d) (k1 : d ≤ 9223372036854775807) : Calls Tryz.prog 165 #[.int .i64 n, .int .i64 d] w (TF w (fsmall n d)) :=
  (small_frac n d w h0 h1 k0 k1).mono fun _ _ h => h.tf (fsmall_wf n d)

/-! ### blocks that are the call's own -/
theorem Var.c3 {g : Nat} {w : World} {a b c : Value} (h : Var g [a, b, c] w) : w.cell? ⟨g, 0, none⟩ = some a ∧ w.cell? ⟨g, 1, none⟩ = some b ∧ w.cell? ⟨g, 2, none⟩ = some c := ⟨h.at_ 0 _ rfl, h.at_ 1 _ rfl, h.at_ 2 _ rfl⟩
theorem Var.c6 {g : Nat} {w : World} {a b c d e f : Value} (h : Var g [a, b, c, d, e, f] w) : w.cell? ⟨g, 0, none⟩ = some a ∧ w.cell? ⟨g, 1, none⟩ = some b ∧ w.cell? ⟨g, 2, none⟩ = some c ∧ w.cell? ⟨g, 3, none⟩ = some d ∧ w.cell? ⟨g, 4, none⟩ = some e ∧ w.cell? ⟨g, 5, none⟩ = some f :=
  ⟨h.at_ 0 _ rfl, h.at_ 1 _ rfl, h.at_ 2 _ rfl, h.at_ 3 _ rfl, h.at_ 4 _ rfl, h.at_ 5 _ rfl⟩
theorem Var.f3 {g : Nat} {vs : List Value} {w : World} (h : Var g vs w) : w.frozen? ⟨g, 0, none⟩ = false ∧ w.frozen? ⟨g, 1, none⟩ = false ∧ w.frozen? ⟨g, 2, none⟩ = false := ⟨h.fr 0, h.fr 1, h.fr 2⟩
theorem Var.below {g : Nat} {vs : List Value} {w w' : World} (h : Var g vs w) (x : Below w.heap.size w w') : Var g vs w' := h.ext x
theorem Var.by1 {g k : Nat} {vs : List Value} {w w' : World} (h : Var g vs w) (x : w.grownBy w' (some k)) (hk : g ≠ k) : Var g vs w' := h.grown x (fun e => hk (Option.some.inj e))
theorem Below.by1 {w0 w w' : World} {k : Nat} (h : Below w0.heap.size w0 w) (g : w.grownBy w' (some k)) (hk : w0.heap.size ≤ k) : Below w0.heap.size w0 w' := Ext.grown h g (fun i e => by have := Option.some.inj e; omega)
theorem Below.join {w0 w w' : World} (h : Below w0.heap.size w0 w) (g : Below w.heap.size w w') : Below w0.heap.size w0 w' := Ext.trans h g

end Go.Proofs.YtifonmdcicegdaaGreat

