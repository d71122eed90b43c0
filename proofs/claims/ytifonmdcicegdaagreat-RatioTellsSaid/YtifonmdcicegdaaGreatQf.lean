/- Texts of this claim, joined: K7a T1 R6 P6 R7 R8. -/
import Derived.Deep.RegionHeld3
import Derived.Test.YtifonmdcicegdaaGreatQe
/- Lists of fractions of the call's own. -/
namespace Go.Proofs.YtifonmdcicegdaaGreat
open Go Go.RowKit

theorem info_ratio : (Tryz.prog.info? 24).map (fun i => (i.zero, i.size, i.bytes)) = some (some (.agg #[.bool false, .slice none 0 0, .slice none 0 0]), 3, 56) := by kernel_rfl
/-- a list of fractions of the call's own: its cells, and the words that it leads to -/
structure Rows2 (w : World) (base : Nat) (v : Value) (k : Nat) (P : Nat → Option Addr) (C : Nat → Nat) (F : Nat → Fr) (X : Nat → List Int) : Prop where
  row : ∃ vs, w.ownsRow base 24 3 v k vs ∧ ∀ j, j < k → vs[j * 3]? = some (.bool (F j).neg) ∧ vs[j * 3 + 1]? = some (.slice (P (2 * j)) (F j).num.length (C (2 * j))) ∧ vs[j * 3 + 2]? = some (.slice (P (2 * j + 1)) (F j).den.length (C (2 * j + 1)))
  own : ∀ j, j < 2 * k → Own w base (P j) (C j) (X j)
  ap : ∀ i j, i < 2 * k → j < 2 * k → i ≠ j → ∀ a b, P i = some a → P j = some b → a.block ≠ b.block
theorem Rows2.nil (w : World) (base : Nat) (F : Nat → Fr) (X : Nat → List Int) : Rows2 w base (.slice none 0 0) 0 (fun _ => none) (fun _ => 0) F X :=
  ⟨⟨[], World.ownsRow_nil w base _ 3, fun j hj => by omega⟩, fun j hj => by omega, fun i j hi => by omega⟩
/-- words and fractions lie in different rows -/
theorem row_ne {w : World} {base base' k c : Nat} {a : Addr} {xs : List Int} {v : Value} {vs : List Value} (h : Own w base (some a) c xs) (k2 : w.ownsRow base' 24 3 v k vs) : v.ownBlock ≠ some a.block := by
  intro e
  rcases h.cases with ⟨h1, _⟩ | ⟨g, cur, h1, h2, h3, _⟩
  · cases h1
  · cases h1
    rcases k2.2 with ⟨rfl, _⟩ | ⟨g', cap, cur', rfl, _, h4, _⟩
    · cases e
    · have e2 : g' = g := Option.some.inj e
      subst e2
      rw [h3] at h4
      cases h4
theorem Rows2.ext {w w' : World} {base : Nat} {v : Value} {k : Nat} {P : Nat → Option Addr} {C : Nat → Nat} {F : Nat → Fr} {X : Nat → List Int} (h : Rows2 w base v k P C F X) (x : Ext w w') : Rows2 w' base v k P C F X := by
  obtain ⟨vs, h1, h2⟩ := h.row
  exact ⟨⟨vs, ownsRow_ext h1 x, h2⟩, fun j hj => (h.own j hj).ext x, h.ap⟩
theorem Rows2.ge {w : World} {base : Nat} {v : Value} {k : Nat} {P : Nat → Option Addr} {C : Nat → Nat} {F : Nat → Fr} {X : Nat → List Int} (h : Rows2 w base v k P C F X) : ∀ b, v.ownBlock = some b → base ≤ b := by
  obtain ⟨vs, h1, h2⟩ := h.row
  exact ownsRow_ge h1
theorem Rows2.slice {w : World} {base : Nat} {v : Value} {k : Nat} {P : Nat → Option Addr} {C : Nat → Nat} {F : Nat → Fr} {X : Nat → List Int} (h : Rows2 w base v k P C F X) (hk : 0 < k) : ∃ g cap, v = .slice (some ⟨g, 0, none⟩) k cap ∧ k ≤ cap ∧ cap ≤ 9223372036854775807 ∧ base ≤ g ∧ g < w.heap.size := by
  obtain ⟨vs, h1, h2⟩ := h.row
  rcases h1.2 with ⟨_, h3⟩ | ⟨g, cap, cur, h3, h4, h5, h6, h7, _⟩
  · omega
  · exact ⟨g, cap, h3, h6, by simp only [maxLen] at h7; omega, h4, (Array.getElem?_eq_some_iff.1 h5).1⟩
theorem Rows2.cells {w : World} {base g c : Nat} {k : Nat} {P : Nat → Option Addr} {C : Nat → Nat} {F : Nat → Fr} {X : Nat → List Int} (h : Rows2 w base (.slice (some ⟨g, 0, none⟩) k c) k P C F X) (j : Nat) (hj : j < k) :
    w.cell? ⟨g, j * 3, none⟩ = some (.bool (F j).neg) ∧ w.cell? ⟨g, j * 3 + 1, none⟩ = some (.slice (P (2 * j)) (F j).num.length (C (2 * j))) ∧ w.cell? ⟨g, j * 3 + 2, none⟩ = some (.slice (P (2 * j + 1)) (F j).den.length (C (2 * j + 1))) := by
  obtain ⟨vs, h1, h2⟩ := h.row
  obtain ⟨e0, e1, e2⟩ := h2 j hj
  exact ⟨(World.ownsRow.cellAt h1 _ (by omega)).trans e0, (World.ownsRow.cellAt h1 _ (by omega)).trans e1, (World.ownsRow.cellAt h1 _ (by omega)).trans e2⟩
theorem three_at {vs : List Value} {k : Nat} (hl : vs.length = k * 3) (a b c : Value) : (vs ++ [a, b, c])[k * 3]? = some a ∧ (vs ++ [a, b, c])[k * 3 + 1]? = some b ∧ (vs ++ [a, b, c])[k * 3 + 2]? = some c := by
  refine ⟨?_, ?_, ?_⟩ <;> rw [List.getElem?_append_right (by omega), hl] <;> simp

set_option maxHeartbeats 1000000 in
/-- append of one fraction -/
theorem wpList_appR {w : World} {ops : Array Oper} {rest : List Oper} {o : Oper} {a : Act} {Q : Exit → Act → World → Prop} (hgd : o.guard = none) (s x : Operand)
    (ho : o.op = .call { callee := .builtin .append, args := #[s, x], argTypes := #[26, 26] })
    (base : Nat) (v : Value) (k : Nat) (P : Nat → Option Addr) (C : Nat → Nat) (F : Nat → Fr) (X : Nat → List Int) (hs : a.eval s = v) (hR : Rows2 w base v k P C F X)
    (ad : Addr) (c : Nat) (hx : a.eval x = .slice (some ad) 1 c) (A B : Option Addr) (c1 c2 : Nat)
    (h0 : w.cell? (ad.add 0) = some (.bool (F k).neg)) (h1 : w.cell? (ad.add 1) = some (.slice A (F k).num.length c1)) (h2 : w.cell? (ad.add 2) = some (.slice B (F k).den.length c2))
    (hA : Own w base A c1 (X (2 * k))) (hB : Own w base B c2 (X (2 * k + 1))) (hAB : ∀ a b, A = some a → B = some b → a.block ≠ b.block)
    (hAP : ∀ j, j < 2 * k → ∀ a b, P j = some a → A = some b → a.block ≠ b.block) (hBP : ∀ j, j < 2 * k → ∀ a b, P j = some a → B = some b → a.block ≠ b.block)
    (hk : k ≤ 1000000) (hbase : base ≤ w.heap.size)
    (h : ∀ v' P' C' w', Rows2 w' base v' (k + 1) P' C' F X → w.grownBy w' v.ownBlock → wpList Tryz.prog ops Q rest (a.put o.dst v') w') : wpList Tryz.prog ops Q (o :: rest) a w := by
  obtain ⟨i0, hi, hz0, hz1, hz2⟩ := info_parts info_ratio
  obtain ⟨vs, hv1, hv2⟩ := hR.row
  have hl : vs.length = k * 3 := hv1.1
  refine wpList_append_own w hgd s x 26 ho base 24 i0 _ 3 56 Tryz.underlying26 hi hz0 hz1 hz2 rfl (by decide) v k vs hs hv1 ad 1 c [.bool (F k).neg, .slice A (F k).num.length c1, .slice B (F k).den.length c2] hx rfl
    (fun j u hu => by
      match j, hu with
      | 0, hu => cases hu; exact h0
      | 1, hu => cases hu; exact h1
      | 2, hu => cases hu; exact h2) (by intro u hu; simp at hu; rcases hu with rfl | rfl | rfl <;> rfl) (by unfold maxLen; omega) (by omega) hbase ?_
  intro v' w' hr hg _
  obtain ⟨t0, t1, t2⟩ := three_at hl (.bool (F k).neg) (.slice A (F k).num.length c1) (.slice B (F k).den.length c2)
  refine h v' (fun j => if j = 2 * k then A else if j = 2 * k + 1 then B else P j) (fun j => if j = 2 * k then c1 else if j = 2 * k + 1 then c2 else C j) w' ⟨⟨_, hr, fun j hj => ?_⟩, fun j hj => ?_, fun i j hi hj hne => ?_⟩ hg
  · by_cases e : j = k
    · subst e
      refine ⟨t0, ?_, ?_⟩
      · rw [if_pos rfl, if_pos rfl]; exact t1
      · rw [if_neg (by omega), if_pos rfl, if_neg (by omega), if_pos rfl]; exact t2
    · obtain ⟨e0, e1, e2⟩ := hv2 j (by omega)
      rw [if_neg (by omega), if_neg (by omega), if_neg (by omega), if_neg (by omega), if_neg (by omega), if_neg (by omega), if_neg (by omega), if_neg (by omega)]
      refine ⟨?_, ?_, ?_⟩ <;> rw [List.getElem?_append_left (by omega)] <;> assumption
  · have keep : ∀ {D : Option Addr} {d : Nat} {xs : List Int}, Own w base D d xs → Own w' base D d xs := fun {D d xs} hD => hD.kept hg (fun a ha e => by
      subst ha
      exact row_ne hD hv1 e.symm)
    by_cases e1 : j = 2 * k
    · rw [if_pos e1, if_pos e1, e1]; exact keep hA
    · rw [if_neg e1, if_neg e1]
      by_cases e2 : j = 2 * k + 1
      · rw [if_pos e2, if_pos e2, e2]; exact keep hB
      · rw [if_neg e2, if_neg e2]; exact keep (hR.own j (by omega))
  · intro a b ha hb
    by_cases e1 : i = 2 * k
    · rw [if_pos e1] at ha
      rw [if_neg (by omega)] at hb
      by_cases e2 : j = 2 * k + 1
      · rw [if_pos e2] at hb; exact hAB a b ha hb
      · rw [if_neg e2] at hb; exact fun e => hAP j (by omega) b a hb ha e.symm
    · rw [if_neg e1] at ha
      by_cases e2 : i = 2 * k + 1
      · rw [if_pos e2] at ha
        by_cases e3 : j = 2 * k
        · rw [if_pos e3] at hb; exact fun e => hAB b a hb ha e.symm
        · rw [if_neg e3, if_neg (by omega)] at hb; exact fun e => hBP j (by omega) b a hb ha e.symm
      · rw [if_neg e2] at ha
        by_cases e3 : j = 2 * k
        · rw [if_pos e3] at hb; exact hAP i (by omega) a b ha hb
        · rw [if_neg e3] at hb
          by_cases e4 : j = 2 * k + 1
          · rw [if_pos e4] at hb; exact hBP i (by omega) a b ha hb
          · rw [if_neg e4] at hb; exact hR.ap i j (by omega) (by omega) hne a b ha hb

set_option maxHeartbeats 1000000 in
/-- .. where it is told what has become of the row -/
theorem wpList_appT {w : World} {ops : Array Oper} {rest : List Oper} {o : Oper} {a : Act} {Q : Exit → Act → World → Prop} (hgd : o.guard = none) (s x : Operand)
    (ho : o.op = .call { callee := .builtin .append, args := #[s, x], argTypes := #[26, 26] })
    (base : Nat) (v : Value) (k : Nat) (P : Nat → Option Addr) (C : Nat → Nat) (F : Nat → Fr) (X : Nat → List Int) (hs : a.eval s = v) (hR : Rows2 w base v k P C F X)
    (ad : Addr) (c : Nat) (hx : a.eval x = .slice (some ad) 1 c) (A B : Option Addr) (c1 c2 : Nat)
    (h0 : w.cell? (ad.add 0) = some (.bool (F k).neg)) (h1 : w.cell? (ad.add 1) = some (.slice A (F k).num.length c1)) (h2 : w.cell? (ad.add 2) = some (.slice B (F k).den.length c2))
    (hA : Own w base A c1 (X (2 * k))) (hB : Own w base B c2 (X (2 * k + 1))) (hAB : ∀ a b, A = some a → B = some b → a.block ≠ b.block)
    (hAP : ∀ j, j < 2 * k → ∀ a b, P j = some a → A = some b → a.block ≠ b.block) (hBP : ∀ j, j < 2 * k → ∀ a b, P j = some a → B = some b → a.block ≠ b.block)
    (hk : k ≤ 1000000) (hbase : base ≤ w.heap.size)
    (h : ∀ g cap P' C' w', Rows2 w' base (.slice (some ⟨g, 0, none⟩) (k + 1) cap) (k + 1) P' C' F X → w.grownBy w' v.ownBlock → (v.ownBlock = some g ∨ g = w.heap.size) → (∀ j, j < 2 * (k + 1) → P' j = A ∨ P' j = B ∨ ∃ i, i < 2 * k ∧ P' j = P i) → wpList Tryz.prog ops Q rest (a.put o.dst (.slice (some ⟨g, 0, none⟩) (k + 1) cap)) w') : wpList Tryz.prog ops Q (o :: rest) a w := by
  obtain ⟨i0, hi, hz0, hz1, hz2⟩ := info_parts info_ratio
  obtain ⟨vs, hv1, hv2⟩ := hR.row
  have hl : vs.length = k * 3 := hv1.1
  refine wpList_append_lies w hgd s x 26 ho base 24 i0 _ 3 56 Tryz.underlying26 hi hz0 hz1 hz2 rfl (by decide) v k vs hs hv1 ad 1 c [.bool (F k).neg, .slice A (F k).num.length c1, .slice B (F k).den.length c2] hx rfl
    (fun j u hu => by
      match j, hu with
      | 0, hu => cases hu; exact h0
      | 1, hu => cases hu; exact h1
      | 2, hu => cases hu; exact h2) (by intro u hu; simp at hu; rcases hu with rfl | rfl | rfl <;> rfl) (by decide) (by unfold maxLen; omega) (by omega) hbase _ rfl ?_
  intro g cap w' hr hg hat _
  obtain ⟨t0, t1, t2⟩ := three_at hl (.bool (F k).neg) (.slice A (F k).num.length c1) (.slice B (F k).den.length c2)
  refine h g cap (fun j => if j = 2 * k then A else if j = 2 * k + 1 then B else P j) (fun j => if j = 2 * k then c1 else if j = 2 * k + 1 then c2 else C j) w' ⟨⟨_, hr, fun j hj => ?_⟩, fun j hj => ?_, fun i j hi hj hne => ?_⟩ hg hat ?_
  · by_cases e : j = k
    · subst e
      refine ⟨t0, ?_, ?_⟩
      · rw [if_pos rfl, if_pos rfl]; exact t1
      · rw [if_neg (by omega), if_pos rfl, if_neg (by omega), if_pos rfl]; exact t2
    · obtain ⟨e0, e1, e2⟩ := hv2 j (by omega)
      rw [if_neg (by omega), if_neg (by omega), if_neg (by omega), if_neg (by omega), if_neg (by omega), if_neg (by omega), if_neg (by omega), if_neg (by omega)]
      refine ⟨?_, ?_, ?_⟩ <;> rw [List.getElem?_append_left (by omega)] <;> assumption
  · have keep : ∀ {D : Option Addr} {d : Nat} {xs : List Int}, Own w base D d xs → Own w' base D d xs := fun {D d xs} hD => hD.kept hg (fun a ha e => by
      subst ha
      exact row_ne hD hv1 e.symm)
    by_cases e1 : j = 2 * k
    · rw [if_pos e1, if_pos e1, e1]; exact keep hA
    · rw [if_neg e1, if_neg e1]
      by_cases e2 : j = 2 * k + 1
      · rw [if_pos e2, if_pos e2, e2]; exact keep hB
      · rw [if_neg e2, if_neg e2]; exact keep (hR.own j (by omega))
  · intro a b ha hb
    by_cases e1 : i = 2 * k
    · rw [if_pos e1] at ha
      rw [if_neg (by omega)] at hb
      by_cases e2 : j = 2 * k + 1
      · rw [if_pos e2] at hb; exact hAB a b ha hb
      · rw [if_neg e2] at hb; exact fun e => hAP j (by omega) b a hb ha e.symm
    · rw [if_neg e1] at ha
      by_cases e2 : i = 2 * k + 1
      · rw [if_pos e2] at ha
        by_cases e3 : j = 2 * k
        · rw [if_pos e3] at hb; exact fun e => hAB b a hb ha e.symm
        · rw [if_neg e3, if_neg (by omega)] at hb; exact fun e => hBP j (by omega) b a hb ha e.symm
      · rw [if_neg e2] at ha
        by_cases e3 : j = 2 * k
        · rw [if_pos e3] at hb; exact hAP i (by omega) a b ha hb
        · rw [if_neg e3] at hb
          by_cases e4 : j = 2 * k + 1
          · rw [if_pos e4] at hb; exact hBP i (by omega) a b ha hb
          · rw [if_neg e4] at hb; exact hR.ap i j (by omega) (by omega) hne a b ha hb
  · intro j hj
    by_cases e1 : j = 2 * k
    · exact .inl (by rw [if_pos e1])
    · rw [if_neg e1]
      by_cases e2 : j = 2 * k + 1
      · exact .inr (.inl (by rw [if_pos e2]))
      · exact .inr (.inr ⟨j, by omega, by rw [if_neg e2]⟩)
theorem Rows2.setNe {w : World} {base : Nat} {v : Value} {k : Nat} {P : Nat → Option Addr} {C : Nat → Nat} {F : Nat → Fr} {X : Nat → List Int} {p : Addr} {u : Value} (h : Rows2 w base v k P C F X) (hv : v.ownBlock ≠ some p.block) (hP : ∀ j, j < 2 * k → ∀ a, P j = some a → a.block ≠ p.block) : Rows2 (w.setCell p u) base v k P C F X := by
  obtain ⟨vs, h1, h2⟩ := h.row
  exact ⟨⟨vs, h1.kept (grown_setCell w p u) (.inr hv), h2⟩, fun j hj => own_set (h.own j hj) (hP j hj), h.ap⟩
theorem grown_setNew {w w' : World} {row : Option Nat} {p : Addr} {u : Value} (h : w.grownBy w' row) (hp : w.heap.size ≤ p.block) : w.grownBy (w'.setCell p u) row :=
  ⟨h.os, h.tape, h.output, by simpa using h.size, fun k hk hr => (Below.heap_setCell _ _ _ _ (by omega)).trans (h.block k hk hr)⟩

end Go.Proofs.YtifonmdcicegdaaGreat

/- The law's word hear. -/
namespace Go.Proofs.YtifonmdcicegdaaGreat
open Go Go.RowKit

theorem Rows2.lt {w : World} {base : Nat} {v : Value} {k : Nat} {P : Nat → Option Addr} {C : Nat → Nat} {F : Nat → Fr} {X : Nat → List Int} (h : Rows2 w base v k P C F X) : ∀ b, v.ownBlock = some b → base ≤ b ∧ b < w.heap.size := by
  obtain ⟨vs, h1, h2⟩ := h.row
  exact h1.lt
theorem Var.set {g : Nat} {vs : List Value} {w : World} (h : Var g vs w) (j : Nat) (u : Value) (hj : j < vs.length) : Var g (vs.set j u) (w.setCell ⟨g, j, none⟩ u) := by
  refine ⟨by simpa using h.lt, fun i v hi => ?_, fun o => by simpa using h.fr o⟩
  by_cases e : i = j
  · subst e
    rw [List.getElem?_set_self hj] at hi
    rw [World.cell?_setCell_same _ _ _ (h.at_ i _ (List.getElem?_eq_getElem hj)), hi]
  · rw [List.getElem?_set_ne (fun e2 => e e2.symm)] at hi
    exact (World.cell?_setCell_other _ _ _ _ (by intro hh; cases hh; exact e rfl)).trans (h.at_ i v hi)
theorem Var.grown {g : Nat} {vs : List Value} {w w' : World} {row : Option Nat} (h : Var g vs w) (hg : w.grownBy w' row) (hne : some g ≠ row) : Var g vs w' :=
  ⟨Nat.lt_of_lt_of_le h.lt hg.size, fun j v hj => cell_keep hg (h.at_ j v hj) hne, fun o => (World.frozen?_of_block (a := ⟨g, o, none⟩) (hg.block g h.lt hne)).trans (h.fr o)⟩
theorem Var.setNe {g : Nat} {vs : List Value} {w : World} {p : Addr} {u : Value} (h : Var g vs w) (hp : p.block ≠ g) : Var g vs (w.setCell p u) :=
  h.grown (grown_setCell w p u) (fun e => hp (Option.some.inj e).symm)

/-- what hear leaves: one fraction more is told -/
def HearP (w : World) (base : Nat) (v : Value) (k : Nat) (F : Nat → Fr) (X : Nat → List Int) (e : Ending) (w' : World) : Prop :=
  ∃ g cap P C, e = .returned (.agg #[.slice (some ⟨g, 0, none⟩) (k + 1) cap, .bool true]) ∧ Rows2 w' base (.slice (some ⟨g, 0, none⟩) (k + 1) cap) (k + 1) P C F X ∧ w.grownBy w' v.ownBlock

set_option maxRecDepth 8000 in
set_option maxHeartbeats 4000000 in
theorem hear_any (V : Option Addr) (cv base k : Nat) (P0 : Nat → Option Addr) (C0 : Nat → Nat) (F : Nat → Fr) (X : Nat → List Int) (s : Bool) (xs ys : List Int) (er : Int) (A B C D : Option Addr) (c1 c2 c3 c4 : Nat) (w : World) (hR : Rows2 w base (.slice V k cv) k P0 C0 F X)
    (hF : F k = ⟨s, xs, ys⟩) (hX1 : X (2 * k) = xs) (hX2 : X (2 * k + 1) = ys) (hb : base ≤ w.heap.size) (hA : Own w base A c1 xs) (hB : Own w base B c2 ys) (hAB : ∀ a b, A = some a → B = some b → a.block ≠ b.block)
    (hAP : ∀ j, j < 2 * k → ∀ a b, P0 j = some a → A = some b → a.block ≠ b.block) (hBP : ∀ j, j < 2 * k → ∀ a b, P0 j = some a → B = some b → a.block ≠ b.block) (hC : Rd w C c3 xs) (hD : Rd w D c4 ys) (hk : k ≤ 1000000) :
    Calls Tryz.prog 16 #[.agg #[.slice V k cv, .bool true], .agg #[.bool s, .slice A xs.length c1, .slice B ys.length c2], .int .i64 er, .agg #[.bool s, .slice C xs.length c3, .slice D ys.length c4], .int .i64 er] w (HearP w base (.slice V k cv) k F X) := by
  have HR := Lib.hid hR
  have HF := Lib.hid hF
  have HX1 := Lib.hid hX1
  have HX2 := Lib.hid hX2
  have HA := Lib.hid hA
  have HB := Lib.hid hB
  have HAB := Lib.hid hAB
  have HAP := Lib.hid hAP
  have HBP := Lib.hid hBP
  have HC := Lib.hid hC
  have HD := Lib.hid hD
  have HBS := Lib.hid hb
  clear hR hF hX1 hX2 hA hB hAB hAP hBP hC hD hb
  have hee : (er == er) = true := beq_self_eq_true er
  go_enter Tryz.func16, Tryz.ntmps16
  go_wp2_with fail
  obtain ⟨W, hW⟩ : ∃ W, W = (((w.alloc (.cells #[.slice V k cv, .bool true] 29)).alloc (.cells #[.bool s, .slice A xs.length c1, .slice B ys.length c2] 24)).alloc (.cells #[.bool s, .slice C xs.length c3, .slice D ys.length c4] 24)).alloc (.cells #[.slice none 0 0, .bool false] 29) := ⟨_, rfl⟩
  have HX : Hid (Ext w W) := by rw [hW]; exact ((((Ext.refl w).alloc _).alloc _).alloc _).alloc _
  have V0 : Hid (Var w.heap.size [.slice V k cv, .bool true] W) := by rw [hW]; exact (Var.new w [.slice V k cv, .bool true] _).ext ((((Ext.refl _).alloc _).alloc _).alloc _)
  have F0 : Thr W (w.heap.size + 1) (.bool s) (.slice A xs.length c1) (.slice B ys.length c2) := by rw [hW]; refine ⟨?_, ?_, ?_⟩ <;> simp [go_sem]
  have V3 : Hid (Var (w.heap.size + 3) [.slice none 0 0, .bool false] W) := by
    rw [hW]
    have h1 := Var.new (((w.alloc (.cells #[.slice V k cv, .bool true] 29)).alloc (.cells #[.bool s, .slice A xs.length c1, .slice B ys.length c2] 24)).alloc (.cells #[.bool s, .slice C xs.length c3, .slice D ys.length c4] 24)) [.slice none 0 0, .bool false] 29
    unfold Hid
    simpa using h1
  have HZ := Lib.hid (show W.heap.size = w.heap.size + 4 by rw [hW]; simp)
  rw [← hW]
  clear hW
  refine (ksameR_any s s A B C D xs ys xs ys c1 c2 c3 c4 W (HA.out.rd.ext HX.out) (HB.out.rd.ext HX.out) (HC.out.ext HX.out) (HD.out.ext HX.out) true (decide_eq_true rfl)).mono ?_; rintro e w1 ⟨rfl, hx⟩
  have F1 := thr_ext hx F0
  have V0 := Lib.hid (V0.out.ext hx)
  have V3 := Lib.hid (V3.out.ext hx)
  have HXX := Lib.hid (HX.out.trans hx)
  have HZ1 := Lib.hid (show w.heap.size + 4 ≤ w1.heap.size by have := hx.size; have := HZ.out; omega)
  clear hx F0 HX HZ
  have k0 := V0.out.at_ 0 _ rfl
  have k1 := V0.out.at_ 1 _ rfl
  have s0 := V0.out.fr 0
  have s1 := V0.out.fr 1
  obtain ⟨u0, u1, u2⟩ := id F1
  have bV : ∀ b, (Value.slice V k cv).ownBlock = some b → base ≤ b ∧ b < w.heap.size := HR.out.lt
  have HBV := Lib.hid bV
  have HPL := Lib.hid (show ∀ j, j < 2 * k → ∀ a, P0 j = some a → a.block < w.heap.size from fun j hj a e => by have h := HR.out.own j hj; rw [e] at h; exact h.block.2)
  have HAL := Lib.hid (show ∀ a, A = some a → a.block < w.heap.size from fun a e => by have h := HA.out; rw [e] at h; exact h.block.2)
  have HBL := Lib.hid (show ∀ a, B = some a → a.block < w.heap.size from fun a e => by have h := HB.out; rw [e] at h; exact h.block.2)
  have hvn : ∀ n, w.heap.size ≤ n → (Value.slice V k cv).ownBlock ≠ some n := fun n hn e => by have := bV n e; omega
  have HVN := Lib.hid hvn
  have HXs := Lib.hid (show w.grownBy ((w1.setCell ⟨w.heap.size, 1, none⟩ (.bool true)).alloc (.cells #[.bool s, .slice A xs.length c1, .slice B ys.length c2] 24)) (Value.slice V k cv).ownBlock from grown_alloc (grown_setNew (HXX.out.by_ _) (Nat.le_refl _)) _)
  have HRs := Lib.hid (((HR.out.ext HXX.out).setNe (p := ⟨w.heap.size, 1, none⟩) (u := .bool true) (hvn _ (Nat.le_refl _)) (fun j hj a e => by have := HPL.out j hj a e; simp only; omega)).ext ((Ext.refl _).alloc (.cells #[.bool s, .slice A xs.length c1, .slice B ys.length c2] 24)))
  have VS := Lib.hid ((V0.out.set 1 (.bool true) (by simp)).ext ((Ext.refl _).alloc (.cells #[.bool s, .slice A xs.length c1, .slice B ys.length c2] 24)))
  have V3s := Lib.hid ((V3.out.setNe (p := ⟨w.heap.size, 1, none⟩) (u := .bool true) (by simp only; omega)).ext ((Ext.refl _).alloc (.cells #[.bool s, .slice A xs.length c1, .slice B ys.length c2] 24)))
  have KA := Lib.hid (show Own ((w1.setCell ⟨w.heap.size, 1, none⟩ (.bool true)).alloc (.cells #[.bool s, .slice A xs.length c1, .slice B ys.length c2] 24)) base A c1 (X (2 * k)) by rw [HX1.out]; exact (own_set (HA.out.ext HXX.out) (fun a e => by have := HAL.out a e; simp only; omega)).ext ((Ext.refl _).alloc _))
  have KB := Lib.hid (show Own ((w1.setCell ⟨w.heap.size, 1, none⟩ (.bool true)).alloc (.cells #[.bool s, .slice A xs.length c1, .slice B ys.length c2] 24)) base B c2 (X (2 * k + 1)) by rw [HX2.out]; exact (own_set (HB.out.ext HXX.out) (fun a e => by have := HBL.out a e; simp only; omega)).ext ((Ext.refl _).alloc _))
  have K0 := Lib.hid (show ((w1.setCell ⟨w.heap.size, 1, none⟩ (.bool true)).alloc (.cells #[.bool s, .slice A xs.length c1, .slice B ys.length c2] 24)).cell? ((⟨w1.heap.size, 0, none⟩ : Addr).add 0) = some (.bool (F k).neg) by rw [HF.out]; simp [go_sem, Addr.add])
  have K1 := Lib.hid (show ((w1.setCell ⟨w.heap.size, 1, none⟩ (.bool true)).alloc (.cells #[.bool s, .slice A xs.length c1, .slice B ys.length c2] 24)).cell? ((⟨w1.heap.size, 0, none⟩ : Addr).add 1) = some (.slice A (F k).num.length c1) by rw [HF.out]; simp [go_sem, Addr.add])
  have K2 := Lib.hid (show ((w1.setCell ⟨w.heap.size, 1, none⟩ (.bool true)).alloc (.cells #[.bool s, .slice A xs.length c1, .slice B ys.length c2] 24)).cell? ((⟨w1.heap.size, 0, none⟩ : Addr).add 2) = some (.slice B (F k).den.length c2) by rw [HF.out]; simp [go_sem, Addr.add])
  have KZ := Lib.hid (show base ≤ ((w1.setCell ⟨w.heap.size, 1, none⟩ (.bool true)).alloc (.cells #[.bool s, .slice A xs.length c1, .slice B ys.length c2] 24)).heap.size by have := HZ1.out; have := HBS.out; simp; omega)
  have hsz := Lib.hid (show ((w1.setCell ⟨w.heap.size, 1, none⟩ (.bool true)).alloc (.cells #[.bool s, .slice A xs.length c1, .slice B ys.length c2] 24)).heap.size = w1.heap.size + 1 by simp)
  clear bV hvn
  go_wp2_with (at_builtin; refine wpList_appT rfl _ _ rfl base (.slice V k cv) k P0 C0 F X rfl HRs.out ⟨w1.heap.size, 0, none⟩ 1 rfl A B c1 c2 K0.out K1.out K2.out KA.out KB.out HAB.out HAP.out HBP.out hk KZ.out ?_; intro g cap P' C' w2 hr hg hat hP'; have HR2 := Lib.hid hr; have HG := Lib.hid hg; have HAT := Lib.hid hat; have HPP := Lib.hid hP'; have VS2 := VS.out.grown hg (fun e => HVN.out _ (Nat.le_refl _) e.symm); have V32 := V3s.out.grown hg (fun e => HVN.out _ (by omega) e.symm); clear hr hg hat hP' k0 k1 s0 s1 u0 u1 u2 F1; have k0 := VS2.at_ 0 _ rfl; have k1 := VS2.at_ 1 _ rfl; have s0 := VS2.fr 0; have s1 := VS2.fr 1; have m0 := V32.at_ 0 _ rfl; have m1 := V32.at_ 1 _ rfl; have t0 := V32.fr 0; have t1 := V32.fr 1; clear VS2 V32)
  have HG2 := Lib.hid (grown_trans HXs.out HG.out)
  have HGN := Lib.hid (show ∀ n, w.heap.size ≤ n → n ≤ w.heap.size + 3 → g ≠ n from fun n h1 h2 e => by
    rcases HAT.out with h | h
    · have := HBV.out g h; omega
    · have h3 := hsz.out; have h4 := HZ1.out; omega)
  have HPN := Lib.hid (show ∀ j, j < 2 * (k + 1) → ∀ a, P' j = some a → a.block < w.heap.size from fun j hj a e => by
    rcases HPP.out j hj with h | h | ⟨i, hi, h⟩
    · exact HAL.out a (h ▸ e)
    · exact HBL.out a (h ▸ e)
    · exact HPL.out i hi a (h ▸ e))
  exact bodyPost_ret (v := .agg #[.slice (some ⟨g, 0, none⟩) (k + 1) cap, .bool true]) (by simp [results, Tryz.results16, go_sem, m0, m1]) rfl ⟨g, cap, P', C', rfl, by repeat (first | (with_reducible exact HR2.out) | refine Rows2.setNe ?_ (fun e => HGN.out _ (by simp only; omega) (by simp only; omega) (Option.some.inj e)) (fun j hj a e => by have := HPN.out j hj a e; simp only; omega)), by repeat (first | (with_reducible exact HG2.out) | refine grown_setNew ?_ (by simp only; omega))⟩

end Go.Proofs.YtifonmdcicegdaaGreat

/- ratio.plus, of fractions that may be. -/
namespace Go.Proofs.YtifonmdcicegdaaGreat
open Go Go.RowKit

/-- plus, of any two fractions that may be -/
theorem plus_fr (a b : Fr) (A B C D : Option Addr) (c1 c2 c3 c4 : Nat) (w : World) (ha : Rd w A c1 a.num) (hb : Rd w B c2 a.den) (hc : Rd w C c3 b.num) (hd : Rd w D c4 b.den) (wa : a.Wf) (wb : b.Wf) (h : fchk a = 0) (k : fchk b = 0) (r : Rat) (hr : a.q + b.q = r) :
    Calls Tryz.prog 136 #[.agg #[.bool a.neg, .slice A a.num.length c1, .slice B a.den.length c2], .agg #[.bool b.neg, .slice C b.num.length c3, .slice D b.den.length c4]] w (RatP w (tell r)) := by
  obtain ⟨p, rfl, lp⟩ := fchk_ok wa h
  obtain ⟨q, rfl, lq⟩ := fchk_ok wb k
  rw [dec_enc, dec_enc] at hr
  subst hr
  have h1 := not_lng lp
  have h2 := not_lng lq
  exact plus_gen (decide (p.num < 0)) (decide (q.num < 0)) A B C D p.num.natAbs p.den q.num.natAbs q.den c1 c2 c3 c4 w (p + q) ha hb hc hd p.den_nz q.den_nz h1.1 h1.2 h2.1 h2.2 (plus_cases p q)

end Go.Proofs.YtifonmdcicegdaaGreat

/- Comparing, floors, signs of fractions: plain. -/
namespace Go.Proofs.YtifonmdcicegdaaGreat

/-- -1, 0, 1: below, the same, above -/
def cmpq (p q : Rat) : Int := if p < q then -1 else if q < p then 1 else 0
/-- the error of two -/
def fchk2 (a b : Fr) : Int := if fchk a ≠ 0 then fchk a else fchk b
/-- Compare's answer -/
def fcmp (a b : Fr) : Int × Int := if fchk2 a b ≠ 0 then (0, fchk2 a b) else (cmpq a.q b.q, 0)
/-- Sign's answer -/
def fsign (a : Fr) : Int := if fchk a ≠ 0 then 0 else if a.num.length = 0 then 0 else if a.neg = true then -1 else 1
/-- Floor's answer: the sign, the words, the error -/
def ffloor (a : Fr) : Bool × List Int × Int := if fchk a ≠ 0 then (false, [], fchk a) else (a.neg, wd a.q.floor.natAbs, 0)

theorem fchk2_ok {a b : Fr} (ha : a.Wf) (hb : b.Wf) (h : fchk2 a b = 0) : ∃ p q, a = enc p ∧ b = enc q ∧ ¬ lng p = true ∧ ¬ lng q = true := by
  unfold fchk2 at h
  by_cases h1 : fchk a ≠ 0
  · rw [if_pos h1] at h; exact absurd h h1
  · rw [if_neg h1] at h
    obtain ⟨p, hp, lp⟩ := fchk_ok ha (by omega)
    obtain ⟨q, hq, lq⟩ := fchk_ok hb h
    exact ⟨p, q, hp, hq, lp, lq⟩
theorem both_bad {a b : Fr} {r} (h : fchk2 a b ≠ 0) : both a b r = (Fr.zero, fchk2 a b) := by
  unfold fchk2 at h ⊢
  by_cases h1 : fchk a ≠ 0
  · rw [if_pos h1, both_left h1]
  · rw [if_neg h1] at h ⊢; exact both_right (by omega) h
theorem fchk2_enc {p q : Rat} (h : ¬ lng p = true) (k : ¬ lng q = true) : fchk2 (enc p) (enc q) = 0 := by
  unfold fchk2; rw [fchk_enc p h, fchk_enc q k]; rfl

theorem cmpq_cases (p q : Rat) : (p < q ∧ cmpq p q = -1) ∨ (q < p ∧ cmpq p q = 1) ∨ (p = q ∧ cmpq p q = 0) := by
  unfold cmpq
  by_cases h1 : p < q
  · exact .inl ⟨h1, if_pos h1⟩
  · by_cases h2 : q < p
    · exact .inr (.inl ⟨h2, by rw [if_neg h1, if_pos h2]⟩)
    · exact .inr (.inr ⟨Rat.le_antisymm (Rat.not_lt.1 h2) (Rat.not_lt.1 h1), by rw [if_neg h1, if_neg h2]⟩)
/-- the sign of the difference of the products -/
theorem cmpq_sign (p q : Rat) : cmpq p q = (if p.num * q.den < q.num * p.den then -1 else if q.num * p.den < p.num * q.den then 1 else 0) := by
  unfold cmpq
  have e1 := Rat.lt_iff p q
  have e2 := Rat.lt_iff q p
  by_cases h1 : p < q
  · rw [if_pos h1, if_pos (e1.1 h1)]
  · rw [if_neg h1, if_neg (fun h => h1 (e1.2 h))]
    by_cases h2 : q < p
    · rw [if_pos h2, if_pos (e2.1 h2)]
    · rw [if_neg h2, if_neg (fun h => h2 (e2.2 h))]
theorem mul_natAbs_neg (x : Int) (d : Nat) (h : x < 0) : x * (d : Int) = -((x.natAbs * d : Nat) : Int) := by
  rw [Int.natCast_mul, Int.ofNat_natAbs_of_nonpos (by omega), Int.neg_mul, Int.neg_neg]
theorem mul_natAbs_pos (x : Int) (d : Nat) (h : ¬ x < 0) : x * (d : Int) = ((x.natAbs * d : Nat) : Int) := by
  rw [Int.natCast_mul, Int.natAbs_of_nonneg (by omega)]
theorem mul_pos_pos (x d : Nat) (h : x ≠ 0) (k : d ≠ 0) : 0 < x * d := Nat.mul_pos (by omega) (by omega)
/-- as the program compares -/
theorem cmpq_nn (p q : Rat) (h : p.num < 0) (k : q.num < 0) : cmp (q.num.natAbs * p.den) (p.num.natAbs * q.den) = cmpq p q := by
  rw [cmpq_sign, mul_natAbs_neg _ _ h, mul_natAbs_neg _ _ k]
  unfold cmp
  split <;> split <;> (try split) <;> (try split) <;> omega
theorem cmpq_pp (p q : Rat) (h : ¬ p.num < 0) (k : ¬ q.num < 0) : cmp (p.num.natAbs * q.den) (q.num.natAbs * p.den) = cmpq p q := by
  rw [cmpq_sign, mul_natAbs_pos _ _ h, mul_natAbs_pos _ _ k]
  unfold cmp
  split <;> split <;> (try split) <;> (try split) <;> omega
theorem cmpq_np (p q : Rat) (h : p.num < 0) (k : ¬ q.num < 0) : cmpq p q = -1 := by
  rw [cmpq_sign, mul_natAbs_neg _ _ h, mul_natAbs_pos _ _ k]
  have := mul_pos_pos p.num.natAbs q.den (by omega) q.den_nz
  rw [if_pos (by omega)]
theorem cmpq_pn (p q : Rat) (h : ¬ p.num < 0) (k : q.num < 0) : cmpq p q = 1 := by
  rw [cmpq_sign, mul_natAbs_pos _ _ h, mul_natAbs_neg _ _ k]
  have := mul_pos_pos q.num.natAbs p.den (by omega) p.den_nz
  rw [if_neg (by omega), if_pos (by omega)]
/-- as the reference compares -/
theorem cmpq_sg (p q : Rat) (v : Bool) (D : Nat) (h : sg v D = sg (decide (p.num < 0)) (p.num.natAbs * q.den) + sg (!decide (q.num < 0)) (q.num.natAbs * p.den)) :
    cmpq p q = (if (wd D).length = 0 then 0 else if v = true then -1 else 1) := by
  have e1 : sg (decide (p.num < 0)) (p.num.natAbs * q.den) = p.num * q.den := by
    unfold sg
    by_cases hp : p.num < 0
    · rw [if_pos (decide_eq_true hp), mul_natAbs_neg _ _ hp]
    · rw [if_neg (by simpa using hp), mul_natAbs_pos _ _ hp]
  have e2 : sg (!decide (q.num < 0)) (q.num.natAbs * p.den) = -(q.num * p.den) := by
    unfold sg
    by_cases hq : q.num < 0
    · rw [if_neg (by rw [decide_eq_true hq]; simp), mul_natAbs_neg _ _ hq, Int.neg_neg]
    · rw [if_pos (by rw [decide_eq_false hq]; rfl), mul_natAbs_pos _ _ hq]
  rw [e1, e2] at h
  rw [cmpq_sign]
  have hz : (wd D).length = 0 ↔ D = 0 := wd_len_zero
  generalize p.num * (q.den : Int) = a at h
  generalize q.num * (p.den : Int) = b at h
  unfold sg at h
  by_cases hD : D = 0
  · rw [if_pos (hz.2 hD)]
    subst hD
    split at h <;> (rw [if_neg (by omega), if_neg (by omega)])
  · rw [if_neg (fun e => hD (hz.1 e))]
    by_cases hv : v = true
    · rw [if_pos hv] at h ⊢; rw [if_pos (by omega)]
    · rw [if_neg hv] at h ⊢; rw [if_neg (by omega), if_pos (by omega)]
/-- the floor as the program makes it -/
theorem floor_pos (q : Rat) (h : ¬ q.num < 0) : q.floor.natAbs = q.num.natAbs / q.den ∧ ¬ q.floor < 0 := by
  rw [Rat.floor_def]
  have hd := q.den_nz
  obtain ⟨n, hn⟩ := Int.eq_ofNat_of_zero_le (show 0 ≤ q.num by omega)
  rw [hn, ← Int.natCast_ediv]
  generalize hm : n / q.den = m
  exact ⟨by rw [Int.natAbs_natCast, Int.natAbs_natCast, hm], by omega⟩
theorem floor_neg (q : Rat) (h : q.num < 0) : (q.num.natAbs % q.den = 0 → q.floor.natAbs = q.num.natAbs / q.den) ∧ (q.num.natAbs % q.den ≠ 0 → q.floor.natAbs = q.num.natAbs / q.den + 1) ∧ q.floor < 0 := by
  rw [Rat.floor_def]
  have hd : 0 < q.den := Nat.pos_of_ne_zero q.den_nz
  obtain ⟨n, hn⟩ : ∃ n : Nat, q.num = -(n : Int) := ⟨q.num.natAbs, by omega⟩
  have hn0 : 0 < n := by omega
  rw [hn]
  have e1 := Nat.div_add_mod n q.den
  have e2 := Nat.mod_lt n hd
  generalize q.den = d at *
  generalize hq : n / d = Q at *
  generalize hr : n % d = R at *
  rw [Int.natAbs_neg, Int.natAbs_natCast, hq, hr]
  have hne : (-(n : Int)) = -((d * Q + R : Nat) : Int) := by rw [e1]
  refine ⟨fun h0 => ?_, fun h0 => ?_, ?_⟩
  · have : (-(n : Int)) / (d : Int) = -(Q : Int) := by
      rw [hne, h0, Nat.add_zero, Int.natCast_mul, ← Int.mul_neg, Int.mul_ediv_cancel_left _ (by omega)]
    rw [this]; omega
  · have : (-(n : Int)) / (d : Int) = -((Q : Int) + 1) := by
      have h3 : (-(n : Int)) = ((d - R : Nat) : Int) + (d : Int) * (-((Q : Int) + 1)) := by
        rw [hne, Int.natCast_add, Int.natCast_mul, Int.mul_neg, Int.mul_add, Int.mul_one]; omega
      rw [h3, Int.add_mul_ediv_left _ _ (by omega)]
      have : ((d - R : Nat) : Int) / (d : Int) = 0 := Int.ediv_eq_zero_of_lt (by omega) (by omega)
      omega
    rw [this]; omega
  · exact Int.ediv_neg_of_neg_of_pos (by omega) (by omega)

theorem fsign_enc {q : Rat} (h : ¬ lng q = true) : fsign (enc q) = cmpq q 0 := by
  unfold fsign
  rw [fchk_enc q h]
  have e1 : (enc q).num.length = 0 ↔ q.num = 0 := by
    show (wd q.num.natAbs).length = 0 ↔ _
    rw [wd_len_zero]; omega
  have e2 : (enc q).neg = decide (q.num < 0) := rfl
  rw [cmpq_sign, e2]
  simp only [ne_eq, not_true, if_false, Rat.zero_num, Rat.zero_den, Int.zero_mul, Int.natCast_one, Int.mul_one]
  by_cases h0 : q.num = 0
  · rw [if_pos (e1.2 h0), if_neg (by omega), if_neg (by omega)]
  · rw [if_neg (fun e => h0 (e1.1 e))]
    by_cases hn : q.num < 0
    · rw [if_pos (decide_eq_true hn), if_pos hn]
    · rw [if_neg (by simpa using hn), if_neg hn, if_pos (by omega)]

end Go.Proofs.YtifonmdcicegdaaGreat

/- ratio.checks, Add. -/
namespace Go.Proofs.YtifonmdcicegdaaGreat
open Go Go.RowKit

theorem rcheck_fr (a : Fr) (A B : Option Addr) (c d : Nat) (w : World) (ha : Rd w A c a.num) (hb : Rd w B d a.den) (wa : a.Wf) :
    Calls Tryz.prog 29 #[.agg #[.bool a.neg, .slice A a.num.length c, .slice B a.den.length d]] w fun e w' => e = .returned (.int .i64 (fchk a)) ∧ Ext w w' :=
  rcheck_any a.neg A B a.num a.den c d w ha hb wa.num wa.den
theorem fchk2_zero {a b : Fr} (h : fchk2 a b = 0) : fchk a = 0 ∧ fchk b = 0 := by
  unfold fchk2 at h
  by_cases h1 : fchk a ≠ 0
  · rw [if_pos h1] at h; exact absurd h h1
  · rw [if_neg h1] at h; exact ⟨by simpa using h1, h⟩
theorem both_good {a b : Fr} {r} (h : fchk2 a b = 0) : both a b r = r a.q b.q := by
  obtain ⟨h1, h2⟩ := fchk2_zero h
  unfold both
  rw [if_neg (by omega), if_neg (by omega)]

set_option maxHeartbeats 1000000 in
theorem checks_any (a b : Fr) (A B C D : Option Addr) (c1 c2 c3 c4 : Nat) (w : World) (ha : Rd w A c1 a.num) (hb : Rd w B c2 a.den) (hc : Rd w C c3 b.num) (hd : Rd w D c4 b.den) (wa : a.Wf) (wb : b.Wf) :
    Calls Tryz.prog 135 #[.agg #[.bool a.neg, .slice A a.num.length c1, .slice B a.den.length c2], .agg #[.bool b.neg, .slice C b.num.length c3, .slice D b.den.length c4]] w fun e w' => e = .returned (.int .i64 (fchk2 a b)) ∧ Ext w w' := by
  have HA := Lib.hid ha
  have HB := Lib.hid hb
  have HC := Lib.hid hc
  have HD := Lib.hid hd
  clear ha hb hc hd
  have HX := Lib.hid (((Ext.refl w).alloc (.cells #[.bool a.neg, .slice A a.num.length c1, .slice B a.den.length c2] 24)).alloc (.cells #[.bool b.neg, .slice C b.num.length c3, .slice D b.den.length c4] 24))
  by_cases h1 : fchk a ≠ 0
  · have HE := Lib.hid (show fchk2 a b = fchk a from if_pos h1)
    have hb1 : (fchk a != 0) = true := bne_iff_ne.2 h1
    rw [HE.out]
    clear h1
    go_enter Tryz.func135, Tryz.ntmps135
    go_wp2_with fail
    refine (rcheck_fr a A B c1 c2 _ (HA.out.ext HX.out) (HB.out.ext HX.out) wa).mono ?_; rintro e w1 ⟨rfl, hx1⟩
    have HX1 := Lib.hid (HX.out.trans hx1)
    clear hx1
    go_wp2_with fail
    go_ret
    exact ⟨rfl, HX1.out⟩
  · have HE := Lib.hid (show fchk2 a b = fchk b from if_neg h1)
    have hb1 : (fchk a != 0) = false := bne_eq_false_iff_eq.2 (by simpa using h1)
    rw [HE.out]
    clear h1
    go_enter Tryz.func135, Tryz.ntmps135
    go_wp2_with fail
    refine (rcheck_fr a A B c1 c2 _ (HA.out.ext HX.out) (HB.out.ext HX.out) wa).mono ?_; rintro e w1 ⟨rfl, hx1⟩
    obtain ⟨hc, hf⟩ := bcell hx1
    have HX1 := Lib.hid (HX.out.trans hx1)
    clear hx1
    go_wp2_with fail
    refine (rcheck_fr b C D c3 c4 _ (HC.out.ext HX1.out) (HD.out.ext HX1.out) wb).mono ?_; rintro e w2 ⟨rfl, hx2⟩
    have HX2 := Lib.hid (HX1.out.trans hx2)
    clear hx2 hc hf
    go_wp2_with fail
    go_ret
    exact ⟨rfl, HX2.out⟩

set_option maxRecDepth 4000 in
set_option maxHeartbeats 2000000 in
theorem add_fr (a b : Fr) (A B C D : Option Addr) (c1 c2 c3 c4 : Nat) (w : World) (ha : Rd w A c1 a.num) (hb : Rd w B c2 a.den) (hc : Rd w C c3 b.num) (hd : Rd w D c4 b.den) (wa : a.Wf) (wb : b.Wf) :
    Calls Tryz.prog 14 #[.agg #[.bool a.neg, .slice A a.num.length c1, .slice B a.den.length c2], .agg #[.bool b.neg, .slice C b.num.length c3, .slice D b.den.length c4]] w (RatP w (fadd a b)) := by
  have HA := Lib.hid ha
  have HB := Lib.hid hb
  have HC := Lib.hid hc
  have HD := Lib.hid hd
  clear ha hb hc hd
  by_cases hk : fchk2 a b ≠ 0
  · have HT := Lib.hid (show fadd a b = (Fr.zero, fchk2 a b) from both_bad hk)
    have hb1 : (fchk2 a b != 0) = true := bne_iff_ne.2 hk
    clear hk
    go_enter Tryz.func14, Tryz.ntmps14
    go_wp2_with fail
    obtain ⟨W, hW⟩ : ∃ W, W = ((w.alloc (.cells #[.bool a.neg, .slice A a.num.length c1, .slice B a.den.length c2] 24)).alloc (.cells #[.bool b.neg, .slice C b.num.length c3, .slice D b.den.length c4] 24)).alloc (.cells #[.bool false, .slice none 0 0, .slice none 0 0] 24) := ⟨_, rfl⟩
    have F0 : Six W w.heap.size (.bool a.neg) (.slice A a.num.length c1) (.slice B a.den.length c2) (.bool b.neg) (.slice C b.num.length c3) (.slice D b.den.length c4) := by rw [hW]; refine ⟨?_, ?_, ?_, ?_, ?_, ?_⟩ <;> simp [go_sem]
    have HX : Hid (Ext w W) := by rw [hW]; exact (((Ext.refl w).alloc _).alloc _).alloc _
    have HV : Hid (VarF (w.heap.size + 2) W.heap.size Fr.zero none 0 none 0 W) := by
      have h1 := VarF.zero ((w.alloc (.cells #[.bool a.neg, .slice A a.num.length c1, .slice B a.den.length c2] 24)).alloc (.cells #[.bool b.neg, .slice C b.num.length c3, .slice D b.den.length c4] 24)) W.heap.size
      rw [← hW] at h1
      unfold Hid
      simpa using h1
    have HZ := Lib.hid (show W.heap.size = w.heap.size + 3 by rw [hW]; simp)
    try rw [← hW]
    clear hW
    refine (checks_any a b A B C D c1 c2 c3 c4 W (HA.out.ext HX.out) (HB.out.ext HX.out) (HC.out.ext HX.out) (HD.out.ext HX.out) wa wb).mono ?_; rintro e w1 ⟨rfl, hx1⟩
    have F1 := six_ext hx1 F0
    have HX1 := Lib.hid (HX.out.trans hx1)
    have HV1 := Lib.hid (HV.out.ext hx1)
    have HZ1 := Lib.hid (show w.heap.size + 3 ≤ w1.heap.size by have := hx1.size; have := HZ.out; omega)
    clear hx1 F0 HX HV
    have r0 := HV1.out.c0
    have s0 := HV1.out.fr 0
    have r1 := HV1.out.c1
    have s1 := HV1.out.fr 1
    have r2 := HV1.out.c2
    have s2 := HV1.out.fr 2
    clear F1
    go_wp2_with fail
    exact bodyPost_ret (v := .tuple #[.agg #[.bool false, .slice none 0 0, .slice none 0 0], .int .i64 (fchk2 a b)]) (by simp [results, Tryz.results14, go_sem, r0, r1, r2]) rfl (RatP.nil HT.out rfl (by repeat (first | (with_reducible exact HX1.out) | refine Ext.setCell ?_ (by simp; try omega) _)))
  have h0 : fchk2 a b = 0 := by simpa using hk
  have hb1 : (fchk2 a b != 0) = false := bne_eq_false_iff_eq.2 h0
  obtain ⟨k1, k2⟩ := fchk2_zero h0
  obtain ⟨t, ht⟩ : ∃ t, t = tell (a.q + b.q) := ⟨_, rfl⟩
  have HT := Lib.hid (show fadd a b = t by rw [ht]; exact both_good h0)
  have HP := Lib.hid (fun wx (hx : Ext w wx) => plus_fr a b A B C D c1 c2 c3 c4 wx (HA.out.ext hx) (HB.out.ext hx) (HC.out.ext hx) (HD.out.ext hx) wa wb k1 k2 _ rfl)
  rw [← ht] at HP
  clear ht hk k1 k2 h0
  go_enter Tryz.func14, Tryz.ntmps14
  go_wp2_with fail
  obtain ⟨W, hW⟩ : ∃ W, W = ((w.alloc (.cells #[.bool a.neg, .slice A a.num.length c1, .slice B a.den.length c2] 24)).alloc (.cells #[.bool b.neg, .slice C b.num.length c3, .slice D b.den.length c4] 24)).alloc (.cells #[.bool false, .slice none 0 0, .slice none 0 0] 24) := ⟨_, rfl⟩
  have F0 : Six W w.heap.size (.bool a.neg) (.slice A a.num.length c1) (.slice B a.den.length c2) (.bool b.neg) (.slice C b.num.length c3) (.slice D b.den.length c4) := by rw [hW]; refine ⟨?_, ?_, ?_, ?_, ?_, ?_⟩ <;> simp [go_sem]
  have HX : Hid (Ext w W) := by rw [hW]; exact (((Ext.refl w).alloc _).alloc _).alloc _
  have HV : Hid (VarF (w.heap.size + 2) W.heap.size Fr.zero none 0 none 0 W) := by
    have h1 := VarF.zero ((w.alloc (.cells #[.bool a.neg, .slice A a.num.length c1, .slice B a.den.length c2] 24)).alloc (.cells #[.bool b.neg, .slice C b.num.length c3, .slice D b.den.length c4] 24)) W.heap.size
    rw [← hW] at h1
    unfold Hid
    simpa using h1
  have HZ := Lib.hid (show W.heap.size = w.heap.size + 3 by rw [hW]; simp)
  try rw [← hW]
  clear hW
  refine (checks_any a b A B C D c1 c2 c3 c4 W (HA.out.ext HX.out) (HB.out.ext HX.out) (HC.out.ext HX.out) (HD.out.ext HX.out) wa wb).mono ?_; rintro e w1 ⟨rfl, hx1⟩
  have F1 := six_ext hx1 F0
  have HX1 := Lib.hid (HX.out.trans hx1)
  have HV1 := Lib.hid (HV.out.ext hx1)
  have HZ1 := Lib.hid (show w.heap.size + 3 ≤ w1.heap.size by have := hx1.size; have := HZ.out; omega)
  clear hx1 F0 HX HV
  obtain ⟨u0, u1, u2, v0, v1, v2⟩ := F1
  go_wp2_with fail
  clear u0 u1 u2 v0 v1 v2
  refine (HP.out _ HX1.out).mono ?_; rintro e w9 ⟨A9, c9, B9, d9, rfl, o1, o2, ap, hx⟩
  have hzz := HZ1.out
  have O1 := Lib.hid (o1.lower (show w.heap.size + 3 ≤ w1.heap.size by omega))
  have O2 := Lib.hid (o2.lower (show w.heap.size + 3 ≤ w1.heap.size by omega))
  have AP := Lib.hid ap
  have HX9 := Lib.hid (HX1.out.trans hx)
  have HV9 := Lib.hid (HV1.out.ext hx)
  have r0 := HV9.out.c0
  have s0 := HV9.out.fr 0
  have r1 := HV9.out.c1
  have s1 := HV9.out.fr 1
  have r2 := HV9.out.c2
  have s2 := HV9.out.fr 2
  clear o1 o2 ap hx
  go_wp2_with fail
  exact bodyPost_ret (v := .tuple #[.agg #[.bool t.1.neg, .slice A9 t.1.num.length c9, .slice B9 t.1.den.length d9], .int .i64 t.2]) (by simp [results, Tryz.results14, go_sem, r0, r1, r2]) rfl (RatP.mk HT.out rfl (by refine Own.lower ?_ (show w.heap.size ≤ w.heap.size + 3 by omega); repeat (first | (with_reducible exact O1.out) | refine Own.setBelow ?_ (by simp; try omega) _)) (by refine Own.lower ?_ (show w.heap.size ≤ w.heap.size + 3 by omega); repeat (first | (with_reducible exact O2.out) | refine Own.setBelow ?_ (by simp; try omega) _)) AP.out (by repeat (first | (with_reducible exact HX9.out) | refine Ext.setCell ?_ (by simp; try omega) _)))

end Go.Proofs.YtifonmdcicegdaaGreat

/- ratio.turned, Sub. -/
namespace Go.Proofs.YtifonmdcicegdaaGreat
open Go Go.RowKit

/-- the opposite -/
def fturn (b : Fr) : Fr := ⟨!b.neg && decide (0 < b.num.length), b.num, b.den⟩
theorem fturn_enc (q : Rat) : fturn (enc q) = enc (-q) := by rw [enc_neg]; rfl
theorem lng_neg (q : Rat) : lng (-q) = lng q := by unfold lng; rw [Rat.neg_num, Rat.neg_den, Int.natAbs_neg]
theorem fturn_ok {b : Fr} (wb : b.Wf) (h : fchk b = 0) : (fturn b).Wf ∧ fchk (fturn b) = 0 ∧ (fturn b).q = -b.q := by
  obtain ⟨q, rfl, lq⟩ := fchk_ok wb h
  rw [fturn_enc, dec_enc, dec_enc]
  exact ⟨enc_wf _, fchk_enc _ (by rw [lng_neg]; exact lq), rfl⟩
theorem fneg_ok {b : Fr} (wb : b.Wf) (h : fchk b = 0) : fneg b = (fturn b, 0) := by
  obtain ⟨q, rfl, lq⟩ := fchk_ok wb h
  unfold fneg
  rw [if_neg (by omega), fturn_enc, dec_enc]
theorem fchk_small {b : Fr} (h : fchk b = 0) : b.num.length ≤ 2048 ∧ b.den.length ≤ 2048 := by
  unfold fchk at h
  by_cases h1 : 2048 < b.num.length
  · rw [if_pos h1] at h; omega
  · rw [if_neg h1] at h
    by_cases h2 : 2048 < b.den.length
    · rw [if_pos h2] at h; omega
    · omega
theorem six_set {w : World} {h : Nat} {a b c d e f : Value} {p : Addr} {u : Value} (H : Six w h a b c d e f) (h1 : p.block ≠ h) (h2 : p.block ≠ h + 1) : Six (w.setCell p u) h a b c d e f :=
  have hg := grown_setCell w p u
  ⟨cell_keep hg H.1 (fun e => h1 (Option.some.inj e).symm), cell_keep hg H.2.1 (fun e => h1 (Option.some.inj e).symm), cell_keep hg H.2.2.1 (fun e => h1 (Option.some.inj e).symm), cell_keep hg H.2.2.2.1 (fun e => h2 (Option.some.inj e).symm), cell_keep hg H.2.2.2.2.1 (fun e => h2 (Option.some.inj e).symm), cell_keep hg H.2.2.2.2.2 (fun e => h2 (Option.some.inj e).symm)⟩

set_option maxHeartbeats 1000000 in
theorem turned_any (b : Fr) (C D : Option Addr) (c3 c4 : Nat) (w : World) :
    Calls Tryz.prog 139 #[.agg #[.bool b.neg, .slice C b.num.length c3, .slice D b.den.length c4]] w fun e w' => e = .returned (.agg #[.bool (fturn b).neg, .slice C b.num.length c3, .slice D b.den.length c4]) ∧ Ext w w' := by
  obtain ⟨s, xs, ys⟩ := b
  have HX := Lib.hid ((Ext.refl w).alloc (.cells #[.bool s, .slice C xs.length c3, .slice D ys.length c4] 24))
  cases s with
  | true =>
    go_enter Tryz.func139, Tryz.ntmps139
    go_wp2_with fail
    exact bodyPost_ret (v := .agg #[.bool false, .slice C xs.length c3, .slice D ys.length c4]) (by simp [results, Tryz.results139, go_sem]) rfl ⟨rfl, by repeat (first | exact Ext.refl _ | refine Ext.setCell ?_ (by simp) _ | refine Ext.alloc ?_ _)⟩
  | false =>
    have HE := Lib.hid (show (fturn ⟨false, xs, ys⟩).neg = decide (0 < xs.length) from rfl)
    obtain ⟨v, hv⟩ : ∃ v : Bool, v = decide (0 < xs.length) := ⟨_, rfl⟩
    rw [HE.out, ← hv]
    have hv2 : decide ((0 : Int) < (xs.length : Int)) = v := by rw [hv]; exact decide_eq_decide.2 (by omega)
    cases v with
    | true =>
      have h1 : 0 < xs.length := of_decide_eq_true hv.symm
      clear hv hv2 HE
      go_enter Tryz.func139, Tryz.ntmps139
      go_wp2_with fail
      exact bodyPost_ret (v := .agg #[.bool true, .slice C xs.length c3, .slice D ys.length c4]) (by simp [results, Tryz.results139, go_sem]) rfl ⟨rfl, by repeat (first | exact Ext.refl _ | refine Ext.setCell ?_ (by simp) _ | refine Ext.alloc ?_ _)⟩
    | false =>
      have h1 : ¬ (0 < xs.length) := of_decide_eq_false hv.symm
      clear hv hv2 HE
      go_enter Tryz.func139, Tryz.ntmps139
      go_wp2_with fail
      exact bodyPost_ret (v := .agg #[.bool false, .slice C xs.length c3, .slice D ys.length c4]) (by simp [results, Tryz.results139, go_sem]) rfl ⟨rfl, by repeat (first | exact Ext.refl _ | refine Ext.setCell ?_ (by simp) _ | refine Ext.alloc ?_ _)⟩
theorem turned_rd (b : Fr) (C D : Option Addr) (c3 c4 : Nat) (w : World) (hc : Rd w C c3 b.num) (hd : Rd w D c4 b.den) (_ : b.num.length ≤ 2048 ∧ b.den.length ≤ 2048) :
    Calls Tryz.prog 139 #[.agg #[.bool b.neg, .slice C b.num.length c3, .slice D b.den.length c4]] w fun e w' => ∃ C' c' D' d', e = .returned (.agg #[.bool (fturn b).neg, .slice C' b.num.length c', .slice D' b.den.length d']) ∧ Rd w' C' c' b.num ∧ Rd w' D' d' b.den ∧ Ext w w' :=
  (turned_any b C D c3 c4 w).mono fun _ _ ⟨h1, h2⟩ => ⟨C, c3, D, c4, h1, hc.ext h2, hd.ext h2, h2⟩

set_option maxRecDepth 4000 in
set_option maxHeartbeats 2000000 in
theorem sub_fr (a b : Fr) (A B C D : Option Addr) (c1 c2 c3 c4 : Nat) (w : World) (ha : Rd w A c1 a.num) (hb : Rd w B c2 a.den) (hc : Rd w C c3 b.num) (hd : Rd w D c4 b.den) (wa : a.Wf) (wb : b.Wf) :
    Calls Tryz.prog 17 #[.agg #[.bool a.neg, .slice A a.num.length c1, .slice B a.den.length c2], .agg #[.bool b.neg, .slice C b.num.length c3, .slice D b.den.length c4]] w (RatP w (fsub a b)) := by
  have HA := Lib.hid ha
  have HB := Lib.hid hb
  have HC := Lib.hid hc
  have HD := Lib.hid hd
  clear ha hb hc hd
  by_cases hk : fchk2 a b ≠ 0
  · have HT := Lib.hid (show fsub a b = (Fr.zero, fchk2 a b) from both_bad hk)
    have hb1 : (fchk2 a b != 0) = true := bne_iff_ne.2 hk
    clear hk
    go_enter Tryz.func17, Tryz.ntmps17
    go_wp2_with fail
    obtain ⟨W, hW⟩ : ∃ W, W = ((w.alloc (.cells #[.bool a.neg, .slice A a.num.length c1, .slice B a.den.length c2] 24)).alloc (.cells #[.bool b.neg, .slice C b.num.length c3, .slice D b.den.length c4] 24)).alloc (.cells #[.bool false, .slice none 0 0, .slice none 0 0] 24) := ⟨_, rfl⟩
    have F0 : Six W w.heap.size (.bool a.neg) (.slice A a.num.length c1) (.slice B a.den.length c2) (.bool b.neg) (.slice C b.num.length c3) (.slice D b.den.length c4) := by rw [hW]; refine ⟨?_, ?_, ?_, ?_, ?_, ?_⟩ <;> simp [go_sem]
    have HX : Hid (Ext w W) := by rw [hW]; exact (((Ext.refl w).alloc _).alloc _).alloc _
    have HV : Hid (VarF (w.heap.size + 2) W.heap.size Fr.zero none 0 none 0 W) := by
      have h1 := VarF.zero ((w.alloc (.cells #[.bool a.neg, .slice A a.num.length c1, .slice B a.den.length c2] 24)).alloc (.cells #[.bool b.neg, .slice C b.num.length c3, .slice D b.den.length c4] 24)) W.heap.size
      rw [← hW] at h1
      unfold Hid
      simpa using h1
    have HZ := Lib.hid (show W.heap.size = w.heap.size + 3 by rw [hW]; simp)
    try rw [← hW]
    clear hW
    refine (checks_any a b A B C D c1 c2 c3 c4 W (HA.out.ext HX.out) (HB.out.ext HX.out) (HC.out.ext HX.out) (HD.out.ext HX.out) wa wb).mono ?_; rintro e w1 ⟨rfl, hx1⟩
    have F1 := six_ext hx1 F0
    have HX1 := Lib.hid (HX.out.trans hx1)
    have HV1 := Lib.hid (HV.out.ext hx1)
    have HZ1 := Lib.hid (show w.heap.size + 3 ≤ w1.heap.size by have := hx1.size; have := HZ.out; omega)
    clear hx1 F0 HX HV
    have r0 := HV1.out.c0
    have s0 := HV1.out.fr 0
    have r1 := HV1.out.c1
    have s1 := HV1.out.fr 1
    have r2 := HV1.out.c2
    have s2 := HV1.out.fr 2
    clear F1
    go_wp2_with fail
    exact bodyPost_ret (v := .tuple #[.agg #[.bool false, .slice none 0 0, .slice none 0 0], .int .i64 (fchk2 a b)]) (by simp [results, Tryz.results17, go_sem, r0, r1, r2]) rfl (RatP.nil HT.out rfl (by repeat (first | (with_reducible exact HX1.out) | refine Ext.setCell ?_ (by simp; try omega) _)))
  have h0 : fchk2 a b = 0 := by simpa using hk
  have hb1 : (fchk2 a b != 0) = false := bne_eq_false_iff_eq.2 h0
  obtain ⟨k1, k2⟩ := fchk2_zero h0
  obtain ⟨t, ht⟩ : ∃ t, t = tell (a.q - b.q) := ⟨_, rfl⟩
  have HT := Lib.hid (show fsub a b = t by rw [ht]; exact both_good h0)
  obtain ⟨k3, k4, k5⟩ := fturn_ok wb k2
  have HTU := Lib.hid (fun wx (hx : Ext w wx) => turned_rd b C D c3 c4 wx (HC.out.ext hx) (HD.out.ext hx) (fchk_small k2))
  have HP := Lib.hid (fun wx (hx : Ext w wx) (C' D' : Option Addr) (c' d' : Nat) (h1 : Rd wx C' c' b.num) (h2 : Rd wx D' d' b.den) => show Calls Tryz.prog 136 #[.agg #[.bool a.neg, .slice A a.num.length c1, .slice B a.den.length c2], .agg #[.bool (fturn b).neg, .slice C' b.num.length c', .slice D' b.den.length d']] wx (RatP wx (tell (a.q - b.q))) from plus_fr a (fturn b) A B C' D' c1 c2 c' d' wx (HA.out.ext hx) (HB.out.ext hx) h1 h2 wa k3 k1 k4 (a.q - b.q) (by rw [k5, Rat.sub_eq_add_neg]))
  rw [← ht] at HP
  clear ht hk k1 k2 h0 k3 k4 k5
  go_enter Tryz.func17, Tryz.ntmps17
  go_wp2_with fail
  obtain ⟨W, hW⟩ : ∃ W, W = ((w.alloc (.cells #[.bool a.neg, .slice A a.num.length c1, .slice B a.den.length c2] 24)).alloc (.cells #[.bool b.neg, .slice C b.num.length c3, .slice D b.den.length c4] 24)).alloc (.cells #[.bool false, .slice none 0 0, .slice none 0 0] 24) := ⟨_, rfl⟩
  have F0 : Six W w.heap.size (.bool a.neg) (.slice A a.num.length c1) (.slice B a.den.length c2) (.bool b.neg) (.slice C b.num.length c3) (.slice D b.den.length c4) := by rw [hW]; refine ⟨?_, ?_, ?_, ?_, ?_, ?_⟩ <;> simp [go_sem]
  have HX : Hid (Ext w W) := by rw [hW]; exact (((Ext.refl w).alloc _).alloc _).alloc _
  have HV : Hid (VarF (w.heap.size + 2) W.heap.size Fr.zero none 0 none 0 W) := by
    have h1 := VarF.zero ((w.alloc (.cells #[.bool a.neg, .slice A a.num.length c1, .slice B a.den.length c2] 24)).alloc (.cells #[.bool b.neg, .slice C b.num.length c3, .slice D b.den.length c4] 24)) W.heap.size
    rw [← hW] at h1
    unfold Hid
    simpa using h1
  have HZ := Lib.hid (show W.heap.size = w.heap.size + 3 by rw [hW]; simp)
  try rw [← hW]
  clear hW
  refine (checks_any a b A B C D c1 c2 c3 c4 W (HA.out.ext HX.out) (HB.out.ext HX.out) (HC.out.ext HX.out) (HD.out.ext HX.out) wa wb).mono ?_; rintro e w1 ⟨rfl, hx1⟩
  have F1 := six_ext hx1 F0
  have HX1 := Lib.hid (HX.out.trans hx1)
  have HV1 := Lib.hid (HV.out.ext hx1)
  have HZ1 := Lib.hid (show w.heap.size + 3 ≤ w1.heap.size by have := hx1.size; have := HZ.out; omega)
  clear hx1 F0 HX HV
  obtain ⟨u0, u1, u2, v0, v1, v2⟩ := id F1
  go_wp2_with fail
  have hzz := HZ1.out
  go_region_held3 (fun w' => w'.cell? ⟨w.heap.size, 0, none⟩ = some (.bool a.neg) ∧ w'.cell? ⟨w.heap.size, 1, none⟩ = some (.slice A a.num.length c1) ∧ w'.cell? ⟨w.heap.size, 2, none⟩ = some (.slice B a.den.length c2) ∧ w'.cell? ⟨w.heap.size + 1, 0, none⟩ = some (.bool b.neg) ∧ w'.cell? ⟨w.heap.size + 1, 1, none⟩ = some (.slice C b.num.length c3) ∧ w'.cell? ⟨w.heap.size + 1, 2, none⟩ = some (.slice D b.den.length c4)) (repeat (first | (with_reducible exact F1) | (with_reducible exact F2) | (with_reducible exact F3) | (with_reducible exact F4) | (with_reducible refine six_drew ?_) | (with_reducible refine six_set ?_ (by simp only; omega) (by simp only; omega))))
    (first
      | (go_at_call 139; ((with_reducible refine (HTU.out _ HX1.out.drew).mono ?_)); rintro e w2 ⟨C5, c5, D5, d5, rfl, p1, p2, hx2⟩; have P1 := Lib.hid p1; have P2 := Lib.hid p2; have HX2 := Lib.hid hx2; have F2 := six_ext hx2 (six_drew F1); clear p1 p2 hx2)
      | (go_at_call 136; ((with_reducible refine (HP.out _ (HX1.out.drew.trans HX2.out) C5 D5 c5 d5 P1.out P2.out).mono ?_)); rintro e w9 ⟨A9, c9, B9, d9, rfl, o1, o2, ap, hx⟩; have O1 := Lib.hid (o1.lower (show w.heap.size + 3 ≤ w2.heap.size by have := HX2.out.size; simp only [World.size_drew] at this; omega)); have O2 := Lib.hid (o2.lower (show w.heap.size + 3 ≤ w2.heap.size by have := HX2.out.size; simp only [World.size_drew] at this; omega)); have AP := Lib.hid ap; have HX9 := Lib.hid ((HX1.out.drew.trans HX2.out).trans hx); have F3 := six_ext hx F2; have HV9 := HV1.out.ext (((Ext.refl _).drew.trans HX2.out).trans hx); have r0 := HV9.c0; have s0 := HV9.fr 0; have r1 := HV9.c1; have s1 := HV9.fr 1; have r2 := HV9.c2; have s2 := HV9.fr 2; clear o1 o2 ap hx HV9))
  all_goals
    go_wp2_with fail
    exact bodyPost_ret (v := .tuple #[.agg #[.bool t.1.neg, .slice A9 t.1.num.length c9, .slice B9 t.1.den.length d9], .int .i64 t.2]) (by simp [results, Tryz.results17, go_sem, r0, r1, r2]) rfl (RatP.mk HT.out rfl (by refine Own.lower ?_ (show w.heap.size ≤ w.heap.size + 3 by omega); repeat (first | (with_reducible exact O1.out) | refine Own.setBelow ?_ (by simp; try omega) _)) (by refine Own.lower ?_ (show w.heap.size ≤ w.heap.size + 3 by omega); repeat (first | (with_reducible exact O2.out) | refine Own.setBelow ?_ (by simp; try omega) _)) AP.out (by repeat (first | (with_reducible exact HX9.out) | refine Ext.setCell ?_ (by simp; try omega) _)))

end Go.Proofs.YtifonmdcicegdaaGreat

