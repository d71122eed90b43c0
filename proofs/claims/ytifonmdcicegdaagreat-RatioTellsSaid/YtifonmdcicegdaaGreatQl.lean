/- Texts of this claim, joined: T3. -/
import Derived.Test.YtifonmdcicegdaaGreatQk
/- The law RatioTells: its last list. -/
namespace Go.Proofs.YtifonmdcicegdaaGreat
open Go Go.RowKit

/-- four rows lie apart -/
def Ap4 (A B C D : Option Addr) : Prop := (∀ a b, A = some a → B = some b → a.block ≠ b.block) ∧ (∀ a b, C = some a → D = some b → a.block ≠ b.block) ∧ (∀ a b, A = some a → C = some b → a.block ≠ b.block) ∧ (∀ a b, A = some a → D = some b → a.block ≠ b.block) ∧ (∀ a b, B = some a → C = some b → a.block ≠ b.block) ∧ (∀ a b, B = some a → D = some b → a.block ≠ b.block)
/-- twelve, and four behind them -/
def At16 {α : Type} (f : Nat → α) (a b c d : α) (j : Nat) : α := if j < 12 then f j else if j = 12 then a else if j = 13 then b else if j = 14 then c else d
theorem at16_lt {α : Type} {f : Nat → α} {a b c d : α} {j : Nat} (h : j < 12) : At16 f a b c d j = f j := if_pos h

/-- append of fractions, guarded or not -/
theorem wpList_appN {w : World} {ops : Array Oper} {rest : List Oper} {o : Oper} {a : Act} {Q : Exit → Act → World → Prop} (hgd : Region.wanted o (yielded ops a.tmps) = true) (s x : Operand)
    (ho : o.op = .call { callee := .builtin .append, args := #[s, x], argTypes := #[26, 26] })
    (base : Nat) (v : Value) (n : Nat) (vs : List Value) (hs : a.eval s = v) (hown : w.ownsRow base 24 3 v n vs)
    (ad : Addr) (m c : Nat) (news : List Value) (hx : a.eval x = .slice (some ad) m c) (hl : news.length = m * 3) (hnews : ∀ j u, news[j]? = some u → w.cell? (ad.add j) = some u) (h1 : ∀ u ∈ news, u.oneCell' = true)
    (hm : m ≤ 1000000) (hn : n ≤ 1000000) (hbase : base ≤ w.heap.size)
    (h : ∀ v' w', w'.ownsRow base 24 3 v' (n + m) (vs ++ news) → w.grownBy w' v.ownBlock → wpList Tryz.prog ops Q rest (a.put o.dst v') w') : wpList Tryz.prog ops Q (o :: rest) a w := by
  obtain ⟨i0, hi, hz0, hz1, hz2⟩ := info_parts info_ratio
  refine wpList_step fun K hK => ?_
  rw [if_pos hgd]
  exact wp_append_own w s x 26 ho base 24 i0 _ 3 56 Tryz.underlying26 hi hz0 hz1 hz2 rfl (by decide) v n vs hs hown ad m c news hx hl hnews h1 (by unfold maxLen; omega) (by omega) hbase fun v' w' h2 h3 _ => hK _ _ (h v' w' h2 h3)

theorem tells_sides {w : World} {base g cap : Nat} {A B C D : Option Addr} {d1 d2 d3 d4 : Nat} {a b : Fr} {P : Nat → Option Addr} {Q : Nat → Nat} {F : Nat → Fr} {X : Nat → List Int} {vs : List Value}
    (hr : w.ownsRow base 24 3 (.slice (some ⟨g, 0, none⟩) (6 + 2) cap) (6 + 2) (vs ++ [.bool a.neg, .slice A a.num.length d1, .slice B a.den.length d2, .bool b.neg, .slice C b.num.length d3, .slice D b.den.length d4])) (hl : vs.length = 6 * 3)
    (h : ∀ j, j < 6 → vs[j * 3]? = some (.bool (F j).neg) ∧ vs[j * 3 + 1]? = some (.slice (P (2 * j)) (F j).num.length (Q (2 * j))) ∧ vs[j * 3 + 2]? = some (.slice (P (2 * j + 1)) (F j).den.length (Q (2 * j + 1))))
    (hn : ∀ j, X (2 * j) = (F j).num) (hd : ∀ j, X (2 * j + 1) = (F j).den) (e6 : F 6 = a) (e7 : F 7 = b) :
    Sides g 0 8 (At16 P A B C D) (At16 Q d1 d2 d3 d4) (fun j => (X j).length) w := by
  have s6 : ∀ (x0 x1 x2 x3 x4 x5 : Value) (i : Nat), (vs ++ [x0, x1, x2, x3, x4, x5])[18 + i]? = [x0, x1, x2, x3, x4, x5][i]? := fun x0 x1 x2 x3 x4 x5 i => by
    rw [List.getElem?_append_right (by omega), hl]
    congr 1
    omega
  refine ⟨fun j hj => ?_, fun j hj => ?_⟩
  · rw [Nat.zero_add, World.ownsRow.cellAt hr _ (by omega)]
    simp only [hn]
    by_cases h6 : j < 6
    · rw [at16_lt (by omega), at16_lt (by omega), List.getElem?_append_left (by omega)]
      exact (h j h6).2.1
    · obtain rfl | rfl : j = 6 ∨ j = 7 := by omega
      · rw [e6]; exact s6 _ _ _ _ _ _ 1
      · rw [e7]; exact s6 _ _ _ _ _ _ 4
  · rw [Nat.zero_add, World.ownsRow.cellAt hr _ (by omega)]
    simp only [hd]
    by_cases h6 : j < 6
    · rw [at16_lt (by omega), at16_lt (by omega), List.getElem?_append_left (by omega)]
      exact (h j h6).2.2
    · obtain rfl | rfl : j = 6 ∨ j = 7 := by omega
      · rw [e6]; exact s6 _ _ _ _ _ _ 2
      · rw [e7]; exact s6 _ _ _ _ _ _ 5
theorem six_one {vs : List Value} {k : Nat} {P : Nat → Option Addr} {C : Nat → Nat} {F : Nat → Fr} (hl : vs.length = k * 3) (h : ∀ j, j < k → vs[j * 3]? = some (.bool (F j).neg) ∧ vs[j * 3 + 1]? = some (.slice (P (2 * j)) (F j).num.length (C (2 * j))) ∧ vs[j * 3 + 2]? = some (.slice (P (2 * j + 1)) (F j).den.length (C (2 * j + 1)))) : ∀ u ∈ vs, u.oneCell' = true := by
  intro u hu
  obtain ⟨i, hi, rfl⟩ := List.mem_iff_getElem.1 hu
  obtain ⟨h0, h1, h2⟩ := h (i / 3) (by omega)
  have e : vs[i]? = some vs[i] := List.getElem?_eq_getElem hi
  have hr : i = i / 3 * 3 ∨ i = i / 3 * 3 + 1 ∨ i = i / 3 * 3 + 2 := by omega
  rcases hr with hr | hr | hr
  · rw [← hr, e] at h0; rw [Option.some.inj h0]; rfl
  · rw [← hr, e] at h1; rw [Option.some.inj h1]; rfl
  · rw [← hr, e] at h2; rw [Option.some.inj h2]; rfl
theorem tells_apart {w : World} {gx : Nat} {A B C D : Option Addr} {P : Nat → Option Addr} {Q : Nat → Nat} {F : Nat → Fr} {X : Nat → List Int} {v : Value} (hr : Rows2 w (gx + 1) v 6 P Q F X) (h4 : Ap4 A B C D)
    (lA : ∀ a, A = some a → a.block < gx) (lB : ∀ a, B = some a → a.block < gx) (lC : ∀ a, C = some a → a.block < gx) (lD : ∀ a, D = some a → a.block < gx) :
    ∀ i j, i < 16 → j < 16 → i ≠ j → ∀ a b, At16 P A B C D i = some a → At16 P A B C D j = some b → a.block ≠ b.block := by
  have hP : ∀ j, j < 12 → ∀ a, P j = some a → gx + 1 ≤ a.block := fun j hj a e => by have h1 := hr.own j (by omega); rw [e] at h1; exact h1.block.1
  have hL : ∀ j, 12 ≤ j → ∀ a, At16 P A B C D j = some a → a.block < gx := fun j hj a e => by
    unfold At16 at e
    rw [if_neg (by omega)] at e
    split at e
    · exact lA a e
    · split at e
      · exact lB a e
      · split at e
        · exact lC a e
        · exact lD a e
  have lt : ∀ i j, i < j → j < 16 → ∀ a b, At16 P A B C D i = some a → At16 P A B C D j = some b → a.block ≠ b.block := by
    intro i j hij hj a b ha hb
    by_cases h1 : i < 12
    · rw [at16_lt h1] at ha
      by_cases h2 : j < 12
      · rw [at16_lt h2] at hb; exact hr.ap i j (by omega) (by omega) (by omega) a b ha hb
      · have h3 := hP i h1 a ha
        have h5 := hL j (by omega) b hb
        omega
    · have hij2 : (i = 12 ∧ j = 13) ∨ (i = 12 ∧ j = 14) ∨ (i = 12 ∧ j = 15) ∨ (i = 13 ∧ j = 14) ∨ (i = 13 ∧ j = 15) ∨ (i = 14 ∧ j = 15) := by omega
      rcases hij2 with ⟨rfl, rfl⟩ | ⟨rfl, rfl⟩ | ⟨rfl, rfl⟩ | ⟨rfl, rfl⟩ | ⟨rfl, rfl⟩ | ⟨rfl, rfl⟩
      · exact h4.1 a b ha hb
      · exact h4.2.2.1 a b ha hb
      · exact h4.2.2.2.1 a b ha hb
      · exact h4.2.2.2.2.1 a b ha hb
      · exact h4.2.2.2.2.2 a b ha hb
      · exact h4.2.1 a b ha hb
  intro i j hi hj hne a b ha hb
  rcases Nat.lt_or_ge i j with h | h
  · exact lt i j h hj a b ha hb
  · exact fun e => lt j i (by omega) hi b a hb ha e.symm

end Go.Proofs.YtifonmdcicegdaaGreat

