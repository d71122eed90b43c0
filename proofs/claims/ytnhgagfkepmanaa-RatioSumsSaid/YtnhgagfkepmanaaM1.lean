/- What is said of memory: a slice of words that is read; a row of the call's own; nothing that was there has turned. -/
import Derived.Test.YtnhgagfkepmanaaProg
import Derived.Test.YtnhgagfkepmanaaP1
import Derived.WalkKit
import Derived.WalkSpells
import Derived.WalkLawsBesides
import Derived.BigQuiet
import Derived.Deep.QuietTactic
import Derived.Deep.LoopGhost
import Derived.Deep.DeepCutAuto
import Derived.Deep.RegionWith
import Derived.Lib.Hide
import Derived.IntWalk
import Derived.WalkSmall
namespace Go.Proofs.Ytnhgagfkepmanaa
open Go Go.RowKit

/-- Nothing that was there has turned. -/
def Ext (w w' : World) : Prop := Below w.heap.size w w'
theorem Ext.refl (w : World) : Ext w w := Below.refl _ _
theorem Ext.size {w w' : World} (h : Ext w w') : w.heap.size ≤ w'.heap.size := Below.size h
theorem Ext.trans {a b c : World} (h : Ext a b) (k : Ext b c) : Ext a c := Below.trans h (Below.mono k h.size)
theorem Ext.alloc {a w : World} (h : Ext a w) (o : Obj) : Ext a (w.alloc o) := Below.alloc h (Below.size h) o
theorem Ext.drew {a w : World} (h : Ext a w) : Ext a w.drew := Below.drew h
theorem Ext.drewN {a w : World} (h : Ext a w) (n : Nat) : Ext a (w.drewN n) := below_drewN h n
theorem Ext.setCell {a w : World} (h : Ext a w) {p : Addr} (hp : a.heap.size ≤ p.block) (u : Value) : Ext a (w.setCell p u) := Below.setCell h hp u
theorem Ext.grown {a w w' : World} {row : Option Nat} (h : Ext a w) (hg : w.grownBy w' row) (hr : ∀ k, row = some k → a.heap.size ≤ k) : Ext a w' := Below.grown h hg (Below.size h) hr
theorem Ext.grownNone {a w w' : World} (h : Ext a w) (hg : w.grownBy w' none) : Ext a w' := h.grown hg (fun _ e => by cases e)
theorem Ext.by_ {w w' : World} (h : Ext w w') (row : Option Nat) : w.grownBy w' row := ⟨h.os, h.tape, h.output, Below.size h, fun k hk _ => h.block k hk⟩
theorem Ext.cell {w w' : World} (h : Ext w w') {p : Addr} {v : Value} (hc : w.cell? p = some v) : w'.cell? p = some v := (Below.cell h (World.block_lt_of_cell? w p hc)).trans hc
theorem Ext.frozen {w w' : World} (h : Ext w w') {p : Addr} {v : Value} (hc : w.cell? p = some v) : w'.frozen? p = w.frozen? p := Below.frozen h (World.block_lt_of_cell? w p hc)

theorem grown_trans {a b c : World} {row : Option Nat} (h : a.grownBy b row) (k : b.grownBy c row) : a.grownBy c row :=
  ⟨k.os.trans h.os, k.tape.trans h.tape, k.output.trans h.output, Nat.le_trans h.size k.size, fun i hi hr => (k.block i (Nat.lt_of_lt_of_le hi h.size) hr).trans (h.block i hi hr)⟩
theorem grown_alloc {a b : World} {row : Option Nat} (h : a.grownBy b row) (o : Obj) : a.grownBy (b.alloc o) row := grown_trans h (World.grownBy_alloc b o row)
theorem grown_drewN {a b : World} {row : Option Nat} (h : a.grownBy b row) (n : Nat) : a.grownBy (b.drewN n) row := ⟨h.os, h.tape, h.output, h.size, h.block⟩
theorem grown_ext {a b c : World} {row : Option Nat} (h : a.grownBy b row) (k : Ext b c) : a.grownBy c row := grown_trans h (k.by_ row)

/-- words as cells -/
def nums (xs : List Int) : List Value := xs.map (Value.int .u32)
theorem nums_length (xs : List Int) : (nums xs).length = xs.length := by simp [nums]
theorem nums_at (xs : List Int) (j : Nat) (h : j < xs.length) : (nums xs)[j]? = some (.int .u32 (nth xs j)) := by
  simp [nums, List.getElem?_map, List.getElem?_eq_getElem h, nth_lt xs j h]
theorem nums_set (xs : List Int) (j : Nat) (v : Int) : (nums xs).set j (.int .u32 v) = nums (xs.set j v) := by simp [nums, List.map_set]

/-- A slice of words that is read: at A, with room for c. -/
structure Rd (w : World) (A : Option Addr) (c : Nat) (xs : List Int) : Prop where
  cap : xs.length ≤ c
  capm : c ≤ 9223372036854775807
  none_ : A = none → c = 0
  at_ : ∀ j, j < xs.length → ∃ a, A = some a ∧ w.cell? (a.add j) = some (.int .u32 (nth xs j))
theorem Rd.lim {w : World} {A : Option Addr} {c : Nat} {xs : List Int} (h : Rd w A c xs) : xs.length ≤ 9223372036854775807 := Nat.le_trans h.cap h.capm
theorem Rd.ext {w w' : World} {A : Option Addr} {c : Nat} {xs : List Int} (h : Rd w A c xs) (e : Ext w w') : Rd w' A c xs :=
  ⟨h.cap, h.capm, h.none_, fun j hj => let ⟨a, ha, hc⟩ := h.at_ j hj; ⟨a, ha, e.cell hc⟩⟩
theorem Rd.take {w : World} {A : Option Addr} {c : Nat} {xs : List Int} (h : Rd w A c xs) (n : Nat) : Rd w A c (xs.take n) :=
  ⟨by have := h.cap; rw [List.length_take]; omega, h.capm, h.none_, fun j hj => by
    rw [List.length_take] at hj
    obtain ⟨a, ha, hc⟩ := h.at_ j (by omega)
    exact ⟨a, ha, by rw [nth_take xs n j (by omega)]; exact hc⟩⟩
theorem Rd.kept {w w' : World} {A : Option Addr} {c : Nat} {xs : List Int} (h : Rd w A c xs) {row : Option Nat} (e : w.grownBy w' row) (hne : ∀ a, A = some a → some a.block ≠ row) : Rd w' A c xs :=
  ⟨h.cap, h.capm, h.none_, fun j hj => by
    obtain ⟨a, ha, hc⟩ := h.at_ j hj
    have hb : (a.add j).block = a.block := by unfold Addr.add; split <;> rfl
    exact ⟨a, ha, e.cell hc (by rw [hb]; exact hne a ha)⟩⟩
theorem Rd.nil (w : World) : Rd w none 0 [] := ⟨Nat.le_refl _, by omega, fun _ => rfl, fun _ hj => absurd hj (Nat.not_lt_zero _)⟩
theorem Rd.some_ {w : World} {A : Option Addr} {c : Nat} {xs : List Int} (h : Rd w A c xs) (hp : 0 < xs.length) : ∃ a, A = some a := let ⟨a, ha, _⟩ := h.at_ 0 hp; ⟨a, ha⟩
theorem Rd.cell {w : World} {a : Addr} {c : Nat} {xs : List Int} (h : Rd w (some a) c xs) (j : Nat) (hj : j < xs.length) : w.cell? (a.add j) = some (.int .u32 (nth xs j)) := by
  obtain ⟨a', ha, hc⟩ := h.at_ j hj
  cases ha
  exact hc

/-- A row of the call's own, from the block base on: the words are its first ones; c: room. -/
def Own (w : World) (base : Nat) (A : Option Addr) (c : Nat) (xs : List Int) : Prop := w.ownsRow base 52 1 (.slice A xs.length c) xs.length (nums xs)

theorem Own.nil (w : World) (base : Nat) : Own w base none 0 [] := World.ownsRow_nil w base _ 1
theorem Own.cases {w : World} {base : Nat} {A : Option Addr} {c : Nat} {xs : List Int} (h : Own w base A c xs) :
    (A = none ∧ c = 0 ∧ xs = []) ∨ ∃ g cur, A = some ⟨g, 0, none⟩ ∧ base ≤ g ∧ w.heap[g]? = some (.cells cur 52 (0, 0)) ∧ xs.length ≤ c ∧ c ≤ 9223372036854775807 ∧ cur.size = c ∧ cur.toList.take xs.length = nums xs := by
  rcases h.2 with ⟨h1, h2⟩ | ⟨g, cap, cur, he, h1, h2, h3, h4, h5, h6⟩
  · injection h1 with e1 e2 e3
    exact .inl ⟨e1, e3, List.eq_nil_of_length_eq_zero h2⟩
  · injection he with e1 e2 e3
    subst e1
    subst e3
    simp only [Nat.mul_one] at h5 h6
    simp only [maxLen] at h4
    exact .inr ⟨g, cur, rfl, h1, h2, h3, by omega, h5, h6⟩
theorem Own.mk {w : World} {base g c : Nat} {xs : List Int} {cur : Array Value} (h1 : base ≤ g) (h2 : w.heap[g]? = some (.cells cur 52 (0, 0))) (h3 : xs.length ≤ c) (h4 : c ≤ 9223372036854775807) (h5 : cur.size = c) (h6 : cur.toList.take xs.length = nums xs) : Own w base (some ⟨g, 0, none⟩) c xs :=
  ⟨by simp [nums], .inr ⟨g, c, cur, rfl, h1, h2, h3, by unfold maxLen; omega, by simpa using h5, by simpa using h6⟩⟩
theorem Own.form {w : World} {base : Nat} {A : Option Addr} {c : Nat} {xs : List Int} (h : Own w base A c xs) : A = none ∨ ∃ g, A = some ⟨g, 0, none⟩ ∧ base ≤ g ∧ g < w.heap.size := by
  rcases h.cases with ⟨h1, _⟩ | ⟨g, cur, h1, h2, h3, _⟩
  · exact .inl h1
  · exact .inr ⟨g, h1, h2, (Array.getElem?_eq_some_iff.1 h3).1⟩
theorem Own.block {w : World} {base : Nat} {a : Addr} {c : Nat} {xs : List Int} (h : Own w base (some a) c xs) : base ≤ a.block ∧ a.block < w.heap.size := by
  rcases h.form with h1 | ⟨g, h1, h2, h3⟩
  · cases h1
  · cases h1; exact ⟨h2, h3⟩
theorem Own.rd {w : World} {base : Nat} {A : Option Addr} {c : Nat} {xs : List Int} (h : Own w base A c xs) : Rd w A c xs := by
  rcases h.cases with ⟨rfl, rfl, rfl⟩ | ⟨g, cur, rfl, h1, h2, h3, h4, h5, h6⟩
  · exact Rd.nil w
  · refine ⟨h3, h4, (fun e => by cases e), fun j hj => ⟨_, rfl, ?_⟩⟩
    exact World.ownsRow.cells h (g := g) rfl j _ (nums_at xs j hj)
theorem Own.lower {w : World} {base base' : Nat} {A : Option Addr} {c : Nat} {xs : List Int} (h : Own w base A c xs) (hb : base' ≤ base) : Own w base' A c xs := by
  rcases h.cases with ⟨rfl, rfl, rfl⟩ | ⟨g, cur, rfl, h1, h2, h3, h4, h5, h6⟩
  · exact Own.nil w _
  · exact Own.mk (by omega) h2 h3 h4 h5 h6
theorem Own.kept {w w' : World} {base : Nat} {A : Option Addr} {c : Nat} {xs : List Int} (h : Own w base A c xs) {row : Option Nat} (e : w.grownBy w' row) (hne : ∀ a, A = some a → some a.block ≠ row) : Own w' base A c xs :=
  World.ownsRow.kept h e (by
    cases A with
    | none => exact .inl rfl
    | some a => exact .inr (hne a rfl))
theorem Own.ext {w w' : World} {base : Nat} {A : Option Addr} {c : Nat} {xs : List Int} (h : Own w base A c xs) (e : Ext w w') : Own w' base A c xs :=
  h.kept (e.by_ none) (fun _ _ => by simp)
theorem Own.drewN {w : World} {base : Nat} {A : Option Addr} {c : Nat} {xs : List Int} (h : Own w base A c xs) (n : Nat) : Own (w.drewN n) base A c xs := h.ext ((Ext.refl w).drewN n)
/-- fewer of the same row -/
theorem Own.take {w : World} {base : Nat} {A : Option Addr} {c : Nat} {xs : List Int} (h : Own w base A c xs) (n : Nat) : Own w base A c (xs.take n) := by
  rcases h.cases with ⟨rfl, rfl, rfl⟩ | ⟨g, cur, rfl, h1, h2, h3, h4, h5, h6⟩
  · rw [List.take_nil]; exact Own.nil w _
  · refine Own.mk h1 h2 (by rw [List.length_take]; omega) h4 h5 ?_
    have e : nums (xs.take n) = (nums xs).take n := by simp [nums, List.map_take]
    rw [e, ← h6, List.take_take, List.length_take]
/-- a word is stored -/
theorem Own.set {w : World} {base g c : Nat} {xs : List Int} (h : Own w base (some ⟨g, 0, none⟩) c xs) (j : Nat) (v : Int) :
    Own (w.setCell ⟨g, j, none⟩ (.int .u32 v)) base (some ⟨g, 0, none⟩) c (xs.set j v) ∧ w.grownBy (w.setCell ⟨g, j, none⟩ (.int .u32 v)) (some g) := by
  have := World.ownsRow.stored h j (.int .u32 v)
  unfold Own
  rw [List.length_set, ← nums_set]
  exact this
theorem Own.cell {w : World} {base g c : Nat} {xs : List Int} (h : Own w base (some ⟨g, 0, none⟩) c xs) (j : Nat) (hj : j < xs.length) : w.cell? ⟨g, j, none⟩ = some (.int .u32 (nth xs j)) := by
  rw [World.ownsRow.cellAt h j (by omega)]
  exact nums_at xs j hj
theorem Own.free {w : World} {base g c : Nat} {xs : List Int} (h : Own w base (some ⟨g, 0, none⟩) c xs) (j : Nat) : w.frozen? ⟨g, j, none⟩ = false := World.ownsRow.frozenAt h j
theorem Own.fresh {w : World} {base : Nat} {A : Option Addr} {c : Nat} {xs : List Int} (h : Own w base A c xs) : ∀ a, A = some a → base ≤ a.block := by
  intro a ha; subst ha; exact h.block.1
/-- a store below the row -/
theorem Own.setBelow {w : World} {base : Nat} {A : Option Addr} {c : Nat} {xs : List Int} (h : Own w base A c xs) {p : Addr} (hp : p.block < base) (u : Value) : Own (w.setCell p u) base A c xs := ownsRow_setCell_below h hp u
/-- of two rows the one made later is another one -/
theorem Own.apart {w w' : World} {base base' : Nat} {A B : Option Addr} {c d : Nat} {xs ys : List Int} (h : Own w base A c xs) (k : Own w' base' B d ys) (hb : w.heap.size ≤ base') : ∀ a b, A = some a → B = some b → a.block ≠ b.block := by
  intro a b ha hb'
  subst ha
  subst hb'
  have := h.block
  have := k.block
  omega

theorem Rd.lt {w : World} {a : Addr} {c : Nat} {xs : List Int} (h : Rd w (some a) c xs) (hp : 0 < xs.length) : a.block < w.heap.size := by
  have := World.block_lt_of_cell? w _ (h.cell 0 hp)
  have hb : (a.add 0).block = a.block := by unfold Addr.add; split <;> rfl
  rwa [hb] at this
/-- a row that is new lies apart from what is read -/
theorem Own.apartRd {w w' : World} {base : Nat} {A B : Option Addr} {c d : Nat} {xs ys : List Int} (h : Own w' base A c xs) (k : Rd w B d ys) (hb : w.heap.size ≤ base) : ∀ a b, A = some a → B = some b → 0 < ys.length → a.block ≠ b.block := by
  intro a b ha hb' hp
  subst ha
  subst hb'
  have := h.block
  have := k.lt hp
  omega

theorem info_u32 : (Try.prog.info? 52).map (fun i => (i.zero, i.size, i.bytes)) = some (some (.int .u32 0), 1, 4) := by kernel_rfl
theorem add_plain (g o j : Nat) : (⟨g, o, none⟩ : Addr).add j = ⟨g, o + j, none⟩ := by unfold Addr.add; split <;> simp_all
theorem add_plain0 (g j : Nat) : (⟨g, 0, none⟩ : Addr).add j = ⟨g, j, none⟩ := by rw [add_plain, Nat.zero_add]
/-- a stretch of a row of the call's own is read -/
theorem Own.sub {w : World} {base g C : Nat} {us : List Int} (h : Own w base (some ⟨g, 0, none⟩) C us) (o l c : Nat) (hl : o + l ≤ us.length) (hc : l ≤ c) (hcm : c ≤ 9223372036854775807) : Rd w (some ⟨g, o, none⟩) c ((us.drop o).take l) := by
  have hlen : ((us.drop o).take l).length = l := by rw [List.length_take, List.length_drop]; omega
  refine ⟨by omega, hcm, (fun e => by cases e), fun j hj => ⟨_, rfl, ?_⟩⟩
  rw [add_plain, nth_take _ _ _ (by omega), nth_drop]
  exact h.cell (o + j) (by omega)
theorem sub_len (us : List Int) (o l : Nat) (hl : o + l ≤ us.length) : ((us.drop o).take l).length = l := by rw [List.length_take, List.length_drop]; omega
theorem nums_zeros (n : Nat) : (madeCells (Value.int .u32 0).cells (n * 1)).toList = nums (List.replicate n 0) := by
  show (madeCells #[Value.int .u32 0] (n * 1)).toList = _
  rw [toList_madeCells_one, Nat.mul_one]
  simp [nums]

theorem Own.zeros {w w' : World} {base n : Nat} (h : w'.ownsRow base 52 1 (.slice (some ⟨w.heap.size, 0, none⟩) n n) n (madeCells (Value.int .u32 0).cells (n * 1)).toList) : Own w' base (some ⟨w.heap.size, 0, none⟩) n (List.replicate n 0) := by
  rw [nums_zeros] at h
  unfold Own
  rw [List.length_replicate]
  exact h
theorem Own.of_row {w : World} {base n : Nat} {v : Value} {xs : List Int} (h : w.ownsRow base 52 1 v n (nums xs)) : ∃ A c, v = .slice A xs.length c ∧ Own w base A c xs := by
  have hl : xs.length = n := by have := h.1; simp [nums] at this; exact this
  subst hl
  rcases h.2 with ⟨rfl, h2⟩ | ⟨g, cap, cur, rfl, _⟩
  · exact ⟨none, 0, by rw [h2], by unfold Own; rw [h2] at h ⊢; exact h⟩
  · exact ⟨_, cap, rfl, h⟩
theorem nums_append (xs ys : List Int) : nums (xs ++ ys) = nums xs ++ nums ys := by simp [nums]
theorem nums_one (xs : List Int) : ∀ u ∈ nums xs, u.oneCell' = true := by
  intro u hu
  obtain ⟨x, _, rfl⟩ := List.mem_map.1 hu
  rfl
/-- append of words to words of the call's own -/
theorem wpList_app {w : World} {ops : Array Oper} {rest : List Oper} {o : Oper} {a : Act} {Q : Exit → Act → World → Prop} (hgd : o.guard = none) (s x : Operand)
    (ho : o.op = .call { callee := .builtin .append, args := #[s, x], argTypes := #[22, 22] })
    (base : Nat) (A : Option Addr) (c : Nat) (xs : List Int) (n : Nat) (hn : xs.length = n) (hs : a.eval s = .slice A n c) (hO : Own w base A c xs)
    (B : Option Addr) (d : Nat) (ys : List Int) (m : Nat) (hm : ys.length = m) (hx : a.eval x = .slice B m d) (hR : Rd w B d ys)
    (hlen : n + m ≤ 35184372088832) (hbase : base ≤ w.heap.size)
    (h : ∀ A' c' w', Own w' base A' c' (xs ++ ys) → w.grownBy w' (A.map (·.block)) → wpList Try.prog ops Q rest (a.put o.dst (.slice A' (n + m) c')) w') : wpList Try.prog ops Q (o :: rest) a w := by
  obtain ⟨i0, hi, hz0, hz1, hz2⟩ := info_parts info_u32
  subst hn
  subst hm
  have hrow : (Value.slice A xs.length c).ownBlock = A.map (·.block) := by cases A <;> rfl
  cases B with
  | none =>
    obtain rfl : d = 0 := hR.none_ rfl
    obtain rfl : ys = [] := List.eq_nil_of_length_eq_zero (Nat.le_zero.1 hR.cap)
    refine wpList_plain hgd fun K hK => ?_
    unfold Oper.wp execOp
    have hr := run_append_owned_none (P := Try.prog) w base 22 o.type 52 i0 1 Try.underlying22 hi _ _ _ hO
    simp only [ho, resolve, invoke, builtin, Sem.run_bind, Sem.run_pure, Result.andThen_ok, List.map_toArray, List.map_cons, List.map_nil, hs, hx, List.length_nil, hr]
    exact hK _ _ (h A c w (by rw [List.append_nil]; exact hO) (World.grownBy.refl w _))
  | some b =>
    refine wpList_append_own w hgd s x 22 ho base 52 i0 (.int .u32 0) 1 4 Try.underlying22 hi hz0 hz1 hz2 rfl (by decide) _ _ _ hs hO b ys.length d (nums ys) hx (by rw [nums_length, Nat.mul_one])
      (fun j u hu => by
        have hj : j < ys.length := by
          have := (List.getElem?_eq_some_iff.1 hu).1
          rwa [nums_length] at this
        rw [nums_at ys j hj] at hu
        cases hu
        exact hR.cell j hj) (nums_one ys) (by unfold maxLen; omega) (by omega) hbase ?_
    intro v' w' h2 h3 _
    rw [← nums_append] at h2
    obtain ⟨A', c', rfl, hO'⟩ := Own.of_row h2
    rw [hrow] at h3
    have := h A' c' w' hO' h3
    rwa [← List.length_append] at this
/-- make of words -/
theorem wpList_mk {w : World} {ops : Array Oper} {rest : List Oper} {o : Oper} {a : Act} {Q : Exit → Act → World → Prop} (hgd : o.guard = none) (l k : Operand)
    (ho : o.op = Op.makeSlice 22 l k) (n : Nat) (L C : Int) (hl : a.eval l = .int .i64 L) (hc : a.eval k = .int .i64 C) (hL : L = (n : Int)) (hC : C = (n : Int)) (hn : n ≤ 70368744177664)
    (h : ∀ w', Own w' w.heap.size (some ⟨w.heap.size, 0, none⟩) n (List.replicate n 0) → Ext w w' → wpList Try.prog ops Q rest (a.put o.dst (.slice (some ⟨w.heap.size, 0, none⟩) n n)) w') : wpList Try.prog ops Q (o :: rest) a w := by
  obtain ⟨i0, hi, hz0, hz1, hz2⟩ := info_parts info_u32
  refine wpList_make_full w hgd l k _ ho w.heap.size 52 i0 (.int .u32 0) 1 Try.underlying22 hi hz0 hz1 .i64 .i64 L C n hl hc hL hC (by rw [hz2]; omega) (by unfold maxLen; omega) (Nat.le_refl _) ?_
  intro w' hO hg
  exact h w' (Own.zeros hO) ((Ext.refl w).grownNone hg)
/-- words that are written out -/
theorem Own.lit (w : World) (cs : Array Value) (xs : List Int) (h : cs.toList = nums xs) (hm : xs.length ≤ 9223372036854775807) : Own (w.alloc (.cells cs 52)) w.heap.size (some ⟨w.heap.size, 0, none⟩) xs.length xs := by
  have hs : cs.size = xs.length := by rw [← Array.length_toList, h, nums_length]
  refine Own.mk (Nat.le_refl _) (heap_alloc_new w _) (Nat.le_refl _) hm hs ?_
  rw [h, List.take_of_length_le (by rw [nums_length]; exact Nat.le_refl _)]

end Go.Proofs.Ytnhgagfkepmanaa
