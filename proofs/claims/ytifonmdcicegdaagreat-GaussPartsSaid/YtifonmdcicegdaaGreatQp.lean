/- Texts of this claim, joined: Y6 Y7. -/
import Derived.Deep.RegionHeldLaw
import Derived.Deep.AppendLies
import Derived.Test.YtifonmdcicegdaaGreatQo
/- A region that draws its order, by an invariant; the state of a walk by slots. -/
namespace Go.Proofs.YtifonmdcicegdaaGreat
open Go Go.RowKit

/-- how many operations have not come up -/
def left_ (l : Array Bool) : Nat := l.toList.count false
theorem left_set {l : Array Bool} {i : Nat} (h : l.getD i true = false) : left_ (l.setIfInBounds i true) + 1 = left_ l := by
  have hi : i < l.size := by
    rcases Nat.lt_or_ge i l.size with h' | h'
    · exact h'
    · simp [Array.getElem?_eq_none h'] at h
  have hv : l.toList[i]'(by simpa using hi) = false := by simpa [hi] using h
  unfold left_
  rw [Array.toList_setIfInBounds, List.count_set (by simpa using hi)]
  have h1 : (l.toList[i]'(by simpa using hi) == false) = true := by rw [hv]; rfl
  have h2 : 0 < l.toList.count false := List.count_pos_iff.2 (hv ▸ List.getElem_mem (by simpa using hi))
  rw [hv]
  show l.toList.count false - (if (false == false) = true then 1 else 0) + (if (true == false) = true then 1 else 0) + 1 = l.toList.count false
  rw [if_pos (show (false == false) = true from rfl), if_neg (show ¬ (true == false) = true by decide)]
  omega
section
variable {P : Program} {ops : Array Oper} {Q : Exit → Act → World → Prop} {md : Region.Mode}
theorem ready_nil {l : Array Bool} (h : left_ l = 0) : Region.ready md ops l = [] := by
  rw [List.eq_nil_iff_forall_not_mem]
  intro i hi
  have h1 := left_set (mem_ready.1 hi).1
  omega
/-- AN INVARIANT OVER WHAT HAS COME UP -/
theorem wpAny_inv (J : Array Bool → Act → World → Prop) (hstep : ∀ l a w, J l a w → ∀ i, i ∈ Region.ready md ops l → wpOp P ops Q i (J (l.setIfInBounds i true)) a w) (hend : ∀ l a w, J l a w → Region.ready md ops l = [] → Q .normal a w) :
    ∀ (fuel : Nat) (l : Array Bool) (a : Act) (w : World), left_ l ≤ fuel → J l a w → wpAny P md ops Q fuel l a w
  | 0, l, a, w, hl, h => ⟨ready_nil (by omega), hend l a w h (ready_nil (by omega))⟩
  | fuel + 1, l, a, w, hl, h => ⟨hend l a w h, fun i hi => wpOp_mono (fun a' w' h' => wpAny_inv J hstep hend fuel _ a' w' (by have := left_set (mem_ready.1 hi).1; omega) h') (hstep l a w h i hi)⟩
theorem wpAnyH_inv' {S : World → Prop} (J : Array Bool → Act → World → Prop) (hstep : ∀ l a w, J l a w → ∀ i, i ∈ Region.ready md ops l → wpOp P ops Q i (fun a' w' => S w' ∧ J (l.setIfInBounds i true) a' w') a w) (hend : ∀ l a w, J l a w → Region.ready md ops l = [] → Q .normal a w) :
    ∀ (fuel : Nat) (l : Array Bool) (a : Act) (w : World), left_ l ≤ fuel → J l a w → wpAnyH P md ops Q S fuel l a w
  | 0, l, a, w, hl, h => ⟨ready_nil (by omega), hend l a w h (ready_nil (by omega))⟩
  | fuel + 1, l, a, w, hl, h => ⟨hend l a w h, fun i hi => wpOp_mono (fun a' w' h' => ⟨h'.1, wpAnyH_inv' J hstep hend fuel _ a' w' (by have := left_set (mem_ready.1 hi).1; omega) h'.2⟩) (hstep l a w h i hi)⟩
/-- .. from the state at hand on -/
theorem wpAnyH_inv {S : World → Prop} {fuel : Nat} {l0 : Array Bool} {a0 : Act} {w0 : World} (J : Act → Array Bool → Act → World → Prop) (hl : left_ l0 ≤ fuel) (h0 : J a0 l0 a0 w0)
    (hstep : ∀ l a w, J a0 l a w → ∀ i, i ∈ Region.ready md ops l → wpOp P ops Q i (fun a' w' => S w' ∧ J a0 (l.setIfInBounds i true) a' w') a w) (hend : ∀ l a w, J a0 l a w → Region.ready md ops l = [] → Q .normal a w) : wpAnyH P md ops Q S fuel l0 a0 w0 :=
  wpAnyH_inv' (J a0) hstep hend fuel l0 a0 w0 hl h0
theorem wp_region_inv {id : Nat} {a : Act} {w : World} (J : Array Bool → Act → World → Prop) (hm : P.follows .mixedOrders = true) (h0 : J (Array.replicate ops.size false) a w.drew)
    (hstep : ∀ l a w, J l a w → ∀ i, i ∈ Region.ready .any ops l → wpOp P ops Q i (J (l.setIfInBounds i true)) a w) (hend : ∀ l a w, J l a w → Region.ready .any ops l = [] → Q .normal a w) : (Code.region id ops true).wp P Q a w :=
  wp_region_any hm (wpAny_inv J hstep hend ops.size _ a _ (by unfold left_; simp) h0)
end

/-! ### the state by slots -/
def up {α : Type} (f : Nat → Option α) (i : Nat) (x : α) : Nat → Option α := fun j => if j = i then some x else f j
theorem up_get {α : Type} {f : Nat → Option α} {i j : Nat} {x y : α} (h : up f i x j = some y) : (j = i ∧ x = y) ∨ (j ≠ i ∧ f j = some y) := by
  unfold up at h
  by_cases e : j = i
  · rw [if_pos e] at h; exact .inl ⟨e, Option.some.inj h⟩
  · rw [if_neg e] at h; exact .inr ⟨e, h⟩
theorem up_same {α : Type} (f : Nat → Option α) (i : Nat) (x : α) : up f i x i = some x := if_pos rfl
theorem up_ne {α : Type} (f : Nat → Option α) {i j : Nat} (x : α) (h : j ≠ i) : up f i x j = f j := if_neg h
structure Stf (wb w0 : World) (row : Option Nat) (V : Nat → Option (Nat × List Value)) (R : Nat → Option (Adr × Fr)) (w : World) : Prop where
  v : ∀ (i k : Nat) (vs : List Value), V i = some (k, vs) → Var k vs w
  vn : ∀ (i j k : Nat) (vs us : List Value), V i = some (k, vs) → V j = some (k, us) → i = j
  vb : ∀ (i k : Nat) (vs : List Value), V i = some (k, vs) → w0.heap.size ≤ k ∨ row = some k
  vw : ∀ (i k : Nat) (vs : List Value), V i = some (k, vs) → wb.heap.size ≤ k
  r : ∀ (i : Nat) (p : Adr) (f : Fr), R i = some (p, f) → OF w w0.heap.size p f
  ro : ∀ (i : Nat) (p : Adr) (f : Fr) (j k : Nat) (vs : List Value), R i = some (p, f) → V j = some (k, vs) → p.Off k
  rd : ∀ (i j : Nat) (p : Adr) (f : Fr) (q : Adr) (g : Fr), i ≠ j → R i = some (p, f) → R j = some (q, g) → p.Dis q
  x : Below wb.heap.size wb w
  g : w0.grownBy w row
  hb : wb.heap.size ≤ w0.heap.size
section
variable {wb w0 w w' : World} {row : Option Nat} {V : Nat → Option (Nat × List Value)} {R : Nat → Option (Adr × Fr)}
theorem Sta.stf {V : List (Nat × List Value)} {R : List (Adr × Fr)} (S : Sta wb w0 row V R w) : Stf wb w0 row (fun i => V[i]?) (fun i => R[i]?) w :=
  ⟨S.v, S.vn, S.vb, S.vw, S.r, S.ro, fun i j p f q g h h1 h2 => by
    rcases Nat.lt_or_gt_of_ne h with h | h
    · exact S.rd i j p f q g h h1 h2
    · exact (S.rd j i q g p f h h2 h1).symm, S.x, S.g, S.hb⟩
theorem Stf.sta {L : List (Nat × List Value)} {M : List (Adr × Fr)} (S : Stf wb w0 row V R w) (hV : ∀ i, L[i]? = V i) (hR : ∀ i, M[i]? = R i) : Sta wb w0 row L M w :=
  ⟨fun i k vs h => S.v i k vs (hV i ▸ h), fun i j k vs us h h' => S.vn i j k vs us (hV i ▸ h) (hV j ▸ h'), fun i k vs h => S.vb i k vs (hV i ▸ h), fun i k vs h => S.vw i k vs (hV i ▸ h), fun i p f h => S.r i p f (hR i ▸ h), fun i p f j k vs h h' => S.ro i p f j k vs (hR i ▸ h) (hV j ▸ h'), fun i j p f q g h h1 h2 => S.rd i j p f q g (Nat.ne_of_lt h) (hR i ▸ h1) (hR j ▸ h2), S.x, S.g, S.hb⟩
theorem Stf.ext (S : Stf wb w0 row V R w) (x : Below w.heap.size w w') : Stf wb w0 row V R w' :=
  ⟨fun i k vs h => (S.v i k vs h).ext x, S.vn, S.vb, S.vw, fun i p f h => (S.r i p f h).ext x, S.ro, S.rd, Below.join S.x x, grown_ext S.g x, S.hb⟩
theorem Stf.new (S : Stf wb w0 row V R w) (n : Nat) (vs : List Value) (t : TypeId) : Stf wb w0 row (up V n (w.heap.size, vs)) R (w.alloc (.cells vs.toArray t)) := by
  have x := (Ext.refl w).alloc (.cells vs.toArray t)
  have hs := S.g.size
  refine ⟨fun i k us h => ?_, fun i j k us zs h h' => ?_, fun i k us h => ?_, fun i k us h => ?_, fun i p f h => (S.r i p f h).ext x, fun i p f j k us h h' => ?_, S.rd, Below.join S.x x, grown_ext S.g x, S.hb⟩
  · rcases up_get h with ⟨_, h⟩ | ⟨_, h⟩
    · cases h; exact Var.new w vs t
    · exact (S.v i k us h).ext x
  · rcases up_get h with ⟨e, h⟩ | ⟨_, h⟩ <;> rcases up_get h' with ⟨e', h'⟩ | ⟨_, h'⟩
    · omega
    · cases h; exact absurd (S.v j _ zs h').lt (Nat.lt_irrefl _)
    · cases h'; exact absurd (S.v i _ us h).lt (Nat.lt_irrefl _)
    · exact S.vn i j k us zs h h'
  · rcases up_get h with ⟨_, h⟩ | ⟨_, h⟩
    · cases h; exact .inl hs
    · exact S.vb i k us h
  · rcases up_get h with ⟨_, h⟩ | ⟨_, h⟩
    · cases h; exact Nat.le_trans S.hb hs
    · exact S.vw i k us h
  · rcases up_get h' with ⟨_, h'⟩ | ⟨_, h'⟩
    · cases h'; exact (S.r i p f h).offHi (Nat.le_refl _)
    · exact S.ro i p f j k us h h'
theorem Stf.row1 (S : Stf wb w0 row V R w) {i k : Nat} {vs us : List Value} (hi : V i = some (k, vs)) (g : w.grownBy w' (some k)) (y : Var k us w') : Stf wb w0 row (up V i (k, us)) R w' := by
  refine ⟨fun j l zs h => ?_, fun j m l zs ys h h' => ?_, fun j l zs h => ?_, fun j l zs h => ?_, fun j p f h => (S.r j p f h).kept g (S.ro j p f i k vs h hi), fun j p f m l zs h h' => ?_, S.rd, ?_, ?_, S.hb⟩
  · rcases up_get h with ⟨_, h⟩ | ⟨hj, h⟩
    · cases h; exact y
    · exact (S.v j l zs h).by1 g (fun e => hj (S.vn j i l zs vs h (by rw [e]; exact hi)))
  · rcases up_get h with ⟨e, h⟩ | ⟨hj, h⟩ <;> rcases up_get h' with ⟨e', h'⟩ | ⟨hm, h'⟩
    · omega
    · cases h; exact e ▸ S.vn i m k vs ys hi h'
    · cases h'; exact e' ▸ S.vn j i k zs vs h hi
    · exact S.vn j m l zs ys h h'
  · rcases up_get h with ⟨_, h⟩ | ⟨hj, h⟩
    · cases h; exact S.vb i k vs hi
    · exact S.vb j l zs h
  · rcases up_get h with ⟨_, h⟩ | ⟨hj, h⟩
    · cases h; exact S.vw i k vs hi
    · exact S.vw j l zs h
  · rcases up_get h' with ⟨_, h'⟩ | ⟨hj, h'⟩
    · cases h'; exact S.ro j p f i k vs h hi
    · exact S.ro j p f m l zs h h'
  · exact Ext.grown S.x g (fun e he => by cases he; exact S.vw i k vs hi)
  · rcases S.vb i k vs hi with h | h
    · exact ⟨g.os.trans S.g.os, g.tape.trans S.g.tape, g.output.trans S.g.output, Nat.le_trans S.g.size g.size, fun b hb hr => (g.block b (Nat.lt_of_lt_of_le hb S.g.size) (fun e => by cases e; omega)).trans (S.g.block b hb hr)⟩
    · subst h; exact grown_trans S.g g
theorem Stf.set6 (S : Stf wb w0 row V R w) {i k : Nat} {a b c d e f a' b' c' d' e' f' : Value} (hi : V i = some (k, [a, b, c, d, e, f])) : Stf wb w0 row (up V i (k, [a', b', c', d', e', f'])) R ((((((w.setCell ⟨k, 0, none⟩ a').setCell ⟨k, 1, none⟩ b').setCell ⟨k, 2, none⟩ c').setCell ⟨k, 3, none⟩ d').setCell ⟨k, 4, none⟩ e').setCell ⟨k, 5, none⟩ f') := by
  have v := S.v i k _ hi
  exact S.row1 hi (grown_trans (grown_trans (grown_trans (grown_trans (grown_trans (grown_setCell w ⟨k, 0, none⟩ a') (grown_setCell _ ⟨k, 1, none⟩ b')) (grown_setCell _ ⟨k, 2, none⟩ c')) (grown_setCell _ ⟨k, 3, none⟩ d')) (grown_setCell _ ⟨k, 4, none⟩ e')) (grown_setCell _ ⟨k, 5, none⟩ f'))
    ((((((v.set 0 a' (by simp)).set 1 b' (by simp)).set 2 c' (by simp)).set 3 d' (by simp)).set 4 e' (by simp)).set 5 f' (by simp))
theorem Stf.set3 (S : Stf wb w0 row V R w) {i k : Nat} {a b c a' b' c' : Value} (hi : V i = some (k, [a, b, c])) : Stf wb w0 row (up V i (k, [a', b', c'])) R (((w.setCell ⟨k, 0, none⟩ a').setCell ⟨k, 1, none⟩ b').setCell ⟨k, 2, none⟩ c') := by
  have v := S.v i k _ hi
  exact S.row1 hi (grown_trans (grown_trans (grown_setCell w ⟨k, 0, none⟩ a') (grown_setCell _ ⟨k, 1, none⟩ b')) (grown_setCell _ ⟨k, 2, none⟩ c')) (((v.set 0 a' (by simp)).set 1 b' (by simp)).set 2 c' (by simp))
/-- a row more, behind a call that began in w and may have written one of the blocks -/
theorem Stf.rowAt (S : Stf wb w0 row V R w) {V' : Nat → Option (Nat × List Value)} (T : Stf wb w0 row V' R w') (hV : ∀ (i k : Nat) (vs : List Value), V' i = some (k, vs) → k < w.heap.size) (n : Nat) {p : Adr} {f : Fr} (o : OF w' w.heap.size p f) : Stf wb w0 row V' (up R n (p, f)) w' := by
  refine ⟨T.v, T.vn, T.vb, T.vw, fun i q g h => ?_, fun i q g j k vs h h' => ?_, fun i j q g s h hij h1 h2 => ?_, T.x, T.g, T.hb⟩
  · rcases up_get h with ⟨_, h⟩ | ⟨_, h⟩
    · cases h; exact o.lower S.g.size
    · exact T.r i q g h
  · rcases up_get h with ⟨_, h⟩ | ⟨_, h⟩
    · cases h; exact o.offLo (hV j k vs h')
    · exact T.ro i q g j k vs h h'
  · rcases up_get h1 with ⟨e1, h1⟩ | ⟨_, h1⟩ <;> rcases up_get h2 with ⟨e2, h2⟩ | ⟨_, h2⟩
    · omega
    · cases h1; exact ((S.r j s h h2).dis o (Nat.le_refl _)).symm
    · cases h2; exact (S.r i q g h1).dis o (Nat.le_refl _)
    · exact T.rd i j q g s h hij h1 h2
theorem Stf.call (S : Stf wb w0 row V R w) (x : Below w.heap.size w w') (n : Nat) {p : Adr} {f : Fr} (o : OF w' w.heap.size p f) : Stf wb w0 row V (up R n (p, f)) w' :=
  S.rowAt (S.ext x) (fun i k vs h => (S.v i k vs h).lt) n o
/-- two rows more -/
theorem Stf.call2 (S : Stf wb w0 row V R w) (x : Below w.heap.size w w') (n m : Nat) {p q : Adr} {f g : Fr} (o : OF w' w.heap.size p f) (o' : OF w' w.heap.size q g) (d : p.Dis q) : Stf wb w0 row V (up (up R n (p, f)) m (q, g)) w' := by
  have T := S.call x n o
  refine ⟨T.v, T.vn, T.vb, T.vw, fun i s h hi => ?_, fun i s h j k vs hi h' => ?_, fun i j s h t u hij h1 h2 => ?_, T.x, T.g, T.hb⟩
  · rcases up_get hi with ⟨_, hi⟩ | ⟨_, hi⟩
    · cases hi; exact o'.lower S.g.size
    · exact T.r i s h hi
  · rcases up_get hi with ⟨_, hi⟩ | ⟨_, hi⟩
    · cases hi; exact o'.offLo (S.v j k vs h').lt
    · exact T.ro i s h j k vs hi h'
  · have D : ∀ {l : Nat} {s : Adr} {h : Fr}, l ≠ m → up R n (p, f) l = some (s, h) → s.Dis q := fun {l s h} _ hl => by
      rcases up_get hl with ⟨_, hl⟩ | ⟨_, hl⟩
      · cases hl; exact d
      · exact (S.r l s h hl).dis o' (Nat.le_refl _)
    rcases up_get h1 with ⟨e1, h1⟩ | ⟨e1, h1⟩ <;> rcases up_get h2 with ⟨e2, h2⟩ | ⟨e2, h2⟩
    · omega
    · cases h1; exact (D e2 h2).symm
    · cases h2; exact D e1 h1
    · exact T.rd i j s h t u hij h1 h2
end

/-- some slots laid over -/
def ov {α : Type} (f : Nat → Option α) : List (Nat × Option α) → Nat → Option α
  | [], x => f x
  | (i, o) :: l, x => if x = i then o else ov f l x
def repl {α : Type} : List (Nat × Option α) → Nat → α → List (Nat × Option α)
  | [], _, _ => []
  | (j, o) :: l, i, y => if j = i then (j, some y) :: l else (j, o) :: repl l i y
theorem up_ov {α : Type} {f : Nat → Option α} {y : α} {i : Nat} : ∀ {l : List (Nat × Option α)}, i ∈ l.map (·.1) → up (ov f l) i y = ov f (repl l i y)
  | [], h => by simp at h
  | (j, o) :: l, h => by
    funext x
    by_cases e : j = i
    · subst e
      simp only [repl, if_true, up, ov]
      by_cases hx : x = j <;> simp [hx]
    · have hi : i ∈ l.map (·.1) := by
        simp only [List.map_cons, List.mem_cons] at h
        exact h.resolve_left (fun h => e h.symm)
      have ih := congrFun (up_ov (f := f) (y := y) hi) x
      simp only [repl, if_neg e, ov]
      by_cases hx : x = j
      · subst hx; simp [up, e]
      · simp only [if_neg hx]
        rw [← ih]
        simp [up, hx]
section
variable {wb w0 w w' : World} {row : Option Nat} {V : Nat → Option (Nat × List Value)} {R : Nat → Option (Adr × Fr)} {l l' : List (Nat × Option (Nat × List Value))} {m m' : List (Nat × Option (Adr × Fr))}
theorem Stf.newo (S : Stf wb w0 row (ov V l) R w) (n : Nat) (vs : List Value) (t : TypeId) (hn : n ∈ l.map (·.1)) (h : repl l n (w.heap.size, vs) = l') : Stf wb w0 row (ov V l') R (w.alloc (.cells vs.toArray t)) := by
  have := S.new n vs t
  rw [up_ov hn, h] at this
  exact this
theorem Stf.set6o (S : Stf wb w0 row (ov V l) R w) {i k : Nat} {a b c d e f a' b' c' d' e' f' : Value} (hi : ov V l i = some (k, [a, b, c, d, e, f])) (hn : i ∈ l.map (·.1)) (h : repl l i (k, [a', b', c', d', e', f']) = l') : Stf wb w0 row (ov V l') R ((((((w.setCell ⟨k, 0, none⟩ a').setCell ⟨k, 1, none⟩ b').setCell ⟨k, 2, none⟩ c').setCell ⟨k, 3, none⟩ d').setCell ⟨k, 4, none⟩ e').setCell ⟨k, 5, none⟩ f') := by
  have := S.set6 (a' := a') (b' := b') (c' := c') (d' := d') (e' := e') (f' := f') hi
  rw [up_ov hn, h] at this
  exact this
theorem Stf.call2o (S : Stf wb w0 row V (ov R m) w) (x : Below w.heap.size w w') (i j : Nat) {p q : Adr} {f g : Fr} (o : OF w' w.heap.size p f) (o' : OF w' w.heap.size q g) (d : p.Dis q) (hi : i ∈ m.map (·.1)) (hj : j ∈ (repl m i (p, f)).map (·.1)) (h : repl (repl m i (p, f)) j (q, g) = m') : Stf wb w0 row V (ov R m') w' := by
  have := S.call2 x i j o o' d
  rw [up_ov hi, up_ov hj, h] at this
  exact this
end

theorem ov_open {α : Type} {f : Nat → Option α} : ∀ (l : List (Nat × Option α)), (∀ x ∈ l, x.2 = none ∧ f x.1 = none) → ov f l = f
  | [], _ => rfl
  | (i, o) :: l, h => by
    have ih := ov_open l (fun x hx => h x (List.mem_cons_of_mem _ hx))
    obtain ⟨h1, h2⟩ := h (i, o) List.mem_cons_self
    funext x
    simp only [ov, ih]
    by_cases e : x = i
    · rw [if_pos e, e]; exact h1.trans h2.symm
    · rw [if_neg e]
def en {α : Type} : Nat → List α → List (Nat × Option α)
  | _, [] => []
  | n, x :: xs => (n, some x) :: en (n + 1) xs
theorem ov_en {α : Type} (f : Nat → Option α) : ∀ (xs : List α) (n i : Nat), ov f (en n xs) i = if n ≤ i ∧ i < n + xs.length then xs[i - n]? else f i
  | [], n, i => by rw [if_neg (by simp only [List.length_nil]; omega)]; rfl
  | x :: xs, n, i => by
    simp only [en, ov, ov_en f xs (n + 1) i, List.length_cons]
    by_cases e : i = n
    · subst e; rw [if_pos rfl, if_pos (by omega)]; simp
    · rw [if_neg e]
      by_cases h : n + 1 ≤ i ∧ i < n + 1 + xs.length
      · rw [if_pos h, if_pos (by omega), show i - n = (i - (n + 1)) + 1 by omega, List.getElem?_cons_succ]
      · rw [if_neg h, if_neg (by omega)]
theorem ov_app {α : Type} {f : Nat → Option α} {V : List α} (h : ∀ i, f i = V[i]?) {n : Nat} (hn : V.length = n) (xs : List α) (i : Nat) : (V ++ xs)[i]? = ov f (en n xs) i := by
  subst hn
  rw [ov_en]
  by_cases hi : V.length ≤ i ∧ i < V.length + xs.length
  · rw [if_pos hi, List.getElem?_append_right hi.1]
  · rw [if_neg hi, h i]
    by_cases h2 : i < V.length
    · rw [List.getElem?_append_left h2]
    · rw [List.getElem?_append_right (by omega), List.getElem?_eq_none (by omega), List.getElem?_eq_none (by omega)]
section
variable {wb w0 w w' : World} {row : Option Nat} {V : List (Nat × List Value)} {R : List (Adr × Fr)}
theorem Sta.open2 (S : Sta wb w0 row V R w) : ∃ VF RF, Stf wb w0 row VF RF w ∧ (∀ i, VF i = V[i]?) ∧ (∀ i, RF i = R[i]?) := ⟨_, _, S.stf, fun _ => rfl, fun _ => rfl⟩
theorem Stf.close {VF : Nat → Option (Nat × List Value)} {RF : Nat → Option (Adr × Fr)} {xs : List (Nat × List Value)} {ys : List (Adr × Fr)} {n m : Nat} (S : Stf wb w0 row (ov VF (en n xs)) (ov RF (en m ys)) w) (hV : ∀ i, VF i = V[i]?) (hR : ∀ i, RF i = R[i]?) (hn : V.length = n) (hm : R.length = m) : Sta wb w0 row (V ++ xs) (R ++ ys) w :=
  S.sta (ov_app hV hn xs) (ov_app hR hm ys)
end

end Go.Proofs.YtifonmdcicegdaaGreat

/- ApartWords, ApartRatios: what they leave as it was. -/
namespace Go.Proofs.YtifonmdcicegdaaGreat
open Go Go.RowKit

/-- what lies below w0, and each block of w that is none of the rows', is as it was -/
structure ExtS (w0 w : World) (k : Nat) (P : Nat → Option Addr) (w' : World) : Prop where
  x : Ext w0 w'
  z : w.heap.size ≤ w'.heap.size
  s : ∀ b, b < w.heap.size → (∀ j, j < k → ∀ a, P j = some a → a.block ≠ b) → w'.heap[b]? = w.heap[b]?
theorem ExtS.start {w0 w w' : World} {k : Nat} {P : Nat → Option Addr} (h0 : Ext w0 w') (h : Ext w w') : ExtS w0 w k P w' := ⟨h0, h.size, fun b hb _ => (h.by_ none).block b hb (by simp)⟩
theorem ExtS.drewN {w0 w w' : World} {k : Nat} {P : Nat → Option Addr} (h : ExtS w0 w k P w') (n : Nat) : ExtS w0 w k P (w'.drewN n) := ⟨h.x.drewN n, Nat.le_trans h.z ((Ext.refl w').drewN n).size, fun b hb ho => ((((Ext.refl w').drewN n).by_ none).block b (Nat.lt_of_lt_of_le hb h.z) (by simp)).trans (h.s b hb ho)⟩
theorem ExtS.grown {w0 w w' w2 : World} {k m : Nat} {P : Nat → Option Addr} (h : ExtS w0 w k P w') (hm : m < k) (g : w'.grownBy w2 ((P m).map (·.block))) (hr : ∀ b, (P m).map (·.block) = some b → w0.heap.size ≤ b) : ExtS w0 w k P w2 :=
  ⟨h.x.grown g hr, Nat.le_trans h.z g.size, fun b hb ho => (g.block b (Nat.lt_of_lt_of_le hb h.z) (fun e => by
    cases hp : P m with
    | none => rw [hp] at e; cases e
    | some a => rw [hp] at e; injection e with e; exact ho m hm a hp e.symm)).trans (h.s b hb ho)⟩
theorem ExtS.up {w0 w v w' : World} {k : Nat} {P : Nat → Option Addr} (h : ExtS w0 v k P w') (x : Ext w v) : ExtS w0 w k P w' := ⟨h.x, Nat.le_trans x.size h.z, fun b hb ho => (h.s b (Nat.lt_of_lt_of_le hb x.size) ho).trans ((x.by_ none).block b hb (by simp))⟩

set_option maxHeartbeats 2000000 in
theorem kapartW_s (w0 w : World) (k gb cb : Nat) (P : Nat → Option Addr) (C : Nat → Nat) (X : Nat → List Int) (hR : Rows w0.heap.size k gb P C X X w) (h0 : Ext w0 w) (hk : k ≤ 1000000) (hcb : k ≤ cb) (hcm : cb ≤ 9223372036854775807) (hgb : gb < w.heap.size)
    (hne : ∀ j, j < k → ∀ a, P j = some a → a.block ≠ gb) (hap : ∀ i j, i < k → j < k → i ≠ j → ∀ a b, P i = some a → P j = some b → a.block ≠ b.block) (hX : ∀ j, j < k → (X j).length ≤ 1000000 ∧ Wf (X j)) :
    Calls Tryz.prog 162 #[.slice (some ⟨gb, 0, none⟩) k cb] w fun e w' => e = .returned (.bool true) ∧ ExtS w0 w k P w' := by
  have HR := Lib.hid hR
  have H0 := Lib.hid h0
  have HG := Lib.hid hgb
  have HN := Lib.hid hne
  have HAP := Lib.hid hap
  have HXX := Lib.hid hX
  clear hR h0 hgb hne hap hX
  obtain ⟨i0, hi, hz0, hz1, hz2⟩ := info_parts info_words
  go_enter Tryz.func162, Tryz.ntmps162
  go_wp2_with (at_make; refine wpList_make_full w rfl _ _ 148 rfl w.heap.size 22 i0 (.slice none 0 0) 1 Tryz.underlying148 hi hz0 hz1 .i64 .i64 _ _ k rfl rfl rfl rfl (by rw [hz2]; omega) (by unfold maxLen; omega) (Nat.le_refl _) ?_; intro w1 hO hG)
  obtain ⟨gw, hgw⟩ : ∃ gw, gw = w.heap.size := ⟨_, rfl⟩
  obtain ⟨vs0, hvs⟩ : ∃ vs0, vs0 = (madeCells (Value.slice none 0 0).cells (k * 1)).toList := ⟨_, rfl⟩
  rw [← hvs] at hO
  rw [← hgw] at hO ⊢
  have HX1 := Lib.hid ((Ext.refl w).grownNone hG)
  have HO1 := Lib.hid hO
  have HGW := Lib.hid hgw
  have hcell : w1.heap.size > gw := by
    rcases hO.2 with ⟨h', _⟩ | ⟨g', cap', cur, h', hb, hg, _⟩
    · simp at h'
    · simp at h'
      rw [h'.1]
      exact (Array.getElem?_eq_some_iff.1 hg).1
  have HGWL := Lib.hid hcell
  clear hO hG hvs hgw hz0 hz1 hz2 hi hcell
  go_loopw [4] (fun s wr => ∃ (i : Nat) (vs : List Value) (Q : Nat → Option Addr) (D : Nat → Nat), i ≤ k ∧ s = .int .i64 i ∧ Hid (wr.ownsRow gw 22 1 (.slice (some ⟨gw, 0, none⟩) k k) k vs) ∧ Hid (∀ j, j < i → vs[j]? = some (.slice (Q j) (X j).length (D j))) ∧ Hid (∀ j, j < i → Own wr w1.heap.size (Q j) (D j) (X j)) ∧ Hid (Ext w wr) ∧ Hid (w1.heap.size ≤ wr.heap.size)) (fun s _ => k - (intOf s).toNat)
  case atStart => exact ⟨0, vs0, fun _ => none, fun _ => 0, by omega, rfl, HO1.out, fun j hj => by omega, fun j hj => by omega, HX1.out, Nat.le_refl _⟩
  case round =>
    obtain ⟨i, vs, Q, D, hik, rfl, HV, HVE, HQ, HX, HS⟩ := hrel
    by_cases hi : i < k
    · have hidx := HX.out.cell (HR.out.idx i hi)
      have HCP := Lib.hid (kcopy_any (P i) (X i) (C i) (X i).length wr ((HR.out.row i hi).rd.ext HX.out) rfl (by have := (HXX.out i hi).1; omega))
      go_wp2_with fail
      refine HCP.out.mono ?_; rintro e w2 ⟨A2, c2, rfl, h2, hx2⟩
      have HV2 := Lib.hid (HV.out.kept (hx2.by_ none) (.inr (by simp [Value.ownBlock])))
      obtain ⟨u, hu⟩ : ∃ u, vs[i]? = some u := by
        have : vs.length = k := by have := HV.out.1; omega
        exact ⟨_, List.getElem?_eq_getElem (by omega)⟩
      have hco : w2.cell? ⟨gw, i, none⟩ = some u := (HV2.out.cellAt i (by omega)).trans hu
      have hfo := HV2.out.frozenAt i
      have HX2 := Lib.hid (HX.out.trans hx2)
      have H2 := Lib.hid h2
      have HXX2 := Lib.hid hx2
      have hz2 := Lib.hid hx2.size
      have hul := Lib.hid (show i < vs.length by have := HV.out.1; omega)
      clear h2 hx2 hu
      go_wp2_with fail
      have hgw2 := HGW.out
      have hgl2 := HGWL.out
      go_roundw
      case rel => exact ⟨i + 1, vs.set i (.slice A2 (X i).length c2), fun j => if j = i then A2 else Q j, fun j => if j = i then c2 else D j, by omega, by go_num, (HV2.out.stored i _).1, fun j hj => by
          by_cases e : j = i
          · subst e; simp [hul.out]
          · simp only [if_neg e]; rw [List.getElem?_set_ne (by omega)]; exact HVE.out j (by omega), fun j hj => by
          by_cases e : j = i
          · subst e; simp only; exact (H2.out.lower HS.out).setBelow (by simpa using hgl2) _
          · simp only [if_neg e]; exact ((HQ.out j (by omega)).ext HXX2.out).setBelow (by simpa using hgl2) _, HX2.out.setCell (by simp only; omega) _, by
          have h1 := HS.out
          have h2 := hz2.out
          show _ ≤ _
          simp
          omega⟩
      case measure => simp [intOf]; omega
    · obtain rfl : i = k := by omega
      clear hi hik HX1 HO1
      have HRA := Lib.hid (HR.out.ext HX.out)
      have HRB : Hid (Rows w1.heap.size i gw Q D X X wr) := ⟨fun j hj => (HV.out.cellAt j (by omega)).trans (HVE.out j hj), HQ.out⟩
      have H0A := Lib.hid (ExtS.start (k := i) (P := P) (H0.out.trans HX.out) HX.out)
      have HPB := Lib.hid (show ∀ j, j < i → ∀ a, P j = some a → w0.heap.size ≤ a.block ∧ a.block < w.heap.size from fun j hj a ha => by have := HR.out.row j hj; rw [ha] at this; exact this.block)
      have HQB := Lib.hid (show ∀ j, j < i → ∀ a, Q j = some a → w1.heap.size ≤ a.block from fun j hj a ha => by have := HQ.out j hj; rw [ha] at this; exact this.block.1)
      clear HV HVE HQ HX HS HR H0
      go_wp2_with fail
      go_loopw [5] (fun s w' => ∃ (m : Nat) (Z : Nat → List Int), m ≤ i ∧ s = .int .i64 m ∧ Hid (Rows w0.heap.size i gb P C X Z w') ∧ Hid (Rows w1.heap.size i gw Q D X X w') ∧ Hid (∀ j, j < m → (X j).length ≤ (Z j).length ∧ ∀ t, t < (X j).length → nth (Z j) t = nt (nth (X j) t)) ∧ Hid (∀ j, m ≤ j → j < i → Z j = X j) ∧ Hid (ExtS w0 w i P w')) (fun s _ => i - (intOf s).toNat)
      case atStart => exact ⟨0, X, by omega, rfl, HRA.out, HRB.out, fun j hj => by omega, fun _ _ _ => rfl, H0A.out⟩
      case round =>
        clear HRA HRB H0A
        obtain ⟨m, Z, hmi, rfl, HRA, HRB, HE, HF, HX⟩ := hrel
        by_cases hm : m < i
        · have hci := HRA.out.idx m hm
          have hcw := HRB.out.idx m hm
          have hzm := HF.out m (Nat.le_refl _) hm
          have hom := HRA.out.row m hm
          rw [hzm] at hom
          have HOM := Lib.hid hom
          have HSM := Lib.hid (fun q => ksame_any (P m) (Q m) (X m) (X m) (C m) (D m) (X m).length (wr.drewN q) (HOM.out.drewN q).rd ((HRB.out.row m hm).drewN q).rd rfl (X m).length rfl true (decide_eq_true rfl))
          clear hzm hom
          go_wp2_with fail
          go_quiet ((go_at_call 160; exact Calls.quiet_of (HSM.out _)))
          go_wp2_with fail
          refine (kover_any (P m) (X m) w0.heap.size (C m) (X m).length _ (HOM.out.drewN _) rfl (HXX.out m hm).2).mono ?_; rintro e w2 ⟨zs, rfl, h1, h2, h3, h4⟩
          have HRA2 := Lib.hid ((HRA.out.ext ((Ext.refl wr).drewN nq)).turn m zs h1 h4 HN.out hm (fun j hj hne => HAP.out j m hj hm hne))
          have hgw2 := HGW.out
          have hgl2 := HGWL.out
          have HRB2 := Lib.hid ((HRB.out.ext ((Ext.refl wr).drewN nq)).kept h4 (fun e => by
            cases hp : P m with
            | none => rw [hp] at e; cases e
            | some b => rw [hp] at e; injection e with e; have h5 := (HPB.out m hm b hp).2; simp only at e; omega) (fun j hj a ha e => by
            cases hp : P m with
            | none => rw [hp] at e; cases e
            | some b => rw [hp] at e; injection e with e; have h5 := (HPB.out m hm b hp).2; have h6 := HQB.out j hj a ha; simp only at e; omega))
          have HX2 := Lib.hid ((HX.out.drewN nq).grown hm h4 (fun k hk => by
            cases hp : P m with
            | none => rw [hp] at hk; cases hk
            | some b => rw [hp] at hk; injection hk with hk; have h5 := (HPB.out m hm b hp).1; simp only at hk; omega))
          have HE2 := Lib.hid (show ∀ j, j < m + 1 → (X j).length ≤ (if j = m then zs else Z j).length ∧ ∀ t, t < (X j).length → nth (if j = m then zs else Z j) t = nt (nth (X j) t) from fun j hj => by
            by_cases e : j = m
            · subst e; simp only [if_true]; exact ⟨h2, h3⟩
            · simp only [if_neg e]; exact HE.out j (by omega))
          have HF2 := Lib.hid (show ∀ j, m + 1 ≤ j → j < i → (if j = m then zs else Z j) = X j from fun j hj1 hj2 => by
            rw [if_neg (by omega)]; exact HF.out j (by omega) hj2)
          clear h1 h2 h3 h4 hgw2 hgl2
          go_wp2_with fail
          go_roundw
          case rel => exact ⟨m + 1, fun j => if j = m then zs else Z j, by omega, by go_num, HRA2.out, HRB2.out, HE2.out, HF2.out, HX2.out⟩
          case measure => simp [intOf]; omega
        · obtain rfl : m = i := by omega
          clear hm hmi HF
          go_wp2_with fail
          go_loopw [6] (fun s wt => ∃ (n : Nat), n ≤ m ∧ s = .int .i64 n ∧ Hid (Rows w0.heap.size m gb P C X Z wt) ∧ Hid (Rows w1.heap.size m gw Q D X X wt) ∧ Hid (ExtS w0 w m P wt)) (fun s _ => m - (intOf s).toNat)
          case atStart => exact ⟨0, by omega, rfl, HRA.out, HRB.out, HX.out⟩
          case round =>
            clear HRA HRB HX
            obtain ⟨n, hnm, rfl, HRA, HRB, HX⟩ := hrel
            by_cases hn : n < m
            · have hlen : ((X n).length : Int) ≤ 1000000 := by have := (HXX.out n hn).1; omega
              go_wp2_with fail
              go_loopw [7] (fun s wt => ∃ (t : Nat), t ≤ (X n).length ∧ s = .int .i64 t ∧ Hid (Rows w0.heap.size m gb P C X Z wt) ∧ Hid (Rows w1.heap.size m gw Q D X X wt) ∧ Hid (ExtS w0 w m P wt)) (fun s _ => (X n).length - (intOf s).toNat)
              case atStart => exact ⟨0, by omega, rfl, HRA.out, HRB.out, HX.out⟩
              case round =>
                clear HRA HRB HX
                obtain ⟨t, htn, rfl, HRA, HRB, HX⟩ := hrel
                have hci := HRA.out.idx n hn
                by_cases ht : t < (X n).length
                · have hcw := HRB.out.idx n hn
                  obtain ⟨a, hpa, hca⟩ := (HRA.out.row n hn).rd.at_ t (by have := (HE.out n hn).1; omega)
                  obtain ⟨b, hqb, hcb'⟩ := (HRB.out.row n hn).rd.at_ t ht
                  rw [(HE.out n hn).2 t ht] at hca
                  rw [hpa] at hci
                  rw [hqb] at hcw
                  have hbn : (nt (nth (X n) t) != bits .xor .u32 (if IntKind.u32.signed = true then -1 else IntKind.u32.max) (nth (X n) t)) = false := bne_eq_false_iff_eq.2 rfl
                  clear hpa hqb
                  go_wp2_with fail
                  go_quiet (fail)
                  go_wp2_with fail
                  go_roundw
                  case rel => exact ⟨t + 1, by omega, by go_num, HRA.out.ext ((Ext.refl _).drewN nq), HRB.out.ext ((Ext.refl _).drewN nq), HX.out.drewN nq⟩
                  case measure => simp [intOf]; omega
                · obtain rfl : t = (X n).length := by omega
                  go_wp2_with fail
                  go_roundw
                  case rel => exact ⟨n + 1, by omega, by go_num, HRA.out, HRB.out, HX.out⟩
                  case measure => simp [intOf]; omega
            · obtain rfl : n = m := by omega
              go_wp2_with fail
              go_ret
              exact ⟨rfl, HX.out⟩


set_option maxHeartbeats 1000000 in
theorem kapartR_s (w0 w : World) (gr o n c : Nat) (P : Nat → Option Addr) (C : Nat → Nat) (X : Nat → List Int) (h : Sides gr o n P C (fun j => (X j).length) w) (h0 : Ext w0 w) (hn : 0 < n) (hn2 : n ≤ 10000)
    (hrow : ∀ j, j < 2 * n → Own w w0.heap.size (P j) (C j) (X j))
    (hap : ∀ i j, i < 2 * n → j < 2 * n → i ≠ j → ∀ a b, P i = some a → P j = some b → a.block ≠ b.block) (hX : ∀ j, j < 2 * n → (X j).length ≤ 1000000 ∧ Wf (X j)) :
    Calls Tryz.prog 37 #[.slice (some ⟨gr, o, none⟩) n c] w fun e w' => e = .returned (.bool true) ∧ ExtS w0 w (2 * n) P w' := by
  have H := Lib.hid h
  have H0 := Lib.hid h0
  have HR := Lib.hid hrow
  have HAP := Lib.hid hap
  have HX := Lib.hid hX
  clear h h0 hrow hap hX
  obtain ⟨i0, hi, hz0, hz1, hz2⟩ := info_parts info_words
  have HI := Lib.hid hi
  have HI0 := Lib.hid hz0
  have HI1 := Lib.hid hz1
  have HI2 := Lib.hid hz2
  clear hi hz0 hz1 hz2
  go_enter Tryz.func37, Tryz.ntmps37
  go_wp2_with fail
  go_loopw [3, 4] (fun s t wr => ∃ (i : Nat) (v : Value) (vs : List Value), i ≤ n ∧ v = s ∧ t = .int .i64 i ∧ Hid (wr.ownsRow w.heap.size 22 1 v (2 * i) vs) ∧ Hid (∀ j, j < 2 * i → vs[j]? = some (.slice (P j) (X j).length (C j))) ∧ Hid (Ext w wr)) (fun _ t _ => n - (intOf t).toNat)
  case atStart => exact ⟨0, .slice none 0 0, [], by omega, rfl, rfl, World.ownsRow_nil w _ _ 1, fun j hj => by omega, Ext.refl w⟩
  case round =>
    obtain ⟨i, v, vs, hi, rfl, rfl, HV, HE, HW⟩ := hrel
    by_cases hin : i < n
    · have h1 := (H.out.ext HW.out).num i hin
      have h2 := (H.out.ext HW.out).den i hin
      have HVX := Lib.hid (fun wx (hx : Ext wr wx) => ownsRow_ext HV.out hx)
      have HGE := Lib.hid (ownsRow_ge HV.out)
      have HGR := Lib.hid (World.block_lt_of_cell? w _ (H.out.num i hin))
      have HWS := Lib.hid HW.out.size
      have hnn := Lib.hid (show ∀ r : Option Nat, (∀ b, r = some b → w.heap.size ≤ b) → some gr ≠ r from fun r hr e => by have h3 := hr gr e.symm; have h4 := HGR.out; simp only at h4; omega)
      go_wp2_with fail
      go_region_held_law (fun w' => w'.cell? ⟨gr, o + i * 3 + 1, none⟩ = some (.slice (P (2 * i)) (X (2 * i)).length (C (2 * i))) ∧ w'.cell? ⟨gr, o + i * 3 + 2, none⟩ = some (.slice (P (2 * i + 1)) (X (2 * i + 1)).length (C (2 * i + 1)))) (first | go_keep | exact ⟨k1, k2⟩)
        (first | (refine step_append_lies _ rfl _ _ 148 rfl w.heap.size 22 i0 (.slice none 0 0) 1 24 Tryz.underlying148 HI.out HI0.out HI1.out HI2.out rfl (by decide) v (2 * i) vs rfl (HVX.out _ ((Ext.refl wr).alloc _).drew) _ 2 _ [.slice (P (2 * i)) (X (2 * i)).length (C (2 * i)), .slice (P (2 * i + 1)) (X (2 * i + 1)).length (C (2 * i + 1))] rfl rfl (two_cells wr _ _ _) (by intro u hu; simp at hu; rcases hu with rfl | rfl <;> rfl) (by decide) (by unfold maxLen; omega) (by omega) (by have := HWS.out; simp; omega) _ rfl ?_; intro g cap w2 hown hgrow hat hlt; have k1 : w2.cell? ⟨gr, o + i * 3 + 1, none⟩ = some (.slice (P (2 * i)) (X (2 * i)).length (C (2 * i))) := cell_kept' hgrow (((Ext.refl wr).alloc _).drew.cell h1) (hnn.out _ HGE.out); have k2 : w2.cell? ⟨gr, o + i * 3 + 2, none⟩ = some (.slice (P (2 * i + 1)) (X (2 * i + 1)).length (C (2 * i + 1))) := cell_kept' hgrow (((Ext.refl wr).alloc _).drew.cell h2) (hnn.out _ HGE.out)))
      all_goals
        have HO2 := Lib.hid (show w2.ownsRow w.heap.size 22 1 (.slice (some ⟨g, 0, none⟩) (2 * i + 2) cap) (2 * (i + 1)) _ from hown)
        have HX2 := Lib.hid ((HW.out.alloc _).drew.grown hgrow HGE.out)
        have hvl := Lib.hid (show vs.length = 2 * i by have := HV.out.1; omega)
        have HE2 := Lib.hid (show ∀ j, j < 2 * (i + 1) → (vs ++ [.slice (P (2 * i)) (X (2 * i)).length (C (2 * i)), .slice (P (2 * i + 1)) (X (2 * i + 1)).length (C (2 * i + 1))] : List Value)[j]? = some (.slice (P j) (X j).length (C j)) from fun j hj => by
          have hl := hvl.out
          by_cases e : j < 2 * i
          · rw [List.getElem?_append_left (by omega)]; exact HE.out j e
          · rw [List.getElem?_append_right (by omega), hl]
            by_cases e1 : j = 2 * i
            · subst e1; simp
            · obtain rfl : j = 2 * i + 1 := by omega
              rw [show 2 * i + 1 - 2 * i = 1 by omega]; rfl)
        clear hown hgrow hat hlt k1 k2
        go_wp2_with fail
        go_roundw
        case rel => exact ⟨i + 1, .slice (some ⟨g, 0, none⟩) (2 * i + 2) cap, _, by omega, rfl, by go_num, HO2.out, HE2.out, HX2.out⟩
        case measure => simp [intOf]; omega
    · obtain rfl : i = n := by omega
      have hvc : ∃ g cap, v = .slice (some ⟨g, 0, none⟩) (2 * i) cap ∧ w.heap.size ≤ g ∧ g < wr.heap.size ∧ 2 * i ≤ cap ∧ cap ≤ 9223372036854775807 := by
        rcases HV.out.2 with ⟨_, h2⟩ | ⟨g, cap, cur, h1, h2, h3, h4, h5, _⟩
        · omega
        · exact ⟨g, cap, h1, h2, (Array.getElem?_eq_some_iff.1 h3).1, h4, by simp only [maxLen] at h5; omega⟩
      obtain ⟨g, cap, rfl, hg1, hg2, hg3, hg4⟩ := hvc
      have HRW : Hid (Rows w0.heap.size (2 * i) g P C X X wr) := ⟨fun j hj => (HV.out.cellAt j (by omega)).trans (HE.out j hj), fun j hj => (HR.out j hj).ext HW.out⟩
      have HNE : Hid (∀ j, j < 2 * i → ∀ a, P j = some a → a.block ≠ g) := fun j hj a ha e => by
        have h1 := HR.out j hj
        rw [ha] at h1
        have := h1.block.2
        omega
      have HCA := Lib.hid (kapartW_s w0 wr (2 * i) g cap P C X HRW.out (H0.out.trans HW.out) (by omega) hg3 hg4 hg2 HNE.out HAP.out HX.out)
      clear HV HE
      go_wp2_with fail
      refine HCA.out.mono ?_; rintro e w3 ⟨rfl, hx⟩
      have HX3 := Lib.hid hx
      clear hx
      go_wp2_with fail
      go_ret
      exact ⟨rfl, HX3.out.up HW.out⟩

theorem kApartS (L : List (Adr × Fr)) (g c : Nat) (w0 w : World) (hc : CellsAt g L w) (hr : ∀ (i : Nat) (p : Adr) (f : Fr), L[i]? = some (p, f) → OF w w0.heap.size p f ∧ Few f)
    (hd : ∀ (i j : Nat) (p : Adr) (f : Fr) (q : Adr) (h : Fr), i ≠ j → L[i]? = some (p, f) → L[j]? = some (q, h) → p.Dis q) (h0 : Below w0.heap.size w0 w) (hn : 0 < L.length) (hn2 : L.length ≤ 10000) (n : Nat) (hl : L.length = n) :
    Calls Tryz.prog 37 #[.slice (some ⟨g, 0, none⟩) n c] w fun e w' => e = .returned (.bool true) ∧ Below w0.heap.size w0 w' ∧ w.heap.size ≤ w'.heap.size ∧ ∀ b o, b < w.heap.size → (∀ (i : Nat) (p : Adr) (f : Fr), L[i]? = some (p, f) → p.Off b) → w'.cell? ⟨b, o, none⟩ = w.cell? ⟨b, o, none⟩ := by
  subst hl
  have at_ : ∀ i, i < L.length → ∃ p f, L[i]? = some (p, f) := fun i hi => ⟨_, _, List.getElem?_eq_getElem hi⟩
  have par : ∀ j, j < 2 * L.length → ∃ i p f, L[i]? = some (p, f) ∧ (j = 2 * i ∨ j = 2 * i + 1) := fun j hj => by
    obtain ⟨p, f, h⟩ := at_ (j / 2) (by omega)
    exact ⟨j / 2, p, f, h, by omega⟩
  refine (kapartR_s w0 w g 0 L.length c (rowA L) (rowC L) (rowX L) ⟨fun j hj => ?_, fun j hj => ?_⟩ h0 hn hn2 (fun j hj => ?_) (fun i j hi hj hij a b ha hb => ?_) (fun j hj => ?_)).mono (fun e w' h => ⟨h.1, h.2.x, h.2.z, fun b o hb hO => World.cell?_of_block (a := ⟨b, o, none⟩) (h.2.s b hb (fun j hj a ha => ?_))⟩)
  · obtain ⟨p, f, h⟩ := at_ j hj
    obtain ⟨e1, e2, e3⟩ := row_even h
    rw [e1, e2, e3, Nat.zero_add]
    exact hc _ _ (cellsF_at L j p f h).2.1
  · obtain ⟨p, f, h⟩ := at_ j hj
    obtain ⟨e1, e2, e3⟩ := row_odd h
    rw [e1, e2, e3, Nat.zero_add]
    exact hc _ _ (cellsF_at L j p f h).2.2
  · obtain ⟨i, p, f, h, rfl | rfl⟩ := par j hj
    · obtain ⟨e1, e2, e3⟩ := row_even h
      rw [e1, e2, e3]; exact (hr i p f h).1.num
    · obtain ⟨e1, e2, e3⟩ := row_odd h
      rw [e1, e2, e3]; exact (hr i p f h).1.den
  · obtain ⟨k, p, f, h, ek⟩ := par i hi
    obtain ⟨l, q, t, h', el⟩ := par j hj
    obtain ⟨a1, _, _⟩ := row_even h
    obtain ⟨a2, _, _⟩ := row_odd h
    obtain ⟨b1, _, _⟩ := row_even h'
    obtain ⟨b2, _, _⟩ := row_odd h'
    by_cases e : k = l
    · subst e
      rw [h] at h'
      cases h'
      have ap := (hr k p f h).1.ap
      rcases ek with rfl | rfl <;> rcases el with rfl | rfl
      · exact absurd rfl hij
      · rw [a1] at ha; rw [b2] at hb; exact ap a b ha hb
      · rw [a2] at ha; rw [b1] at hb; exact (ap b a hb ha).symm
      · exact absurd rfl hij
    · have D := hd k l p f q t e h h'
      rcases ek with rfl | rfl <;> rcases el with rfl | rfl
      · rw [a1] at ha; rw [b1] at hb; exact D.aa a b ha hb
      · rw [a1] at ha; rw [b2] at hb; exact D.ab a b ha hb
      · rw [a2] at ha; rw [b1] at hb; exact D.ba a b ha hb
      · rw [a2] at ha; rw [b2] at hb; exact D.bb a b ha hb
  · obtain ⟨i, p, f, h, rfl | rfl⟩ := par j hj
    · obtain ⟨e1, e2, e3⟩ := row_even h
      rw [e3]; exact ⟨(hr i p f h).2.1, (hr i p f h).1.wf.num⟩
    · obtain ⟨e1, e2, e3⟩ := row_odd h
      rw [e3]; exact ⟨(hr i p f h).2.2, (hr i p f h).1.wf.den⟩
  · obtain ⟨i, p, f, h, rfl | rfl⟩ := par j hj
    · obtain ⟨e1, e2, e3⟩ := row_even h
      rw [e1] at ha; exact (hO i p f h).1 a ha
    · obtain ⟨e1, e2, e3⟩ := row_odd h
      rw [e1] at ha; exact (hO i p f h).2 a ha

/-- a region's condition: the blocks of W that O tells of are as they were -/
abbrev Sko (O : Nat → Bool) (W w : World) : Prop := (∀ b o, b < W.heap.size → O b = true → w.cell? ⟨b, o, none⟩ = W.cell? ⟨b, o, none⟩) ∧ W.heap.size ≤ w.heap.size
theorem Sko.of {O : Nat → Bool} {W w : World} (h : Skz W w) : Sko O W w := ⟨fun b o hb _ => h.1 b o hb, h.2⟩
theorem Sko.apart {O : Nat → Bool} {W w w' : World} {L : List (Adr × Fr)} (h : Sko O W w) (hO : ∀ b, O b = true → ∀ (i : Nat) (p : Adr) (f : Fr), L[i]? = some (p, f) → p.Off b) (hz : w.heap.size ≤ w'.heap.size) (k : ∀ b o, b < w.heap.size → (∀ (i : Nat) (p : Adr) (f : Fr), L[i]? = some (p, f) → p.Off b) → w'.cell? ⟨b, o, none⟩ = w.cell? ⟨b, o, none⟩) : Sko O W w' :=
  ⟨fun b o hb ho => (k b o (Nat.lt_of_lt_of_le hb h.2) (hO b ho)).trans (h.1 b o hb ho), Nat.le_trans h.2 hz⟩
theorem Sta.off {wb w0 w : World} {row : Option Nat} {V : List (Nat × List Value)} {R : List (Adr × Fr)} (S : Sta wb w0 row V R w) {I : List Nat} (hI : ∀ i ∈ I, i < R.length) (k : Nat) {g : Nat} {vs : List Value} (hk : V[k]? = some (g, vs)) (i : Nat) (p : Adr) (f : Fr) (h1 : (pick R I)[i]? = some (p, f)) : p.Off g := by
  obtain ⟨a, _, h3⟩ := pick_at I i _ hI h1
  exact S.ro a p f k g vs h3 hk
theorem cellsAt_new (X : World) (L : List (Adr × Fr)) (cs : List Value) (t : TypeId) (hcs : cs = cellsF L) : CellsAt X.heap.size L (X.alloc (.cells cs.toArray t)) := by subst hcs; exact (Var.new X (cellsF L) t).cellsAt
/-- the goal is a step of a region at an append: so that a law for it is tried there alone -/
theorem at_app {P : Program} {y : Nat → Option Bool} {dst : Option Tmp} {xs : Array Operand} {ts : Array TypeId} {ty : TypeId} {pos : String} {aft : Array Edge} {gd : Option (Nat × Bool)} {a : Act} {w : World} {K : Act → World → Prop} {Q : Exit → Act → World → Prop} {E : Prop}
    (h : if Region.wanted ⟨dst, .call { callee := .builtin .append, args := xs, argTypes := ts }, ty, pos, aft, gd⟩ y = true then Oper.wp P ⟨dst, .call { callee := .builtin .append, args := xs, argTypes := ts }, ty, pos, aft, gd⟩ a w K Q else E) : if Region.wanted ⟨dst, .call { callee := .builtin .append, args := xs, argTypes := ts }, ty, pos, aft, gd⟩ y = true then Oper.wp P ⟨dst, .call { callee := .builtin .append, args := xs, argTypes := ts }, ty, pos, aft, gd⟩ a w K Q else E := h
theorem cellsAt_new' {X : World} {L : List (Adr × Fr)} {cs : List Value} {t : TypeId} {g : Nat} (hg : g = X.heap.size) (hcs : cs = cellsF L) : CellsAt g L (X.alloc (.cells cs.toArray t)) := by subst hg; exact cellsAt_new X L cs t hcs
theorem ownsRow_lower {w : World} {base base' : Nat} {e : TypeId} {size n : Nat} {v : Value} {vs : List Value} (h : w.ownsRow base e size v n vs) (hb : base' ≤ base) : w.ownsRow base' e size v n vs :=
  ⟨h.1, h.2.imp id (fun ⟨g, cap, cur, h1, h2, h3⟩ => ⟨g, cap, cur, h1, by omega, h3⟩)⟩
theorem cellsAt_row {w : World} {base : Nat} {e : TypeId} {n g cap : Nat} {L : List (Adr × Fr)} (h : w.ownsRow base e 3 (.slice (some ⟨g, 0, none⟩) n cap) n (cellsF L)) : CellsAt g L w := fun j u hu => by
  have hj : j < (cellsF L).length := (List.getElem?_eq_some_iff.1 hu).1
  exact (h.cellAt j (by have := h.1; omega)).trans hu
theorem CellsAt.drew {g : Nat} {L : List (Adr × Fr)} {w : World} (h : CellsAt g L w) : CellsAt g L w.drew := h
theorem CellsAt.alloc {g : Nat} {L : List (Adr × Fr)} {w : World} (h : CellsAt g L w) (o : Obj) : CellsAt g L (w.alloc o) := h.ext ((Ext.refl w).alloc o)

end Go.Proofs.YtifonmdcicegdaaGreat

