/- Texts of this claim, joined: A13b A13c A13d A13e. -/
import Derived.Laws.StructEq
import Derived.Test.YtjoonfegjobgbaaGreatDoorRf
set_option linter.unusedVariables false
set_option linter.unusedSimpArgs false
set_option maxRecDepth 100000
namespace Go.Proofs.YtjoonfegjobgbaaGreatDoor
open Go Go.RowKit
abbrev noZ : Nat → Prop := fun _ => False
structure FQ (w : World) (t : Ty) (l : List (El t)) (xs : List Value) (bb : List (List Nat)) : Prop where
  len : xs.length = l.length * t.size
  bl : bb.length = l.length
  at_ : ∀ (j : Nat) (h : j < l.length) (b : List Nat), bb[j]? = some b → RQ true noZ w 0 t (l[j]'h) ((xs.drop (j * t.size)).take t.size) b
theorem FQ.nil (w : World) (t : Ty) : FQ w t [] [] [] := ⟨by simp, rfl, fun j h => absurd h (Nat.not_lt_zero _)⟩
theorem FQ.append {w : World} {t : Ty} {l m : List (El t)} {xs ys : List Value} {bb cc : List (List Nat)} (h : FQ w t l xs bb) (k : FQ w t m ys cc) : FQ w t (l ++ m) (xs ++ ys) (bb ++ cc) := by
  refine ⟨by rw [List.length_append, List.length_append, h.len, k.len, Nat.add_mul], by rw [List.length_append, List.length_append, h.bl, k.bl], fun j hj b hb => ?_⟩
  by_cases hl : j < l.length
  · rw [List.getElem_append_left hl]
    have h1 : (j + 1) * t.size ≤ l.length * t.size := Nat.mul_le_mul_right _ hl
    rw [Nat.add_mul] at h1
    have := h.len
    rw [List.drop_append_of_le_length (by omega), List.take_append_of_le_length (by rw [List.length_drop]; omega)]
    exact h.at_ j hl b (by rw [List.getElem?_append_left (by rw [h.bl]; exact hl)] at hb; exact hb)
  · rw [List.length_append] at hj
    rw [List.getElem_append_right (by omega)]
    have e : j * t.size = xs.length + (j - l.length) * t.size := by
      rw [h.len, ← Nat.add_mul]; congr 1; omega
    rw [e, List.drop_length_add_append]
    rw [List.getElem?_append_right (by rw [h.bl]; omega), h.bl] at hb
    exact k.at_ (j - l.length) (by omega) b hb
theorem FQ.mono {w w' : World} {t : Ty} {l : List (El t)} {xs : List Value} {bb : List (List Nat)} (h : FQ w t l xs bb) (hw : ∀ g ∈ bb.flatten, w'.heap[g]? = w.heap[g]?) : FQ w' t l xs bb :=
  ⟨h.len, h.bl, fun j hj b hb => (h.at_ j hj b hb).mono (fun _ _ h => h) (fun g hg => hw g (List.mem_flatten.2 ⟨b, List.mem_of_getElem? hb, hg⟩))⟩
theorem FQ.ones {w : World} {t : Ty} (hn : t.nop = true) {l : List (El t)} {xs : List Value} {bb : List (List Nat)} (h : FQ w t l xs bb) : ∀ v ∈ xs, v.oneCell' = true :=
  FL.ones (Z := fun _ => True) (w := w) (t := t) (l := l) ⟨h.len, fun j hj => by
    have hb : j < bb.length := by rw [h.bl]; exact hj
    exact (h.at_ j hj _ (List.getElem?_eq_getElem hb)).rt hn (fun _ _ => trivial)⟩
theorem rowQ.fq {w : World} {t : Ty} {l : List (El t)} {ms : List (List Value)} {n : Nat} {v : Value} {bs : List Nat} (h : rowQ w 0 t (fun x us b => RQ true noZ w 0 t x us b) l ms n [v] bs) : ∃ g cp cells bb, v = .slice (some ⟨g, 0, none⟩) n cp ∧ bs = g :: List.flatten bb ∧ w.heap[g]? = some (.cells cells (eidS t) (0, 0)) ∧ cells.size = cp * t.size ∧ l.length + ms.length ≤ cp ∧ cp ≤ maxI ∧
    FQ w t l (cells.toList.take (l.length * t.size)) bb ∧ (∀ (j : Nat) (us : List Value), ms[j]? = some us → (cells.toList.drop ((l.length + j) * t.size)).take t.size = us) := by
  obtain ⟨g, cp, cells, bb, h1, h2, h3, h4, h5, h6, h7, h8, h9, h10⟩ := h
  have hs : l.length * t.size ≤ cells.size := by rw [h5]; exact Nat.mul_le_mul_right _ (by omega)
  refine ⟨g, cp, cells, bb, by simpa using h1, h2, h4, h5, h6, h7, ⟨by rw [List.length_take, Array.length_toList]; exact Nat.min_eq_left hs, h8, fun j hj b hb => ?_⟩, h10⟩
  have hj' : (j + 1) * t.size ≤ l.length * t.size := Nat.mul_le_mul_right _ hj
  rw [Nat.add_mul, Nat.one_mul] at hj'
  rw [List.drop_take, List.take_take, Nat.min_eq_left (by omega)]
  exact h9 j hj b hb
theorem giveE_sound {gp : Option Nat} {Z0 : Nat → Prop} {w0 : Base} {w : World} {N : Nat} {D : Nat → Prop} {c : Cf} {T : Nat → Option AV} {O O' : Store} {a : Act} (S : Sim gp Z0 w0 N D c T O a.tmps w) (hO : ∀ i o, O' i = some o → O i = some o) {t : Ty} {cs : List Ce} {x : El t} {ids : List Nat} {vs : List Value} (h : giveE O' t cs = some (x, ids)) (hv : RL c w vs cs) : RQ true c.Z w w0.heap.size t x vs (blks c ids) ∧ ∀ i ∈ ids, ∃ o, O i = some o ∧ o.live = true ∧ (i = 0 → ∀ cs, o ≠ .var cs) := by
  unfold giveE at h
  split at h
  · rename_i x' l h1 h2
    cases h
    exact frsE_sound S hO h2 h1 hv
  · cases h
theorem giveEs_sound {gp : Option Nat} {Z0 : Nat → Prop} {w0 : Base} {w : World} {N : Nat} {D : Nat → Prop} {c : Cf} {T : Nat → Option AV} {O O' : Store} {a : Act} (S : Sim gp Z0 w0 N D c T O a.tmps w) (hO : ∀ i o, O' i = some o → O i = some o) {t : Ty} : ∀ {es : List (List Ce)} {xs : List (El t)} {ids : List Nat} {vs : List Value}, giveEs O' t es = some (xs, ids) → vs.length = es.length * t.size → (∀ (j : Nat) (cs : List Ce), es[j]? = some cs → RL c w ((vs.drop (j * t.size)).take t.size) cs) →
    ∃ bb, FQ w t xs vs bb ∧ bb.flatten = blks c ids ∧ ∀ i ∈ ids, ∃ o, O i = some o ∧ o.live = true ∧ (i = 0 → ∀ cs, o ≠ .var cs)
  | [], xs, ids, vs, h, hl, hv => by
    cases h
    have : vs = [] := List.eq_nil_of_length_eq_zero (by simpa using hl)
    subst this
    exact ⟨[], FQ.nil _ _, rfl, fun i hi => by cases hi⟩
  | cs :: es, xs, ids, vs, h, hl, hv => by
    unfold giveEs at h
    split at h
    · rename_i x l xs' m h1 h2
      cases h
      rw [List.length_cons, Nat.add_mul, Nat.one_mul] at hl
      have v0 := hv 0 cs rfl
      rw [Nat.zero_mul, List.drop_zero] at v0
      obtain ⟨p1, p2⟩ := giveE_sound S hO h1 v0
      obtain ⟨bb, q1, q2, q3⟩ := giveEs_sound S hO (vs := vs.drop t.size) h2 (by rw [List.length_drop]; omega) (fun j ds hj => by
        have := hv (j + 1) ds (by simpa using hj)
        rw [Nat.add_mul, Nat.one_mul, Nat.add_comm] at this
        rw [List.drop_drop]
        exact this)
      have one : FQ w t [x] (vs.take t.size) [blks c l] := ⟨by rw [List.length_take]; simp; omega, rfl, fun j hj b hb => by
        have : j = 0 := by simpa using hj
        subst this
        cases hb
        rw [Nat.zero_mul, List.drop_zero, List.take_take, Nat.min_self]
        exact p1.mono (fun _ _ _ => Nat.zero_le _) (fun _ _ => rfl)⟩
      have := one.append q1
      rw [List.take_append_drop] at this
      refine ⟨blks c l :: bb, this, by rw [List.flatten_cons, q2, ← blks_app], fun i hi => ?_⟩
      rcases List.mem_append.1 hi with hi | hi
      · exact p2 i hi
      · exact q3 i hi
    · cases h
theorem giveR_sound {gp : Option Nat} {Z0 : Nat → Prop} {w0 : Base} {w : World} {N : Nat} {D : Nat → Prop} {c : Cf} {T : Nat → Option AV} {O O' : Store} {a : Act} (S : Sim gp Z0 w0 N D c T O a.tmps w) (hO : ∀ i o, O' i = some o → O i = some o) {t : Ty} {k : Nat} {xs : List (El t)} {ids : List Nat} {v : Value} (h : giveR O' t k = some (xs, ids)) (hv : RC c w v (.ow k)) :
    ∃ A cp vs bb, v = .slice A xs.length cp ∧ FQ w t xs vs bb ∧ bb.flatten.Sublist (blks c ids) ∧ (∀ i ∈ ids, ∃ o, O i = some o ∧ o.live = true ∧ (i = 0 → ∀ cs, o ≠ .var cs)) ∧ (0 < xs.length → ∃ g, A = some ⟨g, 0, none⟩ ∧ ∀ (j : Nat) (y : Value), vs[j]? = some y → w.cell? ⟨g, 0 + j, none⟩ = some y) := by
  obtain ⟨en, q1, rfl⟩ := hv
  unfold giveR at h
  split at h
  · rename_i e u es hk
    have hbb : Nat.beq u.size t.size = true ∧ giveEs O' t es = some (xs, ids) := by
      cases hb : Nat.beq u.size t.size with
      | true => rw [hb] at h; exact ⟨rfl, h⟩
      | false => rw [hb] at h; cases h
    have hu := Nat.eq_of_beq_eq_true hbb.1
    replace h := hbb.2
    obtain ⟨en', g, vs, k1, k0, k2, k3, k4, k5, k6, k7, k8⟩ := S.obj k _ (hO _ _ hk)
    rw [q1] at k1; cases k1
    obtain ⟨bb, p1, p2, p3⟩ := giveEs_sound S hO (vs := vs.toList) h (by rw [Array.length_toList, k7, hu]) (fun j cs hj => by rw [← hu]; exact (k8 j cs hj).2)
    have hl : xs.length = es.length := by
      have : ∀ {es : List (List Ce)} {xs : List (El t)} {ids : List Nat}, giveEs O' t es = some (xs, ids) → xs.length = es.length := by
        intro es
        induction es with
        | nil => intro xs ids h; cases h; rfl
        | cons c es ih =>
          intro xs ids h
          unfold giveEs at h
          split at h
          · rename_i h2; cases h; rw [List.length_cons, ih h2, List.length_cons]
          · cases h
      exact this h
    refine ⟨some ⟨g, 0, none⟩, en.cp, vs.toList, bb, by rw [k5, k2, hl]; rfl, p1, by rw [p2]; exact List.Sublist.refl _, p3, fun _ => ⟨g, rfl, fun j y hj => ?_⟩⟩
    rw [cell_of k6, Nat.zero_add]
    simpa using hj
  · rename_i e u l m hk
    cases hc : cvM m u t l with
    | none => rw [hc] at h; cases h
    | some l' =>
      rw [hc] at h
      cases h
      obtain ⟨en', r1, r2, r3, r4, r5⟩ := S.obj k _ (hO _ _ hk)
      rw [q1] at r1; cases r1
      have own : ∀ i ∈ [k], ∃ o, O i = some o ∧ o.live = true ∧ (i = 0 → ∀ cs, o ≠ .var cs) := fun i hi => by
        rw [List.mem_singleton] at hi
        subst hi
        exact ⟨_, hO _ _ hk, rfl, fun _ cs h => by cases h⟩
      rcases r5 with ⟨b1, b2, b3, rfl, rfl, b6⟩ | hq
      · have e0 : xs = [] := List.eq_nil_of_length_eq_zero (by rw [(cvM_len hc).1]; rfl)
        subst e0
        exact ⟨none, 0, [], [], by rw [b1, b2, b3]; rfl, FQ.nil _ _, List.nil_sublist _, own, fun h => absurd h (Nat.lt_irrefl _)⟩
      · obtain ⟨g, cp, cells, bb, p1, p2, p3, p4, p5, p6, p7, _⟩ := (hq.cv hc).fq
        refine ⟨some ⟨g, 0, none⟩, cp, _, bb, p1, p7, by rw [blks_one q1, p2]; exact List.sublist_cons_self _ _, own, fun _ => ⟨g, rfl, fun j y hj => ?_⟩⟩
        rw [List.getElem?_take] at hj
        split at hj
        · rw [cell_of p3, Nat.zero_add]; simpa using hj
        · cases hj
  · cases h
theorem cond_of {b : Bool} {α : Type} {x : Option α} {y : α} (h : (bif b then x else none) = some y) : b = true ∧ x = some y := by
  cases b with
  | true => exact ⟨rfl, h⟩
  | false => cases h
theorem cond_some {b : Bool} {α : Type} {x y : α} (h : (bif b then some x else none) = some y) : b = true ∧ x = y := by
  cases b with
  | true => cases h; exact ⟨rfl, rfl⟩
  | false => cases h
theorem frsE_not_var {O : Store} : ∀ {t : Ty} {cs : List Ce} {l : List Nat} {i : Nat}, t.nop = true → frsE O t cs = some l → i ∈ l → ∃ o, O i = some o ∧ ∀ cs, o ≠ .var cs
  | .bo, _, _, _, _, h, hi => by cases h; cases hi
  | .it _, _, _, _, _, h, hi => by cases h; cases hi
  | .st, _, _, _, _, h, hi => by cases h; cases hi
  | .un, _, _, _, _, h, hi => by cases h; cases hi
  | .oq, _, _, _, _, h, hi => by cases h; cases hi
  | .fn, _, _, _, hn, _, _ => by cases hn
  | .pt _, _, _, _, hn, _, _ => by cases hn
  | .pr a b, cs, l, i, hn, h, hi => by
    simp only [Ty.nop, Bool.and_eq_true] at hn
    unfold frsE at h
    split at h
    · rename_i h1 h2
      cases h
      rcases List.mem_append.1 hi with hi | hi
      · exact frsE_not_var hn.1 h1 hi
      · exact frsE_not_var hn.2 h2 hi
    · cases h
  | .sl t, cs, l, i, hn, h, hi => by
    have h : frsL O t (frsE O t) cs = some l := h
    unfold frsL at h
    split at h
    · cases h; cases hi
    · unfold frsI at h
      split at h
      · rename_i hk
        obtain ⟨_, rfl⟩ := cond_some h
        rw [List.mem_singleton] at hi
        subst hi
        exact ⟨_, hk, fun cs h => by cases h⟩
      · rename_i hk
        obtain ⟨_, rfl⟩ := cond_some h
        rw [List.mem_singleton] at hi
        subst hi
        exact ⟨_, hk, fun cs h => by cases h⟩
      · rename_i hk
        obtain ⟨_, h⟩ := cond_of h
        split at h
        · rename_i ls hm
          cases h
          rcases List.mem_cons.1 hi with rfl | hi
          · exact ⟨_, hk, fun cs h => by cases h⟩
          · obtain ⟨lj, hl, hjl⟩ := List.mem_flatten.1 hi
            obtain ⟨n, hn', rfl⟩ := List.getElem_of_mem hl
            obtain ⟨cs', _, c2⟩ := (mapO_at hm).2 n _ (List.getElem?_eq_getElem hn')
            exact frsE_not_var (t := t) hn c2 hjl
        · cases h
      · cases h
    · cases h
  | .lt t, cs, l, i, _, h, hi => by
    have h : frsT O t cs = some l := h
    unfold frsT at h
    split at h
    · split at h
      · rename_i hk
        obtain ⟨_, rfl⟩ := cond_some h
        rw [List.mem_singleton] at hi
        subst hi
        exact ⟨_, hk, fun cs h => by cases h⟩
      · rename_i hk
        obtain ⟨_, rfl⟩ := cond_some h
        rw [List.mem_singleton] at hi
        subst hi
        exact ⟨_, hk, fun cs h => by cases h⟩
      · cases h
    · cases h
  | .lf t, cs, l, i, _, h, hi => by
    have h : frsF O t cs = some l := h
    unfold frsF at h
    split at h
    · split at h
      · rename_i hk
        obtain ⟨_, rfl⟩ := cond_some h
        rw [List.mem_singleton] at hi
        subst hi
        exact ⟨_, hk, fun cs h => by cases h⟩
      · cases h
    · cases h
theorem giveEs_not_var {O : Store} {t : Ty} (hn : t.nop = true) : ∀ {es : List (List Ce)} {xs : List (El t)} {ids : List Nat} {i : Nat}, giveEs O t es = some (xs, ids) → i ∈ ids → ∃ o, O i = some o ∧ ∀ cs, o ≠ .var cs
  | [], _, _, _, h, hi => by cases h; cases hi
  | cs :: es, xs, ids, i, h, hi => by
    unfold giveEs at h
    split at h
    · rename_i x l xs' m h1 h2
      cases h
      rcases List.mem_append.1 hi with hi | hi
      · unfold giveE at h1
        split at h1
        · rename_i h3; cases h1; exact frsE_not_var hn h3 hi
        · cases h1
      · exact giveEs_not_var hn h2 hi
    · cases h
theorem giveR_not_var {O O' : Store} (hO : ∀ i o, O' i = some o → O i = some o) {t : Ty} (hn : t.nop = true) {k : Nat} {xs : List (El t)} {ids : List Nat} {i : Nat} {cs : List Ce} (h : giveR O' t k = some (xs, ids)) (hi : i ∈ ids) (h1 : O i = some (.var cs)) : False := by
  have : ∃ o, O' i = some o ∧ ∀ cs, o ≠ .var cs := by
    unfold giveR at h
    split at h
    · rename_i u es _
      cases hb : Nat.beq u.size t.size with
      | true => rw [hb] at h; exact giveEs_not_var hn h hi
      | false => rw [hb] at h; cases h
    · rename_i hk
      split at h
      · cases h
        rw [List.mem_singleton] at hi
        subst hi
        exact ⟨_, hk, fun cs h => by cases h⟩
      · cases h
    · cases h
  obtain ⟨o, h2, h3⟩ := this
  have := hO _ _ h2
  rw [h1] at this
  cases this
  exact h3 cs rfl
theorem deepOf_sound {C : Cfg} {gp : Option Nat} {Z0 : Nat → Prop} {w0 : Base} {w : World} {N : Nat} {D : Nat → Prop} {c : Cf} {T : Nat → Option AV} {O O' : Store} {a : Act} (S : Sim gp Z0 w0 N D c T O a.tmps w) (hO : ∀ i o, O' i = some o → O i = some o) {e : Nat} {u : Ty} {sc : Ce} {Dp : Deep} (h : deepOf C O' e u sc = some Dp) (hm : Dp.m < 4) {v : Value} (hv : RC c w v sc) :
    unl Dp.u = u ∧ e = eidS Dp.u ∧ Dp.u.nop = true ∧ ∃ (old : Option Nat) (cp : Nat) (xs ys : List Value) (bb : List (List Nat)), v = .slice (old.map fun g => ⟨g, 0, none⟩) (Dp.l.length + vis Dp.m Dp.u) cp ∧ FQ w Dp.u Dp.l xs bb ∧ ys.length = vis Dp.m Dp.u * u.size ∧ (∀ (j : Nat) (us : List Value), (mks Dp.m Dp.u)[j]? = some us → (ys.drop (j * u.size)).take u.size = us) ∧
      ((old = none ∧ Dp.l.length + vis Dp.m Dp.u = 0 ∧ cp = 0 ∧ xs ++ ys = []) ∨ ∃ g vs, old = some g ∧ w.heap[g]? = some (.cells vs e (0, 0)) ∧ vs.size = cp * u.size ∧ Dp.l.length + vis Dp.m Dp.u ≤ cp ∧ cp ≤ maxI ∧ vs.toList.take ((Dp.l.length + vis Dp.m Dp.u) * u.size) = xs ++ ys) ∧
      blks c Dp.i = old.toList ++ bb.flatten ∧ (∀ i ∈ Dp.i, ∃ o, O i = some o ∧ o.live = true ∧ ∀ cs, o ≠ .var cs) := by
  unfold deepOf at h
  split at h
  · split at h
    · rename_i u' hl
      cases hb : (decide (unl u' = u) && (Nat.beq e (eidS u') && u'.nop)) with
      | false => rw [hb] at h; cases h
      | true =>
        rw [hb] at h
        cases h
        simp only [Bool.and_eq_true, decide_eq_true_eq] at hb
        refine ⟨hb.1, Nat.eq_of_beq_eq_true hb.2.1, hb.2.2, none, 0, [], [], [], hv, FQ.nil _ _, by simp [vis], fun j us hj => by simp [mks] at hj, .inl ⟨rfl, rfl, rfl, rfl⟩, rfl, fun i hi => by cases hi⟩
    · cases h
  · rename_i i
    split at h
    · rename_i e' u' l m hi
      cases hb : (Nat.beq e e' && decide (unl u' = u)) with
      | false => rw [hb] at h; cases h
      | true =>
        rw [hb] at h
        cases h
        simp only [Bool.and_eq_true, decide_eq_true_eq] at hb
        obtain ⟨hb1, rfl⟩ := hb
        have he := Nat.eq_of_beq_eq_true hb1
        subst he
        obtain ⟨en, q1, rfl⟩ := hv
        obtain ⟨en', r1, r2, r3, r4, r5⟩ := S.obj i _ (hO _ _ hi)
        rw [q1] at r1; cases r1
        have own : ∀ j ∈ [i], ∃ o, O j = some o ∧ o.live = true ∧ ∀ cs, o ≠ .var cs := fun j hj => by
          rw [List.mem_singleton] at hj
          subst hj
          exact ⟨_, hO _ _ hi, rfl, fun cs h => by cases h⟩
        refine ⟨rfl, r4, r3, ?_⟩
        dsimp only at hm ⊢
        rw [unl_size]
        rcases r5 with ⟨b1, b2, b3, rfl, rfl, b6⟩ | hq
        · exact ⟨none, 0, [], [], [], by rw [b1, b2, b3]; rfl, FQ.nil _ _, by simp [vis], fun j us hj => by simp [mks] at hj, .inl ⟨rfl, rfl, rfl, rfl⟩, by rw [blks_one q1]; simp [Ent.all, b1, b6], own⟩
        · obtain ⟨g, cp, cells, bb, p1, p2, p3, p4, p5, p6, p7, p8⟩ := hq.fq
          have hmv : (mks m u').length = vis m u' := mks_vis (by omega)
          rw [hmv] at p5
          have hle : (l.length + vis m u') * u'.size ≤ cells.size := by rw [p4]; exact Nat.mul_le_mul_right _ p5
          rw [Nat.add_mul] at hle
          unfold entV at p1
          injection p1 with a1 a2 a3
          have hbl : en.bl = some g := by
            cases hb : en.bl with
            | none => rw [hb] at a1; cases a1
            | some g' => rw [hb] at a1; cases a1; rfl
          refine ⟨some g, cp, _, (cells.toList.drop (l.length * u'.size)).take (vis m u' * u'.size), bb, by rw [hbl, a2, a3], p7, ?_, fun j us hj => ?_, .inr ⟨g, cells, rfl, by rw [r4]; exact p3, p4, p5, p6, ?_⟩, ?_, own⟩
          · rw [List.length_take, List.length_drop, Array.length_toList]; omega
          · have hj' : j < vis m u' := by rw [← hmv]; exact (List.getElem?_eq_some_iff.1 hj).1
            have := p8 j us hj
            have h2 : (j + 1) * u'.size ≤ vis m u' * u'.size := Nat.mul_le_mul_right _ hj'
            rw [Nat.add_mul, Nat.one_mul] at h2
            rw [List.drop_take, List.take_take, Nat.min_eq_left (by omega), List.drop_drop, ← Nat.add_mul]
            exact this
          · rw [Nat.add_mul, List.take_add]
          · rw [blks_one q1, p2]; rfl
    · rename_i e' t' es hi
      split at h
      · rename_i u' hl
        cases hb : (decide (unl u' = u) && (Nat.beq e (eidS u') && u'.nop) && (Nat.beq e e' && Nat.beq t'.size u'.size)) with
        | false => rw [hb] at h; cases h
        | true =>
          rw [hb] at h
          simp only [Bool.and_eq_true, decide_eq_true_eq] at hb
          obtain ⟨⟨rfl, hb1, hb2⟩, hb3, hb4⟩ := hb
          have he := Nat.eq_of_beq_eq_true hb3
          subst he
          have hz := Nat.eq_of_beq_eq_true hb4
          simp only [cond_true] at h
          split at h
          · rename_i l ids hg
            obtain ⟨_, h⟩ := cond_some h
            cases h
            obtain ⟨A, cp, vs, bb, g1, g2, g3, g4, g5⟩ := giveR_sound S hO hg hv
            have hnv : ∀ j ∈ ids, ∃ o, O j = some o ∧ o.live = true ∧ ∀ cs, o ≠ .var cs := fun j hj => by
              obtain ⟨o, o1, o2, _⟩ := g4 j hj
              exact ⟨o, o1, o2, fun cs e0 => by subst e0; exact giveR_not_var hO hb2 hg hj o1⟩
            obtain ⟨en, q1, rfl⟩ := hv
            obtain ⟨en', g, ws, k1, k0, k2, k3, k4, k5, k6, k7, k8⟩ := S.obj i _ (hO _ _ hi)
            rw [q1] at k1; cases k1
            have hg' : giveEs O' u' es = some (l, ids) := by
              have h := hg
              unfold giveR at h
              rw [hi] at h
              dsimp only at h
              rw [hz, Nat.beq_refl] at h
              exact h
            obtain ⟨bb', p1, p2, p3⟩ := giveEs_sound S hO (vs := ws.toList) hg' (by rw [Array.length_toList, k7, hz]) (fun j cs hj => by rw [← hz]; exact (k8 j cs hj).2)
            have hl : l.length = es.length := by
              have := p1.len
              rw [Array.length_toList, k7, hz] at this
              rcases Nat.eq_zero_or_pos u'.size with h0 | h0
              · have h1 : en.bl.map (fun g => (⟨g, 0, none⟩ : Addr)) = A ∧ en.ln = l.length ∧ en.cp = cp := by
                  injection g1 with a1 a2 a3
                  exact ⟨a1, a2, a3⟩
                rw [← h1.2.1, k2]
              · exact (Nat.eq_of_mul_eq_mul_right h0 this).symm
            refine ⟨rfl, Nat.eq_of_beq_eq_true hb1, hb2, some g, es.length, ws.toList, [], bb', ?_, p1, by simp [vis], fun j us hj => by simp [mks] at hj, .inr ⟨g, ws, rfl, k6, ?_, ?_, k4, ?_⟩, ?_, fun j hj => ?_⟩
            · show entV en = _
              unfold entV
              rw [k5, k2, k3]
              show _ = Value.slice _ (l.length + 0) _
              rw [hl]
              rfl
            · rw [k7, hz, unl_size]
            · show l.length + 0 ≤ _
              omega
            · show ws.toList.take ((l.length + 0) * (unl u').size) = _
              rw [List.append_nil, unl_size, hl, ← hz, Nat.add_zero, ← k7]
              exact List.take_of_length_le (by rw [Array.length_toList]; exact Nat.le_refl _)
            · show blks c ([i] ++ ids) = _
              rw [blks_app, blks_one q1, p2]
              unfold Ent.all
              rw [k5, k0]
              rfl
            · rcases List.mem_cons.1 hj with rfl | hj
              · exact ⟨_, hO _ _ hi, rfl, fun cs h => by cases h⟩
              · exact hnv j hj
          · cases h
      · cases h
    · cases h
  · cases h
theorem deads_look : ∀ {l : List Nat} {i : Nat} {q : Ob}, look (deads l) i = some q → q = .dead ∧ i ∈ l
  | [], _, _, h => by cases h
  | k :: l, i, q, h => by
    unfold deads look at h
    cases hb : Nat.beq k i with
    | true => rw [hb] at h; cases h; exact ⟨rfl, by rw [Nat.eq_of_beq_eq_true hb]; exact List.mem_cons_self⟩
    | false => rw [hb] at h; obtain ⟨h1, h2⟩ := deads_look h; exact ⟨h1, List.mem_cons_of_mem _ h2⟩
theorem look_deads : ∀ {l : List Nat} {i : Nat}, i ∈ l → look (deads l) i = some .dead
  | k :: l, i, h => by
    unfold deads look
    cases hb : Nat.beq k i with
    | true => rfl
    | false =>
      rcases List.mem_cons.1 h with rfl | h
      · rw [Nat.beq_refl] at hb; cases hb
      · exact look_deads h
theorem op_appD {P : Program} {C : Cfg} {gp : Option Nat} {Z0 : Nat → Prop} {w0 : Base} {w : World} {D : Nat → Prop} {c : Cf} {T : Nat → Option AV} {O O' : Store} {a : Act} {o : Oper} (S : Sim gp Z0 w0 C.N D c T O a.tmps w) (hT : tyB P C.ty C.ty = true) (hO : ∀ i o, O' i = some o → O i = some o) (hd : dstOk C.N o.dst = true) {n t e : Nat} {u : Ty} (hn : ¬ D n) (hu : u.size ≠ 0) {s x : Operand} (ho : o.op = .call { callee := .builtin .append, args := #[s, x], argTypes := #[t, t] }) (hy : C.el t = some (e, u)) {sc : Ce} {k : Nat} (hs : ev T s = some (.c sc)) (hx : ev T x = some (.c (.ow k)))
    {u' : Ty} {l news : List (El u')} {rest ids : List Nat} (h0 : deepOf C O' e u sc = some ⟨u', l, 0, rest⟩) (hg : giveR O' u' k = some (news, ids)) (hnd : nodupN (rest ++ ids) = true) (hm : l.length + news.length ≤ 1073741824) :
    Done P gp Z0 w0 C.N D T O o a w { v := .c (.ow n), ob := (n, .dp e u' (l ++ news) 0) :: deads (rest ++ ids), k := 1 } n := by
  obtain ⟨h1, e', h2⟩ := elOk_of hT hy
  have hcn : c.m n = none := by
    cases h : c.m n with
    | none => rfl
    | some f => exact absurd (S.dom n f h) hn
  obtain ⟨e1, e2, e3, old, cp0, xs, ys, bb, f1, f2, f3, f4, f5, f6, f7⟩ := deepOf_sound S hO h0 (by show (0 : Nat) < 4; decide) (S.ev hs)
  dsimp only at e1 e2 e3 f1 f2 f3 f4 f5 f6 f7
  have hv0 : vis (0 : Nat) u' = 0 := rfl
  rw [hv0] at f1 f3 f5
  rw [Nat.add_zero] at f1 f5
  have hys : ys = [] := List.eq_nil_of_length_eq_zero (by rw [f3, Nat.zero_mul])
  subst hys
  obtain ⟨A, cp, vs, nb, g1, g2, g3, g4, g5⟩ := giveR_sound S hO hg (S.ev hx)
  have hs' : u'.size = u.size := by rw [← e1, unl_size]
  rw [List.append_nil] at f5
  have f5 : (old = none ∧ l.length = 0 ∧ cp0 = 0 ∧ xs = []) ∨ ∃ g vs, old = some g ∧ w.heap[g]? = some (.cells vs e (0, 0)) ∧ vs.size = cp0 * u.size ∧ l.length ≤ cp0 ∧ cp0 ≤ maxI ∧ vs.toList.take (l.length * u.size) = xs := f5
  have nd : (blks c (rest ++ ids)).Nodup := blks_nodup S (nodupN_sound hnd) (fun i hi => by
    rcases List.mem_append.1 hi with hi | hi
    · obtain ⟨o, h1, h2, _⟩ := f7 i hi; exact ⟨o, h1, h2⟩
    · obtain ⟨o, h1, h2, _⟩ := g4 i hi; exact ⟨o, h1, h2⟩)
  rw [blks_app] at nd
  have nd2 : (old.toList ++ bb.flatten ++ nb.flatten).Nodup := by
    rw [← f6]
    exact nd.sublist (List.Sublist.append (List.Sublist.refl _) g3)
  rw [List.append_assoc] at nd2
  have isold : ∀ g, g ∈ bb.flatten ++ nb.flatten → old ≠ some g := fun g hg e => by
    rw [e] at nd2
    exact (List.nodup_cons.1 nd2).1 hg
  have own : ∀ g, (old = some g ∨ g ∈ bb.flatten ++ nb.flatten) → ∃ i q f, O i = some q ∧ q.live = true ∧ (∀ cs, q ≠ .var cs) ∧ c.m i = some f ∧ f.has g ∧ look (deads (rest ++ ids)) i = some .dead := fun g hgm => by
    have hmem : g ∈ blks c rest ∨ g ∈ blks c ids := by
      rcases hgm with hgm | hgm
      · left; rw [f6]; exact List.mem_append.2 (.inl (by rw [hgm]; simp))
      · rcases List.mem_append.1 hgm with hgm | hgm
        · left; rw [f6]; exact List.mem_append.2 (.inr hgm)
        · right; exact g3.subset hgm
    rcases hmem with hmem | hmem
    · obtain ⟨i, f, hi, hm, hh⟩ := blks_mem hmem
      obtain ⟨q, q1, q2, q3⟩ := f7 i hi
      exact ⟨i, q, f, q1, q2, q3, hm, hh, look_deads (List.mem_append.2 (.inl hi))⟩
    · obtain ⟨i, f, hi, hm, hh⟩ := blks_mem hmem
      obtain ⟨q, q1, q2, q3⟩ := g4 i hi
      refine ⟨i, q, f, q1, q2, ?_, hm, hh, look_deads (List.mem_append.2 (.inr hi))⟩
      intro cs e0
      subst e0
      exact giveR_not_var hO e3 hg hi q1
  intro next Q hq
  refine app_wp h1 h2 hu ho f1 f5 g1 (by rw [g2.len, hs']) (g2.ones e3) (fun h => let ⟨g, q1, q2⟩ := g5 h; ⟨g, 0, q1, q2⟩) hm (fun w' en hM => ?_)
  obtain ⟨m1, m2, m3⟩ := hM
  have same : ∀ g ∈ bb.flatten ++ nb.flatten, w'.heap[g]? = w.heap[g]? := fun g hg => by
    obtain ⟨i, q, f, q1, q2, _, q3, q4, _⟩ := own g (.inr hg)
    exact m3.block g ((S.obj i q q1).lt q2 f g q3 q4) (fun e => isold g hg e.symm)
  have fq : FQ w' u' (l ++ news) (xs ++ vs) (bb ++ nb) := (f2.append g2).mono (fun g hg => same g (by rw [← List.flatten_append]; exact hg))
  have ndn : ∀ e : Ent, e.bl = en.bl → e.ds = bb.flatten ++ nb.flatten → e.all.Nodup := fun e he1 he2 => by
    unfold Ent.all
    rw [he1, he2]
    have tl : (bb.flatten ++ nb.flatten).Nodup := nd2.sublist (List.sublist_append_right _ _)
    rcases m2 with ⟨b1, _⟩ | ⟨g, vs', b1, b2, b3, b4, b5, b6, b7⟩
    · rw [b1]; exact tl
    · rw [b1]
      refine List.nodup_cons.2 ⟨fun hg => ?_, tl⟩
      rcases b7 with b7 | b7
      · exact isold g hg b7
      · obtain ⟨i, q, f, q1, q2, _, q3, q4, _⟩ := own g (.inr hg)
        have := (S.obj i q q1).lt q2 f g q3 q4
        omega
  have T1 := app_sim (v := .slice (en.bl.map fun g => ⟨g, 0, none⟩) en.ln en.cp) (p := .dp e u' (l ++ news) 0) S hd hcn (en := ⟨en.bl, en.ln, en.cp, bb.flatten ++ nb.flatten⟩) m3 ⟨_, Cf.add_at _ _ _, rfl⟩ (fun i q h => ?_) (fun g hg => own g (.inl hg)) (fun g hg => ?_) ?_
  · exact hq _ _ _ T1
  · obtain ⟨rfl, hi⟩ := deads_look h
    refine ⟨rfl, ?_⟩
    rcases List.mem_append.1 hi with hi | hi
    · obtain ⟨q, q1, _, q3⟩ := f7 i hi; exact ⟨q, q1, q3⟩
    · obtain ⟨q, q1, _, _⟩ := g4 i hi
      exact ⟨q, q1, fun cs e0 => by subst e0; exact giveR_not_var hO e3 hg hi q1⟩
  · have hg : g ∈ en.bl.toList ++ (bb.flatten ++ nb.flatten) := hg
    rcases List.mem_append.1 hg with hg | hg
    · have hg : en.bl = some g := by simpa using hg
      rcases m2 with ⟨b1, _⟩ | ⟨g', vs', b1, b2, b3, b4, b5, b6, b7⟩
      · rw [hg] at b1; cases b1
      · rw [hg] at b1
        cases b1
        rcases b7 with b7 | b7
        · obtain ⟨i, q, f, q1, q2, _, q3, q4, q5⟩ := own g (.inl b7)
          exact .inl ⟨i, q, f, q1, q2, q3, q4, q5⟩
        · exact .inr (by omega)
    · obtain ⟨i, q, f, q1, q2, _, q3, q4, q5⟩ := own g (.inr hg)
      exact .inl ⟨i, q, f, q1, q2, q3, q4, q5⟩
  · have hlen : (l ++ news).length = l.length + news.length := List.length_append
    refine ⟨_, Cf.add_at _ _ _, ndn _ rfl rfl, e3, e2, ?_⟩
    rcases m2 with ⟨b1, b2, b3, _⟩ | ⟨g, vs', b1, b2, b3, b4, b5, b6, _⟩
    · have z1 : l = [] := List.eq_nil_of_length_eq_zero (by omega)
      have z2 : news = [] := List.eq_nil_of_length_eq_zero (by omega)
      have z3 : bb = [] := List.eq_nil_of_length_eq_zero (by rw [f2.bl, z1]; rfl)
      have z4 : nb = [] := List.eq_nil_of_length_eq_zero (by rw [g2.bl, z2]; rfl)
      exact .inl ⟨b1, by show en.ln = 0; rw [m1]; exact b3, b2, by rw [z1, z2]; rfl, rfl, by show bb.flatten ++ nb.flatten = []; rw [z3, z4]; rfl⟩
    · refine .inr ⟨g, en.cp, vs', bb ++ nb, ?_, ?_, Nat.zero_le _, by rw [← e2]; exact b2, by rw [hs']; exact b3, ?_, b5, fq.bl, fun j hj b hb => ?_, fun j us hj => by simp [mks] at hj⟩
      · unfold entV
        show [Value.slice (en.bl.map _) en.ln en.cp] = _
        rw [b1, m1, hlen]; rfl
      · unfold Ent.all
        show en.bl.toList ++ _ = _
        rw [b1, List.flatten_append]; rfl
      · rw [hlen]; show _ + 0 ≤ _; omega
      · have := fq.at_ j hj b hb
        have hj' : (j + 1) * u'.size ≤ (l ++ news).length * u'.size := Nat.mul_le_mul_right _ hj
        rw [Nat.add_mul, Nat.one_mul, hlen] at hj'
        rw [← b6, ← hs', List.drop_take, List.take_take, Nat.min_eq_left (by omega)] at this
        exact this
theorem conj_all : ∀ {ps : List Prop}, conj ps → ∀ p ∈ ps, p
  | [], _, p, hp => by cases hp
  | [q], h, p, hp => by rw [List.mem_singleton] at hp; subst hp; exact h
  | q :: r :: ps, h, p, hp => by
    obtain ⟨h1, h2⟩ : q ∧ conj (r :: ps) := h
    rcases List.mem_cons.1 hp with rfl | hp
    · exact h1
    · exact conj_all h2 p hp
theorem map_someL {α : Type} {o : Option α} {f : α → List Prop} {ps : List Prop} (h : (o.map f) = some ps) : ∃ y, o = some y ∧ ps = f y := by
  cases o with
  | none => cases h
  | some y => cases h; exact ⟨y, rfl, rfl⟩
theorem mkEq_sound {c : Cf} {w : World} : ∀ {t : Ty} {x : El t} {cs : List Ce} {ps : List Prop} {vs : List Value}, mkEq t x cs = some ps → (∀ p ∈ ps, p) → RL c w vs cs → vs = vcs t x
  | .bo, x, cs, ps, vs, h, hp, hv => by
    obtain ⟨y, h1, rfl⟩ := map_someL h
    have := hp _ (List.mem_singleton.2 rfl)
    subst this
    have r := toE_sound (O := fun _ => none) (c := c) (w := w) (fun i o h => by cases h) .bo cs vs y hv h1
    rw [RT] at r
    exact r
  | .it k, x, cs, ps, vs, h, hp, hv => by
    obtain ⟨y, h1, rfl⟩ := map_someL h
    have := hp _ (List.mem_singleton.2 rfl)
    subst this
    have r := toE_sound (O := fun _ => none) (c := c) (w := w) (fun i o h => by cases h) (.it k) cs vs y hv h1
    rw [RT] at r
    exact r.1
  | .st, x, cs, ps, vs, h, hp, hv => by
    obtain ⟨y, h1, rfl⟩ := map_someL h
    have := hp _ (List.mem_singleton.2 rfl)
    subst this
    have r := toE_sound (O := fun _ => none) (c := c) (w := w) (fun i o h => by cases h) .st cs vs y hv h1
    rw [RT] at r
    exact r.1
  | .sl t, x, cs, ps, vs, h, hp, hv => by
    have h : (bif isNl cs then some [x = []] else none) = some ps := h
    obtain ⟨h1, rfl⟩ := cond_some h
    have : cs = [.nl] := by
      unfold isNl at h1
      split at h1
      · rfl
      · cases h1
    subst this
    obtain ⟨v, rfl, hv2⟩ := hv.single
    rw [show v = _ from hv2]
    rfl
  | .pr a b, x, cs, ps, vs, h, hp, hv => by
    unfold mkEq at h
    split at h
    · rename_i l m h1 h2
      cases h
      have e1 := mkEq_sound h1 (fun p hq => hp p (List.mem_append.2 (.inl hq))) (hv.take _)
      have e2 := mkEq_sound h2 (fun p hq => hp p (List.mem_append.2 (.inr hq))) (hv.drop _)
      show vs = vcs a x.1 ++ vcs b x.2
      rw [← e1, ← e2, List.take_append_drop]
    · cases h
  | .un, x, cs, ps, vs, h, hp, hv => by
    have h : (bif cs.isEmpty then some [] else none) = some ps := h
    obtain ⟨h1, rfl⟩ := cond_some h
    have : cs = [] := by simpa using h1
    subst this
    exact List.eq_nil_of_length_eq_zero hv.1
  | .pt _, _, _, _, _, h, _, _ => by simp [mkEq] at h
  | .fn, _, _, _, _, h, _, _ => by simp [mkEq] at h
  | .lt _, _, _, _, _, h, _, _ => by simp [mkEq] at h
  | .lf _, _, _, _, _, h, _, _ => by simp [mkEq] at h
  | .oq, _, _, _, _, h, _, _ => by simp [mkEq] at h
theorem vis_eq {m : Nat} {u : Ty} (h : m ≤ 3) (h2 : m ≤ (mkv u).length) : vis m u = m := by
  unfold vis
  split
  · rfl
  · omega
  · rw [List.length_take]; omega
theorem mks_eq {m : Nat} {u : Ty} (h : m ≤ 3) : mks m u = ((mkv u).take m).map (vcs (unl u)) := by
  unfold mks
  split
  · rfl
  · omega
  · rfl
theorem op_appM {P : Program} {C : Cfg} {gp : Option Nat} {Z0 : Nat → Prop} {w0 : Base} {w : World} {D : Nat → Prop} {c : Cf} {T : Nat → Option AV} {O O' : Store} {a : Act} {o : Oper} (S : Sim gp Z0 w0 C.N D c T O a.tmps w) (hT : tyB P C.ty C.ty = true) (hO : ∀ i o, O' i = some o → O i = some o) (hd : dstOk C.N o.dst = true) {n t e : Nat} {u : Ty} (hn : ¬ D n) (hu : u.size ≠ 0) {s x : Operand} (ho : o.op = .call { callee := .builtin .append, args := #[s, x], argTypes := #[t, t] }) (hy : C.el t = some (e, u)) {sc : Ce} {k : Nat} (hs : ev T s = some (.c sc)) (hx : ev T x = some (.c (.ow k)))
    {u' : Ty} {l : List (El u')} {m : Nat} {rest : List Nat} (h0 : deepOf C O' e u sc = some ⟨u', l, m, rest⟩) {e2 : Nat} {t2 : Ty} {cs : List Ce} (hk : O' k = some (.ce e2 t2 [cs])) {ps : List Prop} (hps : mkEq (unl u') ((mkv u').getD m (dfl (unl u'))) cs = some ps) (hc : m < 3 ∧ m < (mkv u').length ∧ (l.length : Nat) + 4 ≤ 1073741824 ∧ conj ps) (ht2 : t2.size = u.size) :
    Done P gp Z0 w0 C.N D T O o a w { v := .c (.ow n), ob := (n, .dp e u' l (m + 1)) :: deads rest, k := 1 } n := by
  obtain ⟨hm3, hml, hbig, hconj⟩ := hc
  obtain ⟨h1, e', h2⟩ := elOk_of hT hy
  have hcn : c.m n = none := by
    cases h : c.m n with
    | none => rfl
    | some f => exact absurd (S.dom n f h) hn
  obtain ⟨e1, e2', e3, old, cp0, xs, ys, bb, f1, f2, f3, f4, f5, f6, f7⟩ := deepOf_sound S hO h0 (by show m < 4; omega) (S.ev hs)
  dsimp only at e1 e2' e3 f1 f2 f3 f4 f5 f6 f7
  have hvm : vis m u' = m := vis_eq (by omega) (by omega)
  rw [hvm] at f1 f3 f5
  have hs' : u'.size = u.size := by rw [← e1, unl_size]
  obtain ⟨en0, q1, hxv⟩ := S.ev hx
  obtain ⟨en', g0, vs, k1, k0, k2, k3, k4, k5, k6, k7, k8⟩ := S.obj k _ (hO _ _ hk)
  rw [q1] at k1; cases k1
  obtain ⟨r1, r2⟩ := k8 0 cs rfl
  rw [ht2] at r1
  have hvl : vs.toList.length = u.size := by rw [Array.length_toList, k7, ht2]; simp
  rw [Nat.zero_mul, List.drop_zero, ht2, List.take_of_length_le (by omega)] at r2
  have hmk : (mkv u').getD m (dfl (unl u')) = (mkv u')[m] := by rw [List.getD_eq_getElem?_getD, List.getElem?_eq_getElem hml]; rfl
  have hvs : vs.toList = vcs (unl u') (mkv u')[m] := by rw [← hmk]; exact mkEq_sound hps (conj_all hconj) r2
  have one : ∀ v ∈ vs.toList, v.oneCell' = true := by
    rw [hvs]
    exact RT.ones (Z := fun _ => True) (w := w) (mkOk.rt (marks_ok u' _ (List.getElem_mem hml)))
  have nd : (blks c rest).Nodup := by
    have hr : rest.Nodup := by
      unfold deepOf at h0
      split at h0
      · split at h0
        · obtain ⟨_, h⟩ := cond_some h0; cases h; exact List.nodup_nil
        · cases h0
      · split at h0
        · obtain ⟨_, h⟩ := cond_some h0; cases h; simp
        · split at h0
          · obtain ⟨_, h0⟩ := cond_of h0
            split at h0
            · obtain ⟨h1, h⟩ := cond_some h0; cases h; exact nodupN_sound h1
            · cases h0
          · cases h0
        · cases h0
      · cases h0
    exact blks_nodup S hr (fun i hi => let ⟨o, h1, h2, _⟩ := f7 i hi; ⟨o, h1, h2⟩)
  rw [f6] at nd
  have isold : ∀ g, g ∈ bb.flatten → old ≠ some g := fun g hg e => by
    rw [e] at nd
    exact (List.nodup_cons.1 nd).1 hg
  have own : ∀ g, (old = some g ∨ g ∈ bb.flatten) → ∃ i q f, O i = some q ∧ q.live = true ∧ (∀ cs, q ≠ .var cs) ∧ c.m i = some f ∧ f.has g ∧ look (deads rest) i = some .dead := fun g hgm => by
    have hmem : g ∈ blks c rest := by
      rw [f6]
      rcases hgm with hgm | hgm
      · exact List.mem_append.2 (.inl (by rw [hgm]; simp))
      · exact List.mem_append.2 (.inr hgm)
    obtain ⟨i, f, hi, hm, hh⟩ := blks_mem hmem
    obtain ⟨q, q1, q2, q3⟩ := f7 i hi
    exact ⟨i, q, f, q1, q2, q3, hm, hh, look_deads hi⟩
  intro next Q hq
  refine app_wp h1 h2 hu ho f1 f5 (m := 1) (news := vs.toList) (A := some ⟨g0, 0, none⟩) (xc := en0.cp) (by rw [hxv, k5, k2]; rfl) (by rw [hvl, Nat.one_mul]) one (fun _ => ⟨g0, 0, rfl, fun j y hj => by rw [cell_of k6, Nat.zero_add]; simpa using hj⟩) (by omega) (fun w' en hM => ?_)
  obtain ⟨m1, m2, m3⟩ := hM
  have same : ∀ g ∈ bb.flatten, w'.heap[g]? = w.heap[g]? := fun g hg => by
    obtain ⟨i, q, f, q1, q2, _, q3, q4, _⟩ := own g (.inr hg)
    exact m3.block g ((S.obj i q q1).lt q2 f g q3 q4) (fun e => isold g hg e.symm)
  have fq : FQ w' u' l xs bb := f2.mono same
  have T1 := app_sim (v := .slice (en.bl.map fun g => ⟨g, 0, none⟩) en.ln en.cp) (p := .dp e u' l (m + 1)) S hd hcn (en := ⟨en.bl, en.ln, en.cp, bb.flatten⟩) m3 ⟨_, Cf.add_at _ _ _, rfl⟩ (fun i q h => ?_) (fun g hg => own g (.inl hg)) (fun g hg => ?_) ?_
  · exact hq _ _ _ T1
  · obtain ⟨rfl, hi⟩ := deads_look h
    obtain ⟨q, q1, _, q3⟩ := f7 i hi
    exact ⟨rfl, q, q1, q3⟩
  · have hg : g ∈ en.bl.toList ++ bb.flatten := hg
    rcases List.mem_append.1 hg with hg | hg
    · have hg : en.bl = some g := by simpa using hg
      rcases m2 with ⟨b1, _⟩ | ⟨g', vs', b1, b2, b3, b4, b5, b6, b7⟩
      · rw [hg] at b1; cases b1
      · rw [hg] at b1
        cases b1
        rcases b7 with b7 | b7
        · obtain ⟨i, q, f, q1, q2, _, q3, q4, q5⟩ := own g (.inl b7)
          exact .inl ⟨i, q, f, q1, q2, q3, q4, q5⟩
        · exact .inr (by omega)
    · obtain ⟨i, q, f, q1, q2, _, q3, q4, q5⟩ := own g (.inr hg)
      exact .inl ⟨i, q, f, q1, q2, q3, q4, q5⟩
  · have tl : bb.flatten.Nodup := nd.sublist (List.sublist_append_right _ _)
    have hvm1 : vis (m + 1) u' = m + 1 := vis_eq (by omega) (by omega)
    have hxl := f2.len
    have hmk1 : (mks (m + 1) u').length = m + 1 := by rw [mks_vis (by omega), hvm1]
    rcases m2 with ⟨b1, b2, b3, _⟩ | ⟨g, vs', b1, b2, b3, b4, b5, b6, b7⟩
    · omega
    · refine ⟨_, Cf.add_at _ _ _, ?_, e3, e2', .inr ⟨g, en.cp, vs', bb, ?_, ?_, Nat.zero_le _, by rw [← e2']; exact b2, by rw [hs']; exact b3, by rw [hmk1]; omega, b5, fq.bl, fun j hj b hb => ?_, fun j us hj => ?_⟩⟩
      · unfold Ent.all
        show (en.bl.toList ++ bb.flatten).Nodup
        rw [b1]
        refine List.nodup_cons.2 ⟨fun hg => ?_, tl⟩
        rcases b7 with b7 | b7
        · exact isold g hg b7
        · obtain ⟨i, q, f, q1, q2, _, q3, q4, _⟩ := own g (.inr hg)
          have := (S.obj i q q1).lt q2 f g q3 q4
          omega
      · unfold entV
        show [Value.slice (en.bl.map _) en.ln en.cp] = _
        rw [b1, m1, hvm1]; rfl
      · unfold Ent.all
        show en.bl.toList ++ _ = _
        rw [b1]; rfl
      · have := fq.at_ j hj b hb
        have hj' : (j + 1) * u'.size ≤ l.length * u'.size := Nat.mul_le_mul_right _ hj
        rw [Nat.add_mul, Nat.one_mul] at hj'
        have e4 : (vs'.toList.drop (j * u'.size)).take u'.size = (xs.drop (j * u'.size)).take u'.size := by
          have h5 : ((vs'.toList.take ((l.length + m + 1) * u.size)).drop (j * u'.size)).take u'.size = (vs'.toList.drop (j * u'.size)).take u'.size := by
            rw [List.drop_take, List.take_take, Nat.min_eq_left]
            rw [← hs', Nat.add_mul, Nat.add_mul]
            omega
          rw [← h5, b6, List.append_assoc, List.drop_append_of_le_length (by omega), List.take_append_of_le_length (by rw [List.length_drop]; omega)]
        rw [e4]
        exact this
      · have hj' : j < m + 1 := by rw [← hmk1]; exact (List.getElem?_eq_some_iff.1 hj).1
        have hjs : (j + 1) * u'.size ≤ (m + 1) * u'.size := Nat.mul_le_mul_right _ hj'
        rw [Nat.add_mul, Nat.add_mul, Nat.one_mul] at hjs
        have h5 : (vs'.toList.drop ((l.length + j) * u'.size)).take u'.size = ((ys ++ vs.toList).drop (j * u'.size)).take u'.size := by
          have h6 : ((vs'.toList.take ((l.length + m + 1) * u.size)).drop ((l.length + j) * u'.size)).take u'.size = (vs'.toList.drop ((l.length + j) * u'.size)).take u'.size := by
            rw [List.drop_take, List.take_take, Nat.min_eq_left]
            rw [← hs', Nat.add_mul, Nat.add_mul, Nat.add_mul]
            omega
          rw [← h6, b6, List.append_assoc, Nat.add_mul, ← hxl, List.drop_length_add_append]
        rw [h5]
        rw [hs'] at hjs ⊢
        by_cases hjm : j < m
        · have hjs2 : (j + 1) * u.size ≤ m * u.size := Nat.mul_le_mul_right _ hjm
          rw [Nat.add_mul, Nat.one_mul] at hjs2
          rw [List.drop_append_of_le_length (by omega), List.take_append_of_le_length (by rw [List.length_drop]; omega)]
          refine f4 j us ?_
          rw [mks_eq (by omega)] at hj ⊢
          rw [List.getElem?_map, List.getElem?_take, if_pos (by omega)] at hj
          rw [List.getElem?_map, List.getElem?_take, if_pos hjm]
          exact hj
        · obtain rfl : j = m := by omega
          rw [← f3, List.drop_left', List.take_of_length_le (by omega)]
          · rw [mks_eq (by omega), List.getElem?_map, List.getElem?_take, if_pos (by omega), List.getElem?_eq_getElem hml] at hj
            cases hj
            exact hvs
          · rfl
section
variable {P : Program} {C : Cfg} {gp : Option Nat} {Z0 : Nat → Prop} {w0 : Base} {w : World} {D : Nat → Prop} {c : Cf} {T : Nat → Option AV} {O : Store} {a : Act} {o : Oper}
theorem part_one {tb : Tbl} {t e : Nat} {y : Ty} (h : TyOk P tb t y e) (hy : y.one = true) {xs : Array Value} {n : Nat} {v : Value} (hv : xs[n]? = some v) : (part t xs n).run P w = .ok v w := by
  have ha : y.agg = false := by cases y <;> first | rfl | cases hy
  simp only [part, Sem.run_bind, h.run_agg w, Result.andThen, ha, Bool.false_eq_true, if_false, hv]
  rfl
theorem equal_one {tb : Tbl} {t e d : Nat} {y : Ty} (h : TyOk P tb t y e) (hy : y.one = true) {Z : Nat → Prop} {x z : El y} {u v : Value} (hx : RT Z w y x [u]) (hz : RT Z w y z [v]) : (Op.equalIn (d + 1) t u v).run P w = .ok (eqV y x z) w := by
  obtain ⟨ds, h1, h2⟩ := h.und
  cases y with
  | bo =>
    rw [RT] at hx hz
    have e1 : u = .bool x := by simpa using hx
    have e2 : v = .bool z := by simpa using hz
    subst e1 e2
    have : ds = .bool := by cases ds <;> simp [dscB] at h2; rfl
    subst this
    exact run_equalIn_bool' w d t _ _ h1
  | it k =>
    rw [RT] at hx hz
    have e1 : u = .int k x := by simpa using hx.1
    have e2 : v = .int k z := by simpa using hz.1
    subst e1 e2
    have : ds = .int k := by cases ds <;> simp [dscB] at h2; rw [h2]
    subst this
    exact run_equalIn_int w d t k k _ _ h1
  | st =>
    rw [RT] at hx hz
    have e1 : u = .string x := by simpa using hx.1
    have e2 : v = .string z := by simpa using hz.1
    subst e1 e2
    have : ds = .string := by cases ds <;> simp [dscB] at h2; rfl
    subst this
    exact run_equalIn_string w d t _ _ h1
  | _ => cases hy
theorem eqV_pr {a b : Ty} {x z : El (.pr a b)} : eqV (.pr a b) x z = (eqV a x.1 z.1 && eqV b x.2 z.2) := by
  cases b <;> first | rfl | (show (_ && true) = _; rfl)
theorem scal_pr {a b : Ty} (h : (Ty.pr a b).scal = true) : a.one = true ∧ (b = .un ∨ b.scal = true) := by
  cases b <;> simp_all [Ty.scal]
theorem eqF_run {tb : Tbl} (hT : tyB P tb tb = true) {d : Nat} {Z : Nat → Prop} : ∀ {y : Ty} {o0 : Nat} {fs : List Field} {xs zs : Array Value} {x z : El y}, (y = .un ∨ y.scal = true) → fsB tb y o0 fs = true → (∀ f ∈ fs, f.name ≠ "_") → RT Z w y x (xs.toList.drop o0) → RT Z w y z (zs.toList.drop o0) →
    (Op.eqFields (d + 1) xs zs fs).run P w = .ok (eqV y x z) w
  | .un, o0, [], xs, zs, x, z, _, _, _, _, _ => rfl
  | .un, _, _ :: _, _, _, _, _, _, h, _, _, _ => by simp [fsB] at h
  | .pr a b, o0, [], _, _, _, _, _, h, _, _, _ => by simp [fsB] at h
  | .pr a b, o0, f :: fs, xs, zs, x, z, hs, h, hn, hx, hz => by
    have hs := scal_pr (hs.resolve_left (by simp))
    simp only [fsB, Bool.and_eq_true] at h
    obtain ⟨⟨h1, h2⟩, h3⟩ := h
    obtain ⟨e, h2⟩ := isT_look h2
    have hty := tyB_sound hT h2
    have ha : a.size = 1 := by cases a <;> first | rfl | cases hs.1
    rw [RT] at hx hz
    obtain ⟨us, us', e1, x1, x2⟩ := hx
    obtain ⟨vs, vs', e2, z1, z2⟩ := hz
    have l1 := x1.len
    have l2 := z1.len
    rw [ha] at l1 l2
    match us, vs, l1, l2 with
    | [u], [v], _, _ =>
      have ho := Nat.eq_of_beq_eq_true h1
      have g1 : xs[f.offset]? = some u := by
        rw [ho, ← Array.getElem?_toList]
        have := congrArg (fun l => l[0]?) e1
        simpa using this
      have g2 : zs[f.offset]? = some v := by
        rw [ho, ← Array.getElem?_toList]
        have := congrArg (fun l => l[0]?) e2
        simpa using this
      have d1 : us' = xs.toList.drop (o0 + a.size) := by
        have := congrArg (fun l => l.drop 1) e1
        rw [ha]
        simpa using this.symm
      have d2 : vs' = zs.toList.drop (o0 + a.size) := by
        have := congrArg (fun l => l.drop 1) e2
        rw [ha]
        simpa using this.symm
      rw [d1] at x2
      rw [d2] at z2
      have ih := eqF_run hT (d := d) hs.2 h3 (fun f' hf => hn f' (List.mem_cons_of_mem _ hf)) x2 z2
      rw [Op.eqFields, if_pos (hn f List.mem_cons_self)]
      simp only [Sem.run_bind, part_one hty hs.1 g1, part_one hty hs.1 g2, Result.andThen, equal_one hty hs.1 x1 z1]
      rw [eqV_pr]
      cases hb : eqV a x.1 z.1 with
      | true => simpa using ih
      | false => rfl
  | .bo, _, _, _, _, _, _, hs, _, _, _, _ => by rcases hs with hs | hs <;> cases hs
  | .it _, _, _, _, _, _, _, hs, _, _, _, _ => by rcases hs with hs | hs <;> cases hs
  | .st, _, _, _, _, _, _, hs, _, _, _, _ => by rcases hs with hs | hs <;> cases hs
  | .sl _, _, _, _, _, _, _, hs, _, _, _, _ => by rcases hs with hs | hs <;> cases hs
  | .pt _, _, _, _, _, _, _, hs, _, _, _, _ => by rcases hs with hs | hs <;> cases hs
  | .fn, _, _, _, _, _, _, hs, _, _, _, _ => by rcases hs with hs | hs <;> cases hs
  | .lt _, _, _, _, _, _, _, hs, _, _, _, _ => by rcases hs with hs | hs <;> cases hs
  | .lf _, _, _, _, _, _, _, hs, _, _, _, _ => by rcases hs with hs | hs <;> cases hs
  | .oq, _, _, _, _, _, _, hs, _, _, _, _ => by rcases hs with hs | hs <;> cases hs
theorem op_eq (S : Sim gp Z0 w0 C.N D c T O a.tmps w) (hT : tyB P C.ty C.ty = true) (hd : dstOk C.N o.dst = true) {n t : Nat} {op : BinOp} {x z : Operand} {yt : TypeId} (ho : o.op = .binOp op t x z yt) {y : Ty} (hy : C.t t = some y) (hs : y.scal = true) {cs ds : List Ce} (hx : ev T x = some (.ag cs)) (hz : ev T z = some (.ag ds)) {p q : El y} (hp : toE (fun _ => none) y cs = some p) (hq : toE (fun _ => none) y ds = some q) {b : Bool}
    (hop : (op = .eql ∧ b = eqV y p q) ∨ (op = .neq ∧ b = !eqV y p q)) : Done P gp Z0 w0 C.N D T O o a w { v := .c (.sc (.bool b)) } n := by
  obtain ⟨e, _, hty⟩ := tyOk_of hT hy
  have hE := hty.eqs hs
  unfold eqB at hE
  simp only [Bool.and_eq_true, Bool.not_eq_true'] at hE
  obtain ⟨⟨hE1, hE2⟩, hE3⟩ := hE
  obtain ⟨us, u1, u2⟩ := S.ev hx
  obtain ⟨vs, v1, v2⟩ := S.ev hz
  have rx := toE_none u2 hp
  have rz := toE_none v2 hq
  obtain ⟨dd, k1, k2⟩ := hty.und
  have hfs : ∃ fs, P.underlying t = some (.struct fs) ∧ fsB C.ty y 0 fs.toList = true := by
    cases y with
    | pr a b =>
      unfold dscB at k2
      split at k2 <;> first
        | (cases k2; done)
        | (rename_i e2; cases e2; done)
        | skip
      all_goals
        rename_i e2
        cases e2
        exact ⟨_, k1, k2⟩
    | _ => cases hs
  obtain ⟨fs, f1, f2⟩ := hfs
  rw [f1] at hE1
  have hn : ∀ f ∈ fs.toList, f.name ≠ "_" := fun f hf => by
    have := List.all_eq_true.1 hE1 f hf
    simpa using this
  have hfo : P.fieldsOf t = fs := by unfold Program.fieldsOf; rw [f1]
  have run : (Op.equalIn 10000 t (.agg us) (.agg vs)).run P w = .ok (eqV y p q) w := by
    rw [show (10000 : Nat) = 9998 + 1 + 1 from rfl, run_equalIn_struct w (9998 + 1) t us vs (by rw [hfo]; exact f1) hE2, hfo]
    exact eqF_run hT (.inr hs) f2 hn (by simpa using rx) (by simpa using rz)
  refine Done.value S hd (v := .bool b) ?_ ⟨rfl, trivial⟩
  unfold execOp
  rw [ho]
  refine op_value_of ?_
  rw [u1, v1, Sem.run_bind, run_eqGuard_agg w op t x z us vs hE3]
  simp only [Result.andThen]
  rcases hop with ⟨rfl, rfl⟩ | ⟨rfl, rfl⟩
  · rw [run_eql_struct, run]; rfl
  · rw [run_neq_struct, run]; rfl
theorem op_max (S : Sim gp Z0 w0 C.N D c T O a.tmps w) (hd : dstOk C.N o.dst = true) {n : Nat} {x z : Operand} {ts : Array TypeId} {k : IntKind} {p q : Int} (hx : ev T x = some (.c (.sc (.int k p)))) (hz : ev T z = some (.c (.sc (.int k q)))) {r : Int}
    (hop : (o.op = .call { callee := .builtin .max, args := #[x, z], argTypes := ts } ∧ r = if q > p then q else p) ∨ (o.op = .call { callee := .builtin .min, args := #[x, z], argTypes := ts } ∧ r = if q < p then q else p)) : Done P gp Z0 w0 C.N D T O o a w { v := .c (.sc (.int k r)) } n := by
  obtain ⟨u1, u2⟩ : a.eval x = .int k p ∧ okv (.int k p) := S.ev hx
  obtain ⟨v1, v2⟩ : a.eval z = .int k q ∧ okv (.int k q) := S.ev hz
  have hr : okv (.int k r) := by
    rcases hop with ⟨_, rfl⟩ | ⟨_, rfl⟩ <;> (split <;> assumption)
  refine Done.value S hd (v := .int k r) ?_ ⟨rfl, hr⟩
  unfold execOp
  rcases hop with ⟨ho, rfl⟩ | ⟨ho, rfl⟩
  · rw [ho]
    simp only [resolve, Sem.run_bind, Sem.run_pure, Result.andThen, invoke, builtin, Builtin.max_, List.map_toArray, List.map_cons, List.map_nil, u1, v1]
    rfl
  · rw [ho]
    simp only [resolve, Sem.run_bind, Sem.run_pure, Result.andThen, invoke, builtin, Builtin.min_, List.map_toArray, List.map_cons, List.map_nil, u1, v1]
    rfl
end
section
variable {P : Program} {gp : Option Nat} {Z0 : Nat → Prop} {w0 : Base} {w : World} {N : Nat} {D : Nat → Prop} {c : Cf} {T : Nat → Option AV} {O : Store} {a : Act} {o : Oper}
theorem over_get {vs zs : List Value} {p : Nat} (h : p + zs.length ≤ vs.length) (k : Nat) : (vs.take p ++ zs ++ vs.drop (p + zs.length))[k]? = if k < p then vs[k]? else if k < p + zs.length then zs[k - p]? else vs[k]? := by
  have hl : (vs.take p).length = p := by rw [List.length_take]; omega
  have hl2 : (vs.take p ++ zs).length = p + zs.length := by rw [List.length_append, hl]
  by_cases h1 : k < p
  · rw [if_pos h1, List.getElem?_append_left (by omega), List.getElem?_append_left (by omega), List.getElem?_take, if_pos h1]
  · rw [if_neg h1]
    by_cases h2 : k < p + zs.length
    · rw [if_pos h2, List.getElem?_append_left (by omega), List.getElem?_append_right (by omega), hl]
    · rw [if_neg h2, List.getElem?_append_right (by omega), hl2, List.getElem?_drop]
      congr 1
      omega
theorem idx_out {j k s i off n : Nat} (hi : i < s) (hn : off + n ≤ s) (hjk : k ≠ j) : k * s + i < j * s + off ∨ j * s + off + n ≤ k * s + i := by
  rcases Nat.lt_or_gt_of_ne hjk with h | h
  · left
    have := Nat.mul_le_mul_right s (show k + 1 ≤ j from h)
    rw [Nat.add_mul, Nat.one_mul] at this
    omega
  · right
    have := Nat.mul_le_mul_right s (show j + 1 ≤ k from h)
    rw [Nat.add_mul, Nat.one_mul] at this
    omega
theorem op_storeE (S : Sim gp Z0 w0 N D c T O a.tmps w) (hd : dstOk N o.dst = true) {n : Nat} {P : Program} {tb : List (Nat × (Ty × Nat))} {t e : Nat} {y : Ty} (hy : TyOk P tb t y e) {x z : Operand} (ho : o.op = .store t x z) {i j off : Nat} {u : Ty} {et : Nat} {l : List (El u)} {xs : List Ce} {v : AV} {q : El u} (hx : ev T x = some (.c (.pr i u j off))) (hO : O i = some (.ty et u l 0)) (hz : ev T z = some v) (hc : v.cells = some xs)
    (hs : xs.length = y.size) (hle : off + xs.length ≤ u.size) (hu : noUd xs = true) (hq : toE (fun _ => none) u (overC (cel u (getL l j (dfl u))) off xs) = some q) : Done P gp Z0 w0 N D T O o a w { v := .c .ud, ob := [(i, .ty et u (l.set j q) 0)] } n := by
  obtain ⟨e1, g, h1, h2, hjl, h3⟩ := S.ev hx
  obtain ⟨e2, k1, k0, k2, k3⟩ := S.obj i _ hO
  rw [h1] at k1
  cases k1
  rcases k3 with ⟨b1, _⟩ | ⟨g', vs, b1, b2, b3, b4, b5, b6, b7⟩
  · rw [h2] at b1; cases b1
  rw [h2] at b1
  cases b1
  have hv0 : vis 0 u = 0 := rfl
  have hm0 : (mks 0 u).length = 0 := rfl
  have hj : j < l.length := by omega
  have hg : getL l j (dfl u) = l[j] := by unfold getL; rw [List.getD_eq_getElem?_getD, List.getElem?_eq_getElem hj]; rfl
  rw [hg] at hq
  obtain ⟨us, c1, c2⟩ := b6 j hj
  have hul := c1.len
  have kx := (S.ev hz).cells hc
  have hlen := kx.1
  have hroom : (j + 1) * u.size ≤ vs.size := by
    rw [b3]
    exact Nat.mul_le_mul_right _ (by omega)
  rw [Nat.add_mul, Nat.one_mul] at hroom
  have hvl : vs.toList.length = vs.size := Array.length_toList
  have hb : (j * u.size + off) + (a.eval z).cells.toList.length ≤ vs.toList.length := by omega
  have hr : (execOp a.eval o).run P w = .ok .skip (w.setRow g (vs.toList.take (j * u.size + off + 0) ++ (a.eval z).cells.toList ++ vs.toList.drop (j * u.size + off + 0 + (a.eval z).cells.toList.length)).toArray) := by
    unfold execOp
    rw [ho]
    refine op_unit_of ?_
    simp only [Instr.storeAt, Instr.sureAddr, h3, Sem.run_bind, Sem.run_pure, Result.andThen, storeVar, hy.run_size w]
    rw [if_neg (by simp only [ne_eq, Decidable.not_not]; rw [← Array.length_toList, hlen, hs])]
    exact run_storeCells_at P g (j * u.size + off) et _ 0 vs w b2 (by omega) (kx.ones (noUd_not hu))
  rw [Nat.add_zero] at hr
  generalize hV : vs.toList.take (j * u.size + off) ++ (a.eval z).cells.toList ++ vs.toList.drop (j * u.size + off + (a.eval z).cells.toList.length) = V at hr
  have hVk : ∀ k, V[k]? = if k < j * u.size + off then vs.toList[k]? else if k < j * u.size + off + (a.eval z).cells.toList.length then (a.eval z).cells.toList[k - (j * u.size + off)]? else vs.toList[k]? := fun k => by
    rw [← hV]
    exact over_get hb k
  have hVl : V.length = vs.size := by
    rw [← hV, List.length_append, List.length_append, List.length_take, List.length_drop]
    omega
  have hg' := setRow_heap w g vs V.toArray et (0, 0) b2
  have hgrow : w.grownBy (w.setRow g V.toArray) (some g) := ⟨rfl, rfl, rfl, by simp [World.setRow], fun k _ hk => setRow_other w g k _ (fun e => hk (by rw [e]))⟩
  have st : Stay c.Z w (w.setRow g V.toArray) := fun k hk => setRow_other w g k _ (fun e => S.zo i _ e1 g hO rfl h1 (Ent.has_bl h2) (e ▸ hk))
  have old : ∀ (k : Nat) (u' : Value), w.cell? ⟨g, k, none⟩ = some u' ↔ vs.toList[k]? = some u' := fun k u' => by
    rw [cell_of b2, Array.getElem?_toList]
  have new : ∀ (k : Nat) (u' : Value), V[k]? = some u' → (w.setRow g V.toArray).cell? ⟨g, k, none⟩ = some u' := fun k u' hk => by
    rw [cell_of hg']
    simpa using hk
  refine Done.skip S hd hr (S.write hd hO rfl h1 h2 hgrow rfl ⟨e1, h1, k0, by rw [List.length_set]; exact k2, .inr ⟨g, V.toArray, h2, hg', by rw [List.size_toArray, hVl, b3], by rw [List.length_set]; exact b4, b5, fun k hk => ?_, fun j us hj => by cases hj⟩⟩ (fun _ hv => by cases hv))
  have hk' : k < l.length := by rw [List.length_set] at hk; exact hk
  by_cases hkj : k = j
  · subst hkj
    refine ⟨us.take off ++ (a.eval z).cells.toList ++ us.drop (off + (a.eval z).cells.toList.length), ?_, fun p u' hp => ?_⟩
    · have h4 := toE_none ((c1.cel (c := c)).over kx off) hq
      have : (l.set k q)[k]'hk = q := List.getElem_set_self ..
      rw [this]
      exact h4.mono (fun _ h => h) st
    · rw [over_get (by omega)] at hp
      refine new _ _ ?_
      rw [hVk]
      have hps : p < u.size := by
        split at hp
        · omega
        · split at hp
          · omega
          · have := (List.getElem?_eq_some_iff.1 hp).1; omega
      by_cases p1 : p < off
      · rw [if_pos p1] at hp
        rw [if_pos (by omega)]
        have := (old _ _).1 (c2 p u' hp)
        rw [Nat.zero_add] at this
        rw [Nat.zero_add]
        exact this
      · rw [if_neg p1] at hp
        rw [if_neg (by omega)]
        by_cases p2 : p < off + (a.eval z).cells.toList.length
        · rw [if_pos p2] at hp
          rw [if_pos (by omega), show 0 + (k * u.size + p) - (k * u.size + off) = p - off by omega]
          exact hp
        · rw [if_neg p2] at hp
          rw [if_neg (by omega)]
          exact (old _ _).1 (c2 p u' hp)
  · obtain ⟨us', d1, d2⟩ := b6 k hk'
    refine ⟨us', ?_, fun p u' hp => new _ _ ?_⟩
    · have : (l.set j q)[k]'hk = l[k] := List.getElem_set_ne (fun e => hkj e.symm) _
      rw [this]
      exact d1.mono (fun _ h => h) st
    · have hps : p < u.size := by rw [← d1.len]; exact (List.getElem?_eq_some_iff.1 hp).1
      rw [hVk, Nat.zero_add]
      have := (old _ _).1 (d2 p u' hp)
      rw [Nat.zero_add] at this
      rcases idx_out (j := j) (k := k) (off := off) (n := xs.length) hps hle hkj with h | h
      · rw [if_pos h]
        exact this
      · rw [if_neg (by omega), if_neg (by omega)]
        exact this
end
end Go.Proofs.YtjoonfegjobgbaaGreatDoor
