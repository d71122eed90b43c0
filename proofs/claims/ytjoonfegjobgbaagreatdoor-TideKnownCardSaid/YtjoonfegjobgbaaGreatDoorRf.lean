/- Texts of this claim, joined: A11b A12 A13. -/
import Derived.Test.YtjoonfegjobgbaaGreatDoorRe
set_option linter.unusedVariables false
set_option linter.unusedSimpArgs false
set_option maxRecDepth 100000
namespace Go.Proofs.YtjoonfegjobgbaaGreatDoor
open Go Go.RowKit
theorem RW.flAt {Z : Nat → Prop} {w : World} {t : Ty} {l : List (El t)} {g : Nat} (h : RW Z w t l g 0) {vs : Array Value} {et : TypeId} {fr : Nat × Nat} (hg : w.heap[g]? = some (.cells vs et fr)) (hs : l.length * t.size ≤ vs.size) : FL Z w t l (vs.toList.take (l.length * t.size)) := by
  refine ⟨by rw [List.length_take, Array.length_toList]; exact Nat.min_eq_left hs, fun j hj => ?_⟩
  obtain ⟨us, h1, h2⟩ := h j hj
  have hu := h1.len
  have hj' : (j + 1) * t.size ≤ l.length * t.size := Nat.mul_le_mul_right _ hj
  rw [Nat.add_mul, Nat.one_mul] at hj'
  have e : ((vs.toList.take (l.length * t.size)).drop (j * t.size)).take t.size = us := by
    apply List.ext_getElem?
    intro i
    rw [drop_take_sub]
    by_cases hi : i < t.size
    · rw [if_pos hi, List.getElem?_take, if_pos (by omega)]
      have hi' : i < us.length := by omega
      rw [List.getElem?_eq_getElem hi']
      have := h2 i _ (List.getElem?_eq_getElem hi')
      rw [cell_of hg, Nat.zero_add] at this
      simpa using this
    · rw [if_neg hi, List.getElem?_eq_none (by omega)]
  rw [e]
  exact h1
theorem RW.el {Z : Nat → Prop} {w : World} {t : Ty} {l : List (El t)} {g : Nat} (h : RW Z w t l g 0) {vs : Array Value} {et : TypeId} {fr : Nat × Nat} (hg : w.heap[g]? = some (.cells vs et fr)) (hs : l.length * t.size ≤ vs.size) (j : Nat) (hj : j < l.length) : RT Z w t (l[j]'hj) ((vs.toList.drop (j * t.size)).take t.size) := by
  have := (h.flAt hg hs).at_ j hj
  have hj' : (j + 1) * t.size ≤ l.length * t.size := Nat.mul_le_mul_right _ hj
  rw [Nat.add_mul, Nat.one_mul] at hj'
  rw [List.drop_take, List.take_take, Nat.min_eq_left (by omega)] at this
  exact this
theorem MK.cells {w : World} {s : Nat} {ms : List (List Value)} {g o : Nat} (h : MK w s ms g o) {vs : Array Value} {et : TypeId} {fr : Nat × Nat} (hg : w.heap[g]? = some (.cells vs et fr)) {j : Nat} {us : List Value} (hj : ms[j]? = some us) (hl : us.length = s) (hs : o + (j + 1) * s ≤ vs.size) : (vs.toList.drop (o + j * s)).take s = us := by
  apply List.ext_getElem?
  intro i
  rw [Nat.add_mul, Nat.one_mul] at hs
  by_cases hi : i < s
  · rw [List.getElem?_take, if_pos hi, List.getElem?_drop]
    have hi' : i < us.length := by omega
    have := h j us hj i _ (List.getElem?_eq_getElem hi')
    rw [cell_of hg] at this
    rw [List.getElem?_eq_getElem hi', ← this, Array.getElem?_toList]
    congr 1
    omega
  · rw [List.getElem?_eq_none (by rw [List.length_take]; omega), List.getElem?_eq_none (by omega)]
theorem mks_len_us {m : Nat} {t : Ty} {j : Nat} {us : List Value} (h : (mks m t)[j]? = some us) : us.length = t.size := by
  have key : ∀ (l : List (El (unl t))), (∀ x ∈ l, x ∈ mkv t) → (l.map (vcs (unl t)))[j]? = some us → us.length = t.size := fun l hl h => by
    have := List.mem_of_getElem? h
    obtain ⟨x, hx, rfl⟩ := List.mem_map.1 this
    rw [vcs_len _ _ (marks_ok t x (hl x hx)), unl_size]
  unfold mks at h
  split at h
  · simp at h
  · exact key _ (fun x hx => hx) h
  · exact key _ (fun x hx => List.mem_of_mem_take hx) h
theorem rowQ_of_ty {Z Z' : Nat → Prop} {w : World} {base : Nat} {t : Ty} {l : List (El t)} {m g : Nat} {e : Ent} {vs : Array Value} (hf : t.flat = true) (h0 : e.ds = []) (hb : base ≤ g) (k1 : e.bl = some g) (k2 : w.heap[g]? = some (.cells vs (eidS t) (0, 0))) (k3 : vs.size = e.cp * t.size) (k4 : l.length + (mks m t).length ≤ e.cp) (k5 : e.cp ≤ maxI) (k6 : RW Z w t l g 0) (k7 : MK w t.size (mks m t) g (l.length * t.size)) :
    rowQ w base t (fun x us b => RQ true Z' w base t x us b) l (mks m t) e.ln [entV e] e.all := by
  have hle : ∀ n, n ≤ e.cp → n * t.size ≤ vs.size := fun n hn => by rw [k3]; exact Nat.mul_le_mul_right _ hn
  refine ⟨g, e.cp, vs, List.replicate l.length [], by unfold entV; rw [k1]; rfl, ?_, hb, k2, k3, k4, k5, by simp, fun j hj b hbj => ?_, fun j us hj => ?_⟩
  · unfold Ent.all
    rw [k1, h0]
    simp
  · have : b = [] := List.eq_of_mem_replicate (List.mem_of_getElem? hbj)
    subst this
    exact RQ.flat_of hf ((k6.el k2 (hle _ (by omega)) j hj).flat_ hf)
  · have hjl := (List.getElem?_eq_some_iff.1 hj).1
    rw [Nat.add_mul]
    refine k7.cells k2 hj (mks_len_us hj) ?_
    rw [← Nat.add_mul]
    exact hle _ (by omega)
theorem ty_of_rowQ {Z Z' : Nat → Prop} {w : World} {base : Nat} {t : Ty} {l : List (El t)} {m n : Nat} {vs : List Value} {bs : List Nat} (hf : t.flat = true) (h : rowQ w base t (fun x us b => RQ true Z' w base t x us b) l (mks m t) n vs bs) :
    ∃ g cp cells, vs = [.slice (some ⟨g, 0, none⟩) n cp] ∧ bs = [g] ∧ base ≤ g ∧ w.heap[g]? = some (.cells cells (eidS t) (0, 0)) ∧ cells.size = cp * t.size ∧ l.length + (mks m t).length ≤ cp ∧ cp ≤ maxI ∧ RW Z w t l g 0 ∧ MK w t.size (mks m t) g (l.length * t.size) := by
  obtain ⟨g, cp, cells, bb, h1, h2, h3, h4, h5, h6, h7, h8, h9, h10⟩ := h
  have hbb : ∀ b ∈ bb, b = [] := fun b hb => by
    obtain ⟨j, hj, rfl⟩ := List.getElem_of_mem hb
    exact ((h9 j (by omega) _ (List.getElem?_eq_getElem hj)).flat_to hf).2
  refine ⟨g, cp, cells, h1, ?_, h3, h4, h5, h6, h7, fun j hj => ?_, fun j us hj i u hu => ?_⟩
  · rw [h2, List.flatten_eq_nil_iff.2 hbb]
  · have hj2 : j < bb.length := by omega
    have := (h9 j hj _ (List.getElem?_eq_getElem hj2)).flat_to hf
    refine ⟨_, this.1.flat_ hf, fun i u hu => ?_⟩
    rw [Nat.zero_add]
    exact cells_at h4 rfl i u hu
  · have := cells_at h4 (h10 j us hj) i u hu
    rw [Nat.add_mul] at this
    rw [show l.length * t.size + (j * t.size + i) = l.length * t.size + j * t.size + i by omega]
    exact this
theorem rowQ.forget {w : World} {base : Nat} {t : Ty} {R : El t → List Value → List Nat → Prop} {l : List (El t)} {ms : List (List Value)} {n : Nat} {vs : List Value} {bs : List Nat} (h : rowQ w base t R l ms n vs bs) : rowQ w base t R l [] n vs bs := by
  obtain ⟨g, cp, cells, bb, h1, h2, h3, h4, h5, h6, h7, h8, h9, h10⟩ := h
  exact ⟨g, cp, cells, bb, h1, h2, h3, h4, h5, by simp; omega, h7, h8, h9, fun j us hj => by simp at hj⟩
theorem rowQ.cv {Z : Nat → Prop} {w : World} {base : Nat} {u t : Ty} {l : List (El u)} {m : Nat} {x : List (El t)} {vs : List Value} {bs : List Nat} (h : rowQ w base u (fun x us b => RQ true Z w base u x us b) l (mks m u) (l.length + vis m u) vs bs) (k : cvM m u t l = some x) :
    rowQ w base t (fun x us b => RQ true Z w base t x us b) x [] x.length vs bs := by
  have plain : vis m u = 0 → cvL u t l = some x → rowQ w base t (fun x us b => RQ true Z w base t x us b) x [] x.length vs bs := fun h0 k => by
    rw [h0, Nat.add_zero] at h
    unfold cvL at k
    split at k
    · obtain ⟨rfl, rfl⟩ := cast_eq k
      exact h.forget
    · obtain ⟨rfl, rfl⟩ := cast_eq k
      have := rowQ.un (mv := []) (fun x hx => by cases hx) ⟨mks m u, rfl⟩ rfl (RQ.un u) h
      rw [List.append_nil, ← unL_eq] at this
      exact this
  unfold cvM at k
  split at k
  · exact plain rfl k
  · exact plain rfl k
  · rename_i h0 h4
    obtain ⟨rfl, rfl⟩ := cast_eq k
    show rowQ w base (unl u) _ (seen m u l) [] (seen m u l).length vs bs
    have e : seen m u l = List.map (unE u) l ++ (mkv u).take m := by
      unfold seen
      split
      · exact absurd rfl h0
      · exact absurd rfl h4
      · rw [unL_eq]
    have e2 : mks m u = ((mkv u).take m).map (vcs (unl u)) := by
      unfold mks
      split
      · exact absurd rfl h0
      · exact absurd rfl h4
      · rfl
    have e3 : vis m u = ((mkv u).take m).length := by
      unfold vis
      split
      · exact absurd rfl h0
      · exact absurd rfl h4
      · rfl
    rw [e]
    exact rowQ.un (mv := (mkv u).take m) (fun x hx => marks_ok u x (List.mem_of_mem_take hx)) ⟨[], by rw [List.append_nil]; exact e2⟩ (by rw [e3]) (RQ.un u) h
section
variable {P : Program} {C : Cfg} {gp : Option Nat} {Z0 Z Z' : Nat → Prop} {w0 : Base} {w w' : World} {D D' : Nat → Prop} {c c' : Cf} {T : Nat → Option AV} {O O' : Store} {a : Act} {o : Oper}
theorem Sim.gp_not {N : Nat} (S : Sim gp Z0 w0 N D c T O a.tmps w) {i : Nat} {p : Ob} {f : Ent} {g : Nat} (h1 : O i = some p) (h2 : p.live = true) (h3 : ∀ cs, p ≠ .var cs) (h4 : c.m i = some f) (h5 : f.has g) : w0.heap.size ≤ g := by
  rcases S.bs i p f g h1 h2 h4 h5 with h | h
  · exact h
  · obtain ⟨cs, e, q1, q2, q3⟩ := S.gpv g h
    exact absurd (Ent.has_bl q3) (S.inj i 0 p _ f e g h1 q1 h2 rfl (fun e => by subst e; rw [h1] at q1; cases q1; exact h3 _ rfl) h4 q2 h5)
def blks (c : Cf) (l : List Nat) : List Nat := l.flatMap fun i => match c.m i with
  | some e => e.all
  | none => []
theorem blks_one {c : Cf} {i : Nat} {e : Ent} (h : c.m i = some e) : blks c [i] = e.all := by simp [blks, h]
theorem blks_app (c : Cf) (l m : List Nat) : blks c (l ++ m) = blks c l ++ blks c m := by unfold blks; rw [List.flatMap_append]
theorem toR_nop (O : Store) : ∀ {t : Ty} (cs : List Ce), t.nop = true → toR O t cs = toE O t cs
  | .pr a b, cs, h => by
    simp only [Ty.nop, Bool.and_eq_true] at h
    unfold toR toE
    rw [toR_nop O _ h.1, toR_nop O _ h.2]
  | .pt _, _, h => by cases h
  | .fn, _, h => by cases h
  | .bo, _, _ => rfl
  | .it _, _, _ => rfl
  | .st, _, _ => rfl
  | .un, _, _ => rfl
  | .oq, _, _ => rfl
  | .sl _, _, _ => rfl
  | .lt _, _, _ => rfl
  | .lf _, _, _ => rfl
theorem blks_flat (c : Cf) : ∀ ls : List (List Nat), blks c ls.flatten = (ls.map (blks c)).flatten
  | [] => rfl
  | l :: ls => by rw [List.flatten_cons, blks_app, blks_flat c ls]; rfl
theorem frsI_sound {N : Nat} (S : Sim gp Z0 w0 N D c T O a.tmps w) (hO : ∀ i o, O' i = some o → O i = some o) {t : Ty} {i : Nat} {l : List Nat} {x : List (El t)} {v : Value} {f : List Ce → Option (List Nat)} (ih : ∀ {cs : List Ce} {l : List Nat} {x : El t} {vs : List Value}, f cs = some l → toR O' t cs = some x → RL c w vs cs → RQ true c.Z w w0.heap.size t x vs (blks c l) ∧ ∀ i ∈ l, ∃ o, O i = some o ∧ o.live = true ∧ (i = 0 → ∀ cs, o ≠ .var cs)) (h : frsI O' t f i = some l) (k : toL O' t (toE O' t) [.ow i] = some x) (hv : RC c w v (.ow i)) : RQ true c.Z w w0.heap.size (.sl t) x [v] (blks c l) ∧ ∀ j ∈ l, ∃ o, O j = some o ∧ o.live = true ∧ (j = 0 → ∀ cs, o ≠ .var cs) := by
  obtain ⟨en, q1, rfl⟩ := hv
  unfold frsI at h
  unfold toL at k
  simp only [] at k
  split at h
  · rename_i e u l' m hi
    simp only [hi] at k
    cases hb : (decide (u = t) && t.flat && Nat.beq e (eidS t) && (Nat.beq m 0 || Nat.beq m 4)) with
    | false => rw [hb] at h; cases h
    | true =>
      rw [hb] at h
      cases h
      simp only [Bool.and_eq_true, decide_eq_true_eq] at hb
      obtain ⟨⟨⟨rfl, hb1⟩, hb2⟩, hb3⟩ := hb
      have he := Nat.eq_of_beq_eq_true hb2
      subst he
      obtain ⟨en', r1, r0, r2, r3⟩ := S.obj i _ (hO _ _ hi)
      rw [q1] at r1; cases r1
      refine ⟨?_, fun j hj => ?_⟩
      · rw [blks_one q1]
        unfold RQ
        rw [if_pos rfl]
        rcases r3 with ⟨b1, b2, rfl, rfl⟩ | ⟨g, cells, b1, b2, b3, b4, b5, b6, b7⟩
        · have : x = [] := List.eq_nil_of_length_eq_zero (by rw [(cvM_len k).1]; rfl)
          exact .inl ⟨this, by rw [b1, b2, r2]; rfl, by simp [Ent.all, b1, r0]⟩
        · have hm : vis m u = 0 := by
            rw [Bool.or_eq_true] at hb3
            rcases hb3 with h | h <;> (rw [Nat.eq_of_beq_eq_true h]; rfl)
          have := rowQ_of_ty (Z' := c.Z) hb1 r0 (S.gp_not (hO _ _ hi) rfl (fun cs h => by cases h) q1 (Ent.has_bl b1)) b1 b2 b3 b4 b5 b6 b7
          rw [r2] at this
          exact .inr (this.cv k)
      · rw [List.mem_singleton] at hj
        subst hj
        exact ⟨_, hO _ _ hi, rfl, fun _ cs h => by cases h⟩
  · rename_i e u l' m hi
    simp only [hi] at k
    cases hb : ((decide (u = t) || decide (unl u = t)) && Nat.beq e (eidS t) && (Nat.beq m 0 || Nat.beq m 4 || decide (unl u = t))) with
    | false => rw [hb] at h; cases h
    | true =>
      rw [hb] at h
      cases h
      obtain ⟨en', r1, r2, r3, r4, r5⟩ := S.obj i _ (hO _ _ hi)
      rw [q1] at r1; cases r1
      refine ⟨?_, fun j hj => ?_⟩
      · rw [blks_one q1]
        unfold RQ
        rw [if_pos rfl]
        rcases r5 with ⟨b1, b2, b3, rfl, rfl, b6⟩ | hq
        · have : x = [] := List.eq_nil_of_length_eq_zero (by rw [(cvM_len k).1]; rfl)
          exact .inl ⟨this, by rw [b1, b2, b3]; rfl, by simp [Ent.all, b1, b6]⟩
        · have hbase : ∀ g ∈ en.all, w0.heap.size ≤ g := fun g hg => S.gp_not (hO _ _ hi) rfl (fun cs h => by cases h) q1 hg
          have := hq.imp (w' := w) (base' := w0.heap.size) (R' := fun x us b => RQ true c.Z w w0.heap.size u x us b) (fun g hg _ => hbase g hg) (fun _ _ => rfl) (fun x us b hs h => h.mono (fun g hg _ => hbase g (hs g hg)) (fun _ _ => rfl))
          exact .inr (this.cv k)
      · rw [List.mem_singleton] at hj
        subst hj
        exact ⟨_, hO _ _ hi, rfl, fun _ cs h => by cases h⟩
  · rename_i e u es hi
    simp only [hi] at k
    cases hb : (Nat.beq e (eidS t) && (Nat.beq u.size t.size && t.nop)) with
    | false => rw [hb] at h; cases h
    | true =>
      rw [hb] at h
      simp only [Bool.and_eq_true] at hb
      obtain ⟨hb1, hb2, hb3⟩ := hb
      have he := Nat.eq_of_beq_eq_true hb1
      have hs := Nat.eq_of_beq_eq_true hb2
      simp only [cond_true] at h
      split at h
      · rename_i ls hm
        cases h
        obtain ⟨m1, m2⟩ := mapO_at hm
        obtain ⟨n1, n2⟩ := mapO_at k
        obtain ⟨en', g, vs, k1, k0, k2, k3, k4, k5, k6, k7, k8⟩ := S.obj i _ (hO _ _ hi)
        rw [q1] at k1; cases k1
        have el : ∀ (j : Nat) (hj : j < x.length) (lj : List Nat), ls[j]? = some lj → RQ true c.Z w w0.heap.size t (x[j]) ((vs.toList.drop (j * t.size)).take t.size) (blks c lj) ∧ ∀ i ∈ lj, ∃ o, O i = some o ∧ o.live = true ∧ (i = 0 → ∀ cs, o ≠ .var cs) := fun j hj lj hl => by
          obtain ⟨cs, c1, c2⟩ := m2 j lj hl
          obtain ⟨cs', d1, d2⟩ := n2 j _ (List.getElem?_eq_getElem hj)
          rw [c1] at d1; cases d1
          have := (k8 j cs c1).2
          rw [hs] at this
          exact ih c2 (by rw [toR_nop O' cs hb3]; exact d2) this
        refine ⟨?_, fun j hj => ?_⟩
        · unfold RQ
          rw [if_pos rfl]
          refine .inr ⟨g, es.length, vs, ls.map (blks c), ?_, ?_, S.gp_not (hO _ _ hi) rfl (fun cs h => by cases h) q1 (Ent.has_bl k5), by rw [← he]; exact k6, by rw [k7, hs], by rw [n1]; exact Nat.le_refl _, k4, by rw [List.length_map, ← m1, n1], fun j hj b hb => ?_, fun j us hj => by simp at hj⟩
          · rw [k5, k2, k3, n1]
            rfl
          · rw [show i :: ls.flatten = [i] ++ ls.flatten from rfl, blks_app, blks_one q1, blks_flat]
            unfold Ent.all
            rw [k5, k0]
            rfl
          · rw [List.getElem?_map] at hb
            obtain ⟨lj, hl, rfl⟩ := Option.map_eq_some_iff.1 hb
            exact (el j hj lj hl).1
        · rcases List.mem_cons.1 hj with rfl | hj
          · exact ⟨_, hO _ _ hi, rfl, fun _ cs h => by cases h⟩
          · obtain ⟨lj, hl, hjl⟩ := List.mem_flatten.1 hj
            obtain ⟨n, hn, rfl⟩ := List.getElem_of_mem hl
            exact (el n (by rw [← n1, m1]; exact hn) _ (List.getElem?_eq_getElem hn)).2 j hjl
      · cases h
  · cases h
theorem dp_base {N : Nat} (S : Sim gp Z0 w0 N D c T O a.tmps w) {i e m : Nat} {t : Ty} {l : List (El t)} {en : Ent} (hi : O i = some (.dp e t l m)) (q1 : c.m i = some en) (hm : m ≠ 0) : rowQ w w0.heap.size t (fun x us b => RQ true c.Z w w0.heap.size t x us b) l (mks m t) (l.length + vis m t) [entV en] en.all ∧ e = eidS t := by
  obtain ⟨en', r1, r2, r3, r4, r5⟩ := S.obj i _ hi
  rw [q1] at r1; cases r1
  rcases r5 with ⟨b1, b2, b3, _, b5, b6⟩ | hq
  · exact absurd b5 hm
  · have hbase : ∀ g ∈ en.all, w0.heap.size ≤ g := fun g hg => S.gp_not hi rfl (fun cs h => by cases h) q1 hg
    exact ⟨hq.imp (w' := w) (base' := w0.heap.size) (R' := fun x us b => RQ true c.Z w w0.heap.size t x us b) (fun g hg _ => hbase g hg) (fun _ _ => rfl) (fun x us b hs h => h.mono (fun g hg _ => hbase g (hs g hg)) (fun _ _ => rfl)), r4⟩
theorem frsE_sound {N : Nat} (S : Sim gp Z0 w0 N D c T O a.tmps w) (hO : ∀ i o, O' i = some o → O i = some o) : ∀ {t : Ty} {cs : List Ce} {l : List Nat} {x : El t} {vs : List Value}, frsE O' t cs = some l → toR O' t cs = some x → RL c w vs cs → RQ true c.Z w w0.heap.size t x vs (blks c l) ∧ ∀ i ∈ l, ∃ o, O i = some o ∧ o.live = true ∧ (i = 0 → ∀ cs, o ≠ .var cs)
  | .bo, cs, l, x, vs, h, k, hv => by
    cases h
    refine ⟨⟨(toE_sound (O := fun _ => none) (fun i o h => by cases h) .bo cs vs x hv (by unfold toR at k; exact k)).flat_ rfl, rfl⟩, fun i hi => by cases hi⟩
  | .it _, cs, l, x, vs, h, k, hv => by
    cases h
    refine ⟨⟨(toE_sound (O := fun _ => none) (fun i o h => by cases h) (.it _) cs vs x hv (by unfold toR at k; exact k)).flat_ rfl, rfl⟩, fun i hi => by cases hi⟩
  | .st, cs, l, x, vs, h, k, hv => by
    cases h
    refine ⟨⟨(toE_sound (O := fun _ => none) (fun i o h => by cases h) .st cs vs x hv (by unfold toR at k; exact k)).flat_ rfl, rfl⟩, fun i hi => by cases hi⟩
  | .oq, cs, l, x, vs, h, k, hv => by
    cases h
    refine ⟨⟨(toE_sound (O := fun _ => none) (fun i o h => by cases h) .oq cs vs x hv (by unfold toR at k; exact k)).flat_ rfl, rfl⟩, fun i hi => by cases hi⟩
  | .un, cs, l, x, vs, h, k, hv => by
    cases h
    have := toE_sound (O := fun _ => none) (fun i o h => by cases h) .un cs vs x hv (by unfold toR at k; exact k)
    rw [RT] at this
    exact ⟨⟨this, rfl⟩, fun i hi => by cases hi⟩
  | .fn, _, _, _, _, h, _, _ => by unfold frsE at h; cases h
  | .lt t, cs, l, x, vs, h, k, hv => by
    have h : frsT O' t cs = some l := h
    have k : toLt O' t cs = some x := k
    unfold frsT at h
    split at h
    · rename_i i _ _
      split at h
      · rename_i e u l' hi
        cases hb : (decide (u = t) && t.flat && Nat.beq e (eidS t)) with
        | false => rw [hb] at h; cases h
        | true =>
          rw [hb] at h
          cases h
          simp only [Bool.and_eq_true, decide_eq_true_eq] at hb
          obtain ⟨⟨rfl, hb1⟩, hb2⟩ := hb
          have he := Nat.eq_of_beq_eq_true hb2
          subst he
          unfold toLt at k
          simp only [hi] at k
          obtain ⟨_, rfl⟩ := cast_eq k
          obtain ⟨v, rfl, en, q1, rfl⟩ := hv.single
          obtain ⟨en', r1, r0, r2, r3⟩ := S.obj i _ (hO _ _ hi)
          rw [q1] at r1; cases r1
          refine ⟨?_, fun j hj => ?_⟩
          · rw [blks_one q1]
            unfold RQ
            rw [if_pos rfl]
            rcases r3 with ⟨_, _, _, b⟩ | ⟨g, cells, b1, b2, b3, b4, b5, b6, b7⟩
            · cases b
            · have := rowQ_of_ty (Z' := c.Z) hb1 r0 (S.gp_not (hO _ _ hi) rfl (fun cs h => by cases h) q1 (Ent.has_bl b1)) b1 b2 b3 b4 b5 b6 b7
              rw [show en.ln = x.length from r2] at this
              exact this
          · rw [List.mem_singleton] at hj
            subst hj
            exact ⟨_, hO _ _ hi, rfl, fun _ cs h => by cases h⟩
      · rename_i e u l' hi
        cases hb : (decide (u = t) && Nat.beq e (eidS t)) with
        | false => rw [hb] at h; cases h
        | true =>
          rw [hb] at h
          cases h
          simp only [Bool.and_eq_true, decide_eq_true_eq] at hb
          obtain ⟨rfl, hb2⟩ := hb
          unfold toLt at k
          simp only [hi] at k
          obtain ⟨_, rfl⟩ := cast_eq k
          obtain ⟨v, rfl, en, q1, rfl⟩ := hv.single
          refine ⟨?_, fun j hj => ?_⟩
          · rw [blks_one q1]
            unfold RQ
            rw [if_pos rfl]
            exact (dp_base S (hO _ _ hi) q1 (by decide)).1
          · rw [List.mem_singleton] at hj
            subst hj
            exact ⟨_, hO _ _ hi, rfl, fun _ cs h => by cases h⟩
      · cases h
    · cases h
  | .lf t, cs, l, x, vs, h, k, hv => by
    have h : frsF O' t cs = some l := h
    have k : toLf O' t cs = some x := k
    unfold frsF at h
    split at h
    · rename_i i _ _
      split at h
      · rename_i e u l' hi
        cases hb : (decide (u = t) && Nat.beq e (eidS t)) with
        | false => rw [hb] at h; cases h
        | true =>
          rw [hb] at h
          cases h
          simp only [Bool.and_eq_true, decide_eq_true_eq] at hb
          obtain ⟨rfl, hb2⟩ := hb
          unfold toLf at k
          simp only [hi] at k
          obtain ⟨_, rfl⟩ := cast_eq k
          obtain ⟨v, rfl, en, q1, rfl⟩ := hv.single
          refine ⟨?_, fun j hj => ?_⟩
          · rw [blks_one q1]
            unfold RQ
            rw [if_pos rfl, mks_vis (by decide)]
            exact (dp_base S (hO _ _ hi) q1 (by decide)).1
          · rw [List.mem_singleton] at hj
            subst hj
            exact ⟨_, hO _ _ hi, rfl, fun _ cs h => by cases h⟩
      · cases h
    · cases h
  | .pr u y, cs, l, x, vs, h, k, hv => by
    unfold frsE at h
    unfold toR at k
    split at h
    · rename_i l1 l2 h1 h2
      cases h
      split at k
      · rename_i x1 x2 k1 k2
        cases k
        obtain ⟨p1, p2⟩ := frsE_sound S hO h1 k1 (hv.take _)
        obtain ⟨q1, q2⟩ := frsE_sound S hO h2 k2 (hv.drop _)
        refine ⟨⟨_, _, _, _, (List.take_append_drop u.size vs).symm, blks_app _ _ _, p1, q1⟩, fun i hi => ?_⟩
        rcases List.mem_append.1 hi with hi | hi
        · exact p2 i hi
        · exact q2 i hi
      · cases k
    · cases h
  | .pt t, cs, l, x, vs, h, k, hv => by
    have h : frsP O' t cs = some l := h
    have k : toP O' t cs = some x := k
    unfold frsP at h
    split at h
    · rename_i i _ _
      split at h
      · rename_i ds hi
        cases hb : (t.flat && !Nat.beq i 0) with
        | false => rw [hb] at h; cases h
        | true =>
          rw [hb] at h
          cases h
          simp only [Bool.and_eq_true, Bool.not_eq_true'] at hb
          unfold toP at k
          simp only [hi] at k
          obtain ⟨v, rfl, e, g, q1, q2, rfl⟩ := hv.single
          obtain ⟨e', g', cells, et, r1, r2, r0, r3, r4⟩ := S.obj i _ (hO _ _ hi)
          rw [q1] at r1; cases r1
          rw [q2] at r2; cases r2
          have hne : i ≠ 0 := fun e0 => by rw [e0] at hb; exact absurd hb.2 (by decide)
          have hbase : w0.heap.size ≤ g := by
            rcases S.bs i _ e g (hO _ _ hi) rfl q1 (Ent.has_bl q2) with hb' | hb'
            · exact hb'
            · obtain ⟨cs', f, y1, y2, y3⟩ := S.gpv g hb'
              exact absurd (Ent.has_bl y3) (S.inj i 0 _ _ e f g (hO _ _ hi) y1 rfl rfl hne q1 y2 (Ent.has_bl q2))
          refine ⟨⟨g, cells, et, rfl, by rw [blks_one q1]; simp [Ent.all, q2, r0], hbase, r3, hb.1, (toE_sound (O := O') (fun i o h => S.obj i o (hO i o h)) t _ _ _ r4 k).flat_ hb.1⟩, fun j hj => ?_⟩
          rw [List.mem_singleton] at hj
          subst hj
          exact ⟨_, hO _ _ hi, rfl, fun e0 => absurd e0 hne⟩
      · cases h
    · cases h
  | .sl t, cs, l, x, vs, h, k, hv => by
    have h : frsL O' t (frsE O' t) cs = some l := h
    have k : toL O' t (toE O' t) cs = some x := k
    unfold frsL at h
    split at h
    · cases h
      obtain ⟨v, rfl, hv'⟩ := hv.single
      have k' : x = [] := by unfold toL at k; simpa using k.symm
      subst k'
      refine ⟨?_, fun i hi => by cases hi⟩
      unfold RQ
      rw [if_pos rfl]
      exact .inl ⟨rfl, by rw [show v = _ from hv'], rfl⟩
    · obtain ⟨v, rfl, hv'⟩ := hv.single
      exact frsI_sound S hO (fun h k hv => frsE_sound S hO h k hv) h k hv'
    · cases h
theorem nodupN_sound : ∀ {l : List Nat}, nodupN l = true → l.Nodup
  | [], _ => List.nodup_nil
  | i :: l, h => by
    simp only [nodupN, Bool.and_eq_true] at h
    refine List.nodup_cons.2 ⟨fun hm => ?_, nodupN_sound h.2⟩
    have := List.all_eq_true.1 h.1 i hm
    rw [Nat.beq_refl] at this
    cases this
theorem ObOk.nodup {i : Nat} {e : Ent} : ∀ {o : Ob}, ObOk c w i o → o.live = true → c.m i = some e → e.all.Nodup
  | .var _, h, _, k => by
    obtain ⟨e', g, vs, et, h1, h2, h3, _⟩ := h
    rw [k] at h1; cases h1
    simp [Ent.all, h2, h3]
  | .ty _ _ _ _, h, _, k => by
    obtain ⟨e', h1, h0, h2, h3⟩ := h
    rw [k] at h1; cases h1
    unfold Ent.all
    rw [h0]
    cases e.bl <;> simp
  | .ce _ _ _, h, _, k => by
    obtain ⟨e', g, vs, h1, h0, _⟩ := h
    rw [k] at h1; cases h1
    unfold Ent.all
    rw [h0]
    cases e.bl <;> simp
  | .dp _ _ _ _, h, _, k => by
    obtain ⟨e', h1, h2, _⟩ := h
    rw [k] at h1; cases h1
    exact h2
  | .fz _ _ _, _, h, _ => by cases h
  | .dead, _, h, _ => by cases h
theorem blks_mem {c : Cf} {l : List Nat} {g : Nat} (h : g ∈ blks c l) : ∃ i e, i ∈ l ∧ c.m i = some e ∧ e.has g := by
  obtain ⟨i, hi, hg⟩ := List.mem_flatMap.1 h
  cases hm : c.m i with
  | none => rw [hm] at hg; cases hg
  | some e => rw [hm] at hg; exact ⟨i, e, hi, hm, hg⟩
theorem blks_nodup {N : Nat} (S : Sim gp Z0 w0 N D c T O a.tmps w) : ∀ {l : List Nat}, l.Nodup → (∀ i ∈ l, ∃ o, O i = some o ∧ o.live = true) → (blks c l).Nodup
  | [], _, _ => List.nodup_nil
  | i :: l, h, hl => by
    obtain ⟨h1, h2⟩ := List.nodup_cons.1 h
    have ih := blks_nodup S h2 (fun j hj => hl j (List.mem_cons_of_mem _ hj))
    have e : blks c (i :: l) = blks c [i] ++ blks c l := blks_app c [i] l
    rw [e]
    obtain ⟨o, o1, o2⟩ := hl i (by simp)
    refine List.nodup_append.2 ⟨?_, ih, fun g hg k hk e0 => ?_⟩
    · cases hm : c.m i with
      | none => simp [blks, hm]
      | some en => rw [blks_one hm]; exact (S.obj i o o1).nodup o2 hm
    · subst e0
      obtain ⟨i', en, hi', hm, hh⟩ := blks_mem hg
      rw [List.mem_singleton] at hi'
      subst hi'
      obtain ⟨j, f, hj, fm, fh⟩ := blks_mem hk
      obtain ⟨p, p1, p2⟩ := hl j (List.mem_cons_of_mem _ hj)
      exact S.inj i' j o p en f g o1 p1 o2 p2 (fun e0 => by subst e0; exact h1 hj) hm fm hh fh
end
section
variable {P : Program} {C : Cfg} {gp : Option Nat} {Z0 : Nat → Prop} {w0 : Base} {w w' : World} {N : Nat} {D : Nat → Prop} {c c' : Cf} {T : Nat → Option AV} {O O' : Store} {a : Act} {o : Oper}
theorem rowE_fz {u : Ty} {x : Ce} {fz : OB} {m : List (El u)} (h : rowE O' u x = some (fz, m)) : ∀ p ∈ fz, FrzTo O' p := by
  have map1 : ∀ {t : Ty} {l : List (El t)} {oo : Option (List (El u))}, (oo.map fun l => (([] : OB), l)) = some (fz, m) → ∀ p ∈ fz, FrzTo O' p := fun {t l oo} h => by
    cases oo with
    | none => cases h
    | some l' => cases h; intro p hp; cases hp
  unfold rowE at h
  split at h
  · cases h; intro p hp; cases hp
  · rename_i t l; exact map1 (t := t) (l := l) h
  · split at h
    · rename_i t l _; exact map1 (t := t) (l := l) h
    · rename_i t l _ _; exact map1 (t := t) (l := l) h
    · rename_i i e t l k hi
      cases hc : cvM k t u l with
      | none => rw [hc] at h; cases h
      | some l' =>
        rw [hc] at h
        cases h
        intro p hp
        rw [List.mem_singleton] at hp
        subst hp
        exact ⟨t, l, k, .inr ⟨e, hi⟩, rfl⟩
    · split at h
      · split at h
        · rename_i fz' hf
          cases hm : mapO (toE (onlyFz O' fz') u) _ with
          | none => rw [hm] at h; cases h
          | some l => rw [hm] at h; cases h; exact frzCs_sound hf
        · cases h
      · cases h
    · cases h
  · cases h
theorem rowE_sound (hO : ∀ i o, O' i = some o → O i = some o) {u : Ty} {x : Ce} {fz : OB} {m : List (El u)} (h : rowE O' u x = some (fz, m)) (S : Sim gp Z0 w0 N D c T (upO O fz) a.tmps w) {v : Value} (hv : RC c w v x) (hb : ∀ i o, O i = some o → look fz i = none → ObOk c w i o) :
    ∃ A cp news, v = .slice A m.length cp ∧ m.length ≤ maxI ∧ FL c.Z w u m news ∧ (0 < m.length → ∃ g of, A = some ⟨g, of, none⟩ ∧ ∀ (j : Nat) (y : Value), news[j]? = some y → w.cell? ⟨g, of + j, none⟩ = some y) := by
  have hfz := rowE_fz h
  have row : ∀ (m : List (El u)) (g of cp : Nat), m.length ≤ maxI → RW c.Z w u m g of → ∃ A cp' news, (Value.slice (some ⟨g, of, none⟩) m.length cp : Value) = .slice A m.length cp' ∧ m.length ≤ maxI ∧ FL c.Z w u m news ∧ (0 < m.length → ∃ g of, A = some ⟨g, of, none⟩ ∧ ∀ (j : Nat) (y : Value), news[j]? = some y → w.cell? ⟨g, of + j, none⟩ = some y) := fun m g of cp hm hr => by
    obtain ⟨news, h1, h2⟩ := hr.fl
    exact ⟨_, cp, news, rfl, hm, h1, fun _ => ⟨g, of, rfl, h2⟩⟩
  have nil : ∃ A cp news, (Value.slice none 0 0 : Value) = .slice A ([] : List (El u)).length cp ∧ ([] : List (El u)).length ≤ maxI ∧ FL c.Z w u ([] : List (El u)) news ∧ (0 < ([] : List (El u)).length → ∃ g of, A = some ⟨g, of, none⟩ ∧ ∀ (j : Nat) (y : Value), news[j]? = some y → w.cell? ⟨g, of + j, none⟩ = some y) := ⟨none, 0, [], rfl, Nat.zero_le _, FL.nil _ _ _, fun h => absurd h (Nat.lt_irrefl _)⟩
  have rowV : ∀ {t : Ty} {l : List (El t)} {k : Nat} {en : Ent}, RowV c.Z w t l k en → cvM k t u l = some m → ∃ A cp news, (Value.slice (en.bl.map fun g => ⟨g, 0, none⟩) en.ln en.cp : Value) = .slice A m.length cp ∧ m.length ≤ maxI ∧ FL c.Z w u m news ∧ (0 < m.length → ∃ g of, A = some ⟨g, of, none⟩ ∧ ∀ (j : Nat) (y : Value), news[j]? = some y → w.cell? ⟨g, of + j, none⟩ = some y) := fun {t l k en} hr hc => by
    obtain ⟨q1, q2⟩ := cvM_len hc
    have hln := hr.ln
    have hle := vis_le k t
    rcases hr.r with ⟨b1, b2, rfl, rfl⟩ | ⟨g, b1, b2, b4, b5, b6, b7⟩
    · have e0 : m = [] := List.eq_nil_of_length_eq_zero (by rw [q1]; rfl)
      have e1 : en.ln = 0 := hln
      subst e0
      rw [b1, b2, e1]; exact nil
    · rw [b1, hln, ← q1]
      exact row m g 0 en.cp (by omega) (cvM_row hc b6 b7)
  unfold rowE at h
  split at h
  · cases h
    rw [show v = _ from hv]
    exact nil
  · rename_i t l
    cases hc : cast_ t u l with
    | none => rw [hc] at h; cases h
    | some l' =>
      rw [hc] at h
      cases h
      obtain ⟨rfl, rfl⟩ := cast_eq hc
      have hv' : RT c.Z w (.sl t) m [v] := hv
      rw [RT] at hv'
      obtain ⟨A, cp, k1, k2, k3, k4, k5⟩ := hv'
      simp at k1
      subst k1
      rcases Nat.eq_zero_or_pos m.length with h0 | h0
      · exact ⟨A, cp, [], rfl, by omega, by rw [List.eq_nil_of_length_eq_zero h0]; exact FL.nil _ _ _, fun h => absurd h (by omega)⟩
      · obtain ⟨g, of, us, e1, e2, e3, e4⟩ := k5 0 h0
        subst e1
        refine row m g of cp (by omega) (fun j hj => ?_)
        obtain ⟨g', of', us', f1, f2, f3, f4⟩ := k5 j hj
        cases f1
        exact ⟨us', f3, f4⟩
  · obtain ⟨en, k1, rfl⟩ := hv
    split at h
    · rename_i i _ e t l hi
      cases hc : cast_ t u l with
      | none => rw [hc] at h; cases h
      | some l' =>
        rw [hc] at h
        cases h
        obtain ⟨rfl, rfl⟩ := cast_eq hc
        obtain ⟨en', q1, q0, q2, q3⟩ := hb i _ (hO _ _ hi) rfl
        rw [k1] at q1
        cases q1
        have q2 : en.ln = m.length := q2
        rcases q3 with ⟨b1, b2, rfl, _⟩ | ⟨g, vs, b1, b2, b3, b4, b5, b6, b7⟩
        · rw [b1, b2, q2]; exact nil
        · rw [b1, q2]; exact row m g 0 en.cp (by omega) b6
    · rename_i i _ t l k hi
      cases hc : cvM k t u l with
      | none => rw [hc] at h; cases h
      | some l' =>
        rw [hc] at h
        cases h
        obtain ⟨en', q1, q2, q3⟩ := hb i _ (hO _ _ hi) rfl
        rw [k1] at q1
        cases q1
        exact rowV ⟨q2, q3⟩ hc
    · rename_i i _ e t l k hi
      cases hc : cvM k t u l with
      | none => rw [hc] at h; cases h
      | some l' =>
        rw [hc] at h
        cases h
        have hi2 : upO O [(i, .fz t l k)] i = some (.fz t l k) := by unfold upO; rw [look_one, if_pos rfl]
        obtain ⟨en', q1, q2, q3⟩ := S.obj i _ hi2
        rw [k1] at q1
        cases q1
        exact rowV ⟨q2, q3⟩ hc
    · rename_i i _ e t es hi
      split at h
      · rename_i htu
        subst htu
        split at h
        · rename_i fz' hf
          cases hm : mapO (toE (onlyFz O' fz') t) es with
          | none => rw [hm] at h; cases h
          | some l =>
            rw [hm] at h
            cases h
            have hl := fz_look hO hfz
            obtain ⟨z1, z2⟩ := onlyFz_zone hO hl S
            have hi0 : look fz i = none := by
              cases hx : look fz i with
              | none => rfl
              | some p =>
                obtain ⟨_, _, _, y1, _⟩ := hl i p hx
                rcases y1 with ⟨_, y1⟩ | ⟨_, y1⟩ <;> (rw [hO _ _ hi] at y1; cases y1)
            obtain ⟨en', g, vs, q1, q0, q2, q3, q4, q5, q6, q7, q8⟩ := hb i _ (hO _ _ hi) hi0
            rw [k1] at q1
            cases q1
            obtain ⟨n1, n2⟩ := mapO_at hm
            rw [q5, q2, n1]
            refine row m g 0 en.cp (by omega) (fun j hj => ?_)
            obtain ⟨cs, r1, r2⟩ := n2 j _ (List.getElem?_eq_getElem hj)
            obtain ⟨s1, s2⟩ := q8 j cs r1
            refine ⟨_, (toE_sound z1 t cs _ _ s2 r2).zone z2, fun k y hy => ?_⟩
            rw [drop_take_sub] at hy
            split at hy
            · rw [Nat.zero_add, cell_of q6]; simpa using hy
            · cases hy
        · cases h
      · cases h
    · cases h
  · cases h
theorem run_append_zero {t e len cp : Nat} {base A : Option Addr} {xc : Nat} (ht : P.underlying t = some (.slice e)) {y : Ty} {tb : Tbl} {e' : Nat} (hy : TyOk P tb e y e') (hl : len ≤ cp) (w : World) (ty : TypeId) :
    (Builtin.append_ #[t, t] ty #[.slice base len cp, .slice A 0 xc]).run P w = .ok (.slice base len cp) w := by
  have h1 : (Builtin.firstCells y.size 0 (.slice A 0 xc)).run P w = .ok #[] w := by
    cases A with
    | none => rfl
    | some b => simp only [Builtin.firstCells, Nat.zero_mul]; rfl
  unfold Builtin.append_
  simp only [List.getElem?_toArray, List.getElem?_cons_zero, List.getElem?_cons_succ, Sem.run_bind, run_und ht, Result.andThen, hy.run_size w, Sem.run_pure, Builtin.lenOf, Bool.false_eq_true, if_false, Nat.add_zero]
  rw [if_pos hl]
  simp only [Sem.run_bind, Bool.not_false, if_true, h1, Result.andThen]
  cases base with
  | none => rfl
  | some b => rfl
end
section
variable {P : Program} {C : Cfg} {gp : Option Nat} {Z0 : Nat → Prop} {w0 : Base} {w w' : World} {N : Nat} {D : Nat → Prop} {c c' : Cf} {T : Nat → Option AV} {O O' : Store} {a : Act} {o : Oper}
theorem upO_upO (O : Store) (f g : OB) : upO (upO O f) g = upO O (g ++ f) := funext fun i => by
  unfold upO
  rw [look_append]
  cases look g i <;> rfl
def Made (w w' : World) (e : Nat) (u : Ty) (old : Option Nat) (n : Nat) (ys : List Value) (en : Ent) : Prop :=
  en.ln = n ∧ ((en.bl = none ∧ en.cp = 0 ∧ n = 0 ∧ w' = w) ∨ ∃ g vs, en.bl = some g ∧ w'.heap[g]? = some (.cells vs e (0, 0)) ∧ vs.size = en.cp * u.size ∧ n ≤ en.cp ∧ en.cp ≤ maxI ∧ vs.toList.take (n * u.size) = ys ∧ (old = some g ∨ g = w.heap.size)) ∧ w.grownBy w' old
theorem app_wp {tb : Tbl} {t e e' : Nat} {u : Ty} (ht : P.underlying t = some (.slice e)) (hy : TyOk P tb e u e') (hu : u.size ≠ 0) {s x : Operand} (ho : o.op = .call { callee := .builtin .append, args := #[s, x], argTypes := #[t, t] })
    {old : Option Nat} {k cp m xc : Nat} {xs news : List Value} (hs : a.eval s = .slice (old.map fun g => ⟨g, 0, none⟩) k cp)
    (hold : (old = none ∧ k = 0 ∧ cp = 0 ∧ xs = []) ∨ ∃ g vs, old = some g ∧ w.heap[g]? = some (.cells vs e (0, 0)) ∧ vs.size = cp * u.size ∧ k ≤ cp ∧ cp ≤ maxI ∧ vs.toList.take (k * u.size) = xs)
    {A : Option Addr} (hx : a.eval x = .slice A m xc) (hl : news.length = m * u.size) (h1 : ∀ v ∈ news, v.oneCell' = true) (hA : 0 < m → ∃ g of, A = some ⟨g, of, none⟩ ∧ ∀ (j : Nat) (y : Value), news[j]? = some y → w.cell? ⟨g, of + j, none⟩ = some y) (hm : k + m ≤ 1073741824)
    {next : Act → World → Prop} {Q : Exit → Act → World → Prop} (hn : ∀ w' en, Made w w' e u old (k + m) (xs ++ news) en → next (a.put o.dst (.slice (en.bl.map fun g => ⟨g, 0, none⟩) en.ln en.cp)) w') : o.wp P a w next Q := by
  rcases Nat.eq_zero_or_pos m with h0 | h0
  · subst h0
    have hnl : news = [] := List.eq_nil_of_length_eq_zero (by rw [hl]; simp)
    have hk : k ≤ cp := by rcases hold with ⟨_, rfl, rfl, _⟩ | ⟨_, _, _, _, _, h, _⟩ <;> omega
    unfold Oper.wp execOp
    rw [ho]
    simp only [resolve, invoke, builtin, Sem.run_bind, Sem.run_pure, Result.andThen, List.map_toArray, List.map_cons, List.map_nil, hs, hx, run_append_zero ht hy hk]
    refine hn w ⟨old, k, cp, []⟩ ⟨rfl, ?_, World.grownBy.refl w _⟩
    rw [hnl, List.append_nil, Nat.add_zero]
    rcases hold with ⟨rfl, rfl, rfl, _⟩ | ⟨g, vs, rfl, k1, k2, k3, k4, k5⟩
    · exact .inl ⟨rfl, rfl, rfl, rfl⟩
    · exact .inr ⟨g, vs, rfl, k1, k2, k3, k4, k5, .inl rfl⟩
  · obtain ⟨i, z, j1, j2, j3, j4, j5⟩ := hy.info
    have hz : z.cells.size = u.size := by rw [← Array.length_toList, j5, zeV_len]
    obtain ⟨g, of, rfl, hc⟩ := hA h0
    have hown : w.ownsRow 0 e u.size (.slice (old.map fun g => ⟨g, 0, none⟩) k cp) k xs := by
      rcases hold with ⟨rfl, rfl, rfl, rfl⟩ | ⟨g0, vs, rfl, k1, k2, k3, k4, k5⟩
      · exact ⟨by simp, .inl ⟨rfl, rfl⟩⟩
      · have hle : k * u.size ≤ cp * u.size := Nat.mul_le_mul_right _ k3
        refine ⟨by rw [← k5, List.length_take, Array.length_toList]; omega, .inr ⟨g0, cp, vs, rfl, Nat.zero_le _, k1, k3, by simp only [maxLen]; exact k4, k2, k5⟩⟩
    refine wp_append_lies w s x t ho 0 e i z u.size i.bytes ht j1 j4 j2 rfl hz (Nat.pos_of_ne_zero hu) _ k xs hs hown ⟨g, of, none⟩ m xc news hx hl (fun j y hy => by rw [add_plain]; exact hc j y hy) h1 h0 (by simp only [maxLen]; omega) ?_ (Nat.zero_le _) w.heap.size rfl ?_
    · have : (k + m) * i.bytes ≤ 1073741824 * 4096 := Nat.mul_le_mul hm j3
      omega
    · intro g2 cap w2 q1 q2 q3 q4
      refine hn w2 ⟨some g2, k + m, cap, []⟩ ⟨rfl, .inr ?_, ?_⟩
      · obtain ⟨_, q5⟩ := q1
        rcases q5 with ⟨q6, _⟩ | ⟨g3, cap3, cur, q6, q7, q8, q9, q10, q11, q12⟩
        · cases q6
        · injection q6 with e1 e2 e3
          injection e1 with e1
          injection e1 with e1
          subst e1
          subst e3
          refine ⟨g2, cur, rfl, q8, q11, q9, by simpa only [maxLen] using q10, q12, ?_⟩
          rcases q3 with q3 | q3
          · left
            cases old with
            | none => cases q3
            | some g0 => simpa [Value.ownBlock] using q3
          · exact .inr q3
      · have : (Value.slice (old.map fun g => ⟨g, 0, none⟩) k cp).ownBlock = old := by cases old <;> rfl
        rw [this] at q2
        exact q2
theorem app_simG (S1 : Sim gp Z0 w0 N D c T O a.tmps w) {d : Option Nat} (hd : dstOk N d = true) {n : Nat} (hcn : c.m n = none) {en : Ent} {old : Option Nat} {rest : OB} {p : Ob} {v : Value} {av : AV} (g3 : w.grownBy w' old) (hv : RA (c.add n en) w' v av)
    (hrest : ∀ i q, look rest i = some q → q = .dead ∧ ∃ o, O i = some o ∧ ∀ cs, o ≠ .var cs) (hold : ∀ g, old = some g → ∃ i q f, O i = some q ∧ q.live = true ∧ (∀ cs, q ≠ .var cs) ∧ c.m i = some f ∧ f.has g ∧ look rest i = some .dead)
    (hhas : ∀ g, en.has g → (∃ i q f, O i = some q ∧ q.live = true ∧ c.m i = some f ∧ f.has g ∧ look rest i = some .dead) ∨ w.heap.size ≤ g) (hok : ObOk (c.add n en) w' n p) :
    Sim gp Z0 w0 N (fun j => D j ∨ n ≤ j ∧ j < n + 1) (c.add n en) (upT T d av) (upO O ((n, p) :: rest)) (a.put d v).tmps w' := by
  have oldZ : ∀ g, old = some g → ¬ c.Z g := fun g h hz => by
    obtain ⟨i, p, f, y1, y2, _, y3, y4, _⟩ := hold g h
    exact S1.zo i p f g y1 y2 y3 y4 hz
  have st : Stay c.Z w w' := fun g hz => g3.block g (S1.zl g hz) (fun e => oldZ g e.symm hz)
  have le2 := Cf.add_le (e := en) hcn
  have lk : ∀ i q, look ((n, p) :: rest) i = some q → (i = n ∧ q = p) ∨ (i ≠ n ∧ q = .dead ∧ look rest i = some q) := fun i q h => by
    by_cases hin : i = n
    · subst hin
      left
      unfold look at h
      rw [Nat.beq_refl] at h
      cases h
      exact ⟨rfl, rfl⟩
    · right
      unfold look at h
      have : Nat.beq n i = false := by
        cases hb : Nat.beq n i with
        | true => exact absurd (Nat.eq_of_beq_eq_true hb).symm hin
        | false => rfl
      rw [this] at h
      have h : look rest i = some q := h
      exact ⟨hin, (hrest i q h).1, h⟩
  have notin : ∀ i, look ((n, p) :: rest) i = none → i ≠ n ∧ look rest i = none := fun i h => by
    unfold look at h
    cases hb : Nat.beq n i with
    | true => rw [hb] at h; cases h
    | false => rw [hb] at h; exact ⟨fun e => (by subst e; rw [Nat.beq_refl] at hb; cases hb), h⟩
  have isIn : ∀ i, i ≠ n → look rest i = some .dead → (look ((n, p) :: rest) i).isSome = true := fun i hne h => by
    unfold look
    have : Nat.beq n i = false := by
      cases hb : Nat.beq n i with
      | true => exact absurd (Nat.eq_of_beq_eq_true hb).symm hne
      | false => rfl
    rw [this]
    show (look rest i).isSome = true
    rw [h]; rfl
  refine S1.step (d := d) (v := v) (av := av) (ob := (n, p) :: rest) (c' := c.add n en) (w' := w') (D' := fun j => D j ∨ n ≤ j ∧ j < n + 1) hd le2 st hv
    (fun i q h1 h2 h3 f g h4 h5 => ?_) (fun i q h => ?_) (fun i q f g h1 h2 h3 h4 => ?_) (fun i j q r f f' g h1 h2 h3 h4 h5 => ?_) (fun g hg => ?_) (fun i f h => ?_) ?_ (fun i cs q h1 h2 => ?_)
  · refine g3.block g ((S1.obj i q h1).lt h3 f g h4 h5) (fun e0 => ?_)
    obtain ⟨i', p', f', y1, y2, _, y3, y4, y5⟩ := hold g e0.symm
    have := (notin i h2).2
    exact S1.inj i i' q p' f f' g h1 y1 h3 y2 (fun e => by subst e; rw [this] at y5; cases y5) h4 y3 h5 y4
  · rcases lk i q h with ⟨rfl, rfl⟩ | ⟨_, rfl, _⟩
    · exact hok
    · trivial
  · rcases lk i q h1 with ⟨rfl, rfl⟩ | ⟨_, rfl, _⟩
    · rw [Cf.add_at] at h3
      cases h3
      rcases hhas g h4 with ⟨i', p', f', y1, y2, y3, y4, y5⟩ | h
      · exact ⟨.inl ⟨i', p', f', y1, y2, y3, y4, isIn i' (fun e => by subst e; rw [hcn] at y3; cases y3) y5⟩, S1.zo i' p' f' g y1 y2 y3 y4⟩
      · exact ⟨.inr h, fun hz => by have := S1.zl g hz; omega⟩
    · cases h2
  · rcases lk i q h1 with ⟨rfl, rfl⟩ | ⟨_, rfl, _⟩
    · rcases lk j r h2 with ⟨rfl, rfl⟩ | ⟨_, rfl, _⟩
      · exact absurd rfl h5
      · cases h4
    · cases h3
  · exact ⟨Nat.lt_of_lt_of_le (S1.zl g hg) g3.size, S1.zz g hg, fun i p f h1 h2 h3 h4 h5 => S1.zo i p f g h1 h3 h4 h5 hg⟩
  · unfold Cf.add at h
    simp only at h
    split at h
    · rename_i hi; exact .inr (by omega)
    · exact .inl (S1.dom i f h)
  · refine ⟨g3.os.trans S1.gr.os, g3.tape.trans S1.gr.tape, g3.output.trans S1.gr.output, Nat.le_trans S1.gr.size g3.size, fun k hk' hr' => ?_⟩
    refine (g3.block k (Nat.lt_of_lt_of_le hk' S1.gr.size) (fun e0 => ?_)).trans (S1.gr.block k hk' hr')
    obtain ⟨i', p', f', y1, y2, y2', y3, y4, y5⟩ := hold k e0.symm
    have := S1.gp_not y1 y2 y2' y3 y4
    omega
  · rcases lk i q h2 with ⟨rfl, rfl⟩ | ⟨hin, rfl, h3⟩
    · obtain ⟨f, _, _, _, y, _⟩ := S1.obj i _ h1
      rw [hcn] at y; cases y
    · obtain ⟨_, o, h4, h5⟩ := hrest i _ h3
      rw [h1] at h4
      cases h4
      exact absurd rfl (h5 cs)
theorem app_sim (S1 : Sim gp Z0 w0 N D c T O a.tmps w) {d : Option Nat} (hd : dstOk N d = true) {n : Nat} (hcn : c.m n = none) {en : Ent} {old : Option Nat} {rest : OB} {p : Ob} {v : Value} (g3 : w.grownBy w' old) (hv : RA (c.add n en) w' v (.c (.ow n)))
    (hrest : ∀ i q, look rest i = some q → q = .dead ∧ ∃ o, O i = some o ∧ ∀ cs, o ≠ .var cs) (hold : ∀ g, old = some g → ∃ i q f, O i = some q ∧ q.live = true ∧ (∀ cs, q ≠ .var cs) ∧ c.m i = some f ∧ f.has g ∧ look rest i = some .dead)
    (hhas : ∀ g, en.has g → (∃ i q f, O i = some q ∧ q.live = true ∧ c.m i = some f ∧ f.has g ∧ look rest i = some .dead) ∨ w.heap.size ≤ g) (hok : ObOk (c.add n en) w' n p) :
    Sim gp Z0 w0 N (fun j => D j ∨ n ≤ j ∧ j < n + 1) (c.add n en) (upT T d (.c (.ow n))) (upO O ((n, p) :: rest)) (a.put d v).tmps w' := app_simG S1 hd hcn g3 hv hrest hold hhas hok
theorem op_append (S : Sim gp Z0 w0 C.N D c T O a.tmps w) (hT : tyB P C.ty C.ty = true) (hO : ∀ i o, O' i = some o → O i = some o) (hd : dstOk C.N o.dst = true) {n t e : Nat} {u : Ty} (hn : ¬ D n) (hu : u.size ≠ 0) {s x : Operand} (ho : o.op = .call { callee := .builtin .append, args := #[s, x], argTypes := #[t, t] }) (hy : C.el t = some (e, u)) {sc xc : Ce} (hs : ev T s = some (.c sc)) (hx : ev T x = some (.c xc))
    {fz : OB} {m : List (El u)} (hr : rowE O' u xc = some (fz, m)) {rest : OB} {l : List (El u)} (hk : (sc = .nl ∧ rest = [] ∧ l = []) ∨ ∃ i, sc = .ow i ∧ O' i = some (.ty e u l 0) ∧ rest = [(i, .dead)] ∧ look fz i = none) (hm : l.length + m.length ≤ 1073741824) :
    Done P gp Z0 w0 C.N D T O o a w { v := .c (.ow n), ob := (n, .ty e u (l ++ m) 0) :: rest ++ fz, k := 1 } n := by
  obtain ⟨h1, e', h2⟩ := elOk_of hT hy
  have hfz := fz_look hO (rowE_fz hr)
  obtain ⟨c1, le1, m1, S1⟩ := S.freeze hfz
  obtain ⟨A, cp, news, k1, k2, k3, k4⟩ := rowE_sound hO hr S1 (S1.ev hx) (fun i o h1 h2 => S1.obj i o (by unfold upO; rw [h2]; exact h1))
  have hcn : c1.m n = none := by
    rw [m1]
    cases h : c.m n with
    | none => rfl
    | some f => exact absurd (S.dom n f h) hn
  have hold : ∃ (old : Option Nat) (k cp : Nat) (xs : List Value), a.eval s = .slice (old.map fun g => ⟨g, 0, none⟩) k cp ∧ k = l.length ∧ FL c1.Z w u l xs ∧ ((old = none ∧ k = 0 ∧ cp = 0 ∧ xs = []) ∨ ∃ g vs, old = some g ∧ w.heap[g]? = some (.cells vs e (0, 0)) ∧ vs.size = cp * u.size ∧ k ≤ cp ∧ cp ≤ maxI ∧ vs.toList.take (k * u.size) = xs) ∧
      (∀ g, old = some g → ∃ i p f, upO O fz i = some p ∧ p.live = true ∧ (∀ cs, p ≠ .var cs) ∧ c1.m i = some f ∧ f.has g ∧ look rest i = some .dead) := by
    rcases hk with ⟨rfl, rfl, rfl⟩ | ⟨i, rfl, hi, rfl, hi0⟩
    · exact ⟨none, 0, 0, [], S1.ev hs, rfl, FL.nil _ _ _, .inl ⟨rfl, rfl, rfl, rfl⟩, fun g h => by cases h⟩
    · obtain ⟨en, q1, q2⟩ := S1.ev hs
      have hi1 : upO O fz i = some (.ty e u l 0) := by unfold upO; rw [hi0]; exact hO _ _ hi
      obtain ⟨en', r1, r0, r2, r3⟩ := S1.obj i _ hi1
      rw [q1] at r1
      cases r1
      have r2 : en.ln = l.length := r2
      rcases r3 with ⟨b1, b2, rfl, _⟩ | ⟨g, vs, b1, b2, b3, b4, b5, b6, b7⟩
      · refine ⟨none, 0, 0, [], ?_, rfl, FL.nil _ _ _, .inl ⟨rfl, rfl, rfl, rfl⟩, fun g h => by cases h⟩
        rw [q2, b1, b2, r2]; rfl
      · have b4 : l.length ≤ en.cp := by have : l.length + 0 ≤ en.cp := b4; omega
        have hle : l.length * u.size ≤ en.cp * u.size := Nat.mul_le_mul_right _ b4
        refine ⟨some g, l.length, en.cp, _, ?_, rfl, b6.flAt b2 (by omega), .inr ⟨g, vs, rfl, b2, b3, b4, b5, rfl⟩, fun g' h => ?_⟩
        · rw [q2, b1, r2]
        · cases h
          exact ⟨i, _, en, hi1, rfl, (fun cs h => by cases h), q1, Ent.has_bl b1, by rw [look_one, if_pos rfl]⟩
  obtain ⟨old, k, cp0, xs, f1, rfl, f3, f4, f5⟩ := hold
  intro next Q hq
  refine app_wp h1 h2 hu ho f1 f4 k1 k3.len k3.ones k4 hm (fun w' en hM => ?_)
  obtain ⟨g1, g2, g3⟩ := hM
  have oldZ : ∀ g, old = some g → ¬ c1.Z g := fun g h hz => by
    obtain ⟨i, p, f, y1, y2, _, y3, y4, _⟩ := f5 g h
    exact S1.zo i p f g y1 y2 y3 y4 hz
  have st : Stay c1.Z w w' := fun g hz => g3.block g (S1.zl g hz) (fun e => oldZ g e.symm hz)
  have T1 := app_sim (v := .slice (en.bl.map fun g => ⟨g, 0, none⟩) en.ln en.cp) (p := .ty e u (l ++ m) 0) S1 hd hcn (en := ⟨en.bl, en.ln, en.cp, []⟩) g3 ⟨_, Cf.add_at _ _ _, rfl⟩ (fun i q h => ?_) f5 (fun g hg => ?_) ?_
  · rw [upO_upO] at T1
    exact hq _ _ _ T1
  · rcases hk with ⟨_, rfl, _⟩ | ⟨i', _, hi', rfl, hi0⟩
    · cases h
    · rw [look_one] at h
      split at h <;> cases h
      rename_i e0
      subst e0
      refine ⟨rfl, .ty e u l 0, ?_, fun cs h => by cases h⟩
      unfold upO; rw [hi0]; exact hO _ _ hi'
  · rw [Ent.has_one rfl] at hg
    have hg : en.bl = some g := hg
    rcases g2 with ⟨b1, _⟩ | ⟨g', vs, b1, b2, b3, b4, b5, b6, b7⟩
    · rw [hg] at b1; cases b1
    · rw [hg] at b1
      cases b1
      rcases b7 with b7 | b7
      · obtain ⟨i', p', f', y1, y2, _, y3, y4, y5⟩ := f5 g b7
        exact .inl ⟨i', p', f', y1, y2, y3, y4, y5⟩
      · exact .inr (by omega)
  · refine ⟨_, Cf.add_at _ _ _, rfl, by show en.ln = _; rw [g1, List.length_append]; rfl, ?_⟩
    rcases g2 with ⟨b1, b2, b3, _⟩ | ⟨g, vs, b1, b2, b3, b4, b5, b6, _⟩
    · exact .inl ⟨b1, b2, List.eq_nil_of_length_eq_zero (by rw [List.length_append]; exact b3), rfl⟩
    · refine .inr ⟨g, vs, b1, b2, b3, by simpa [List.length_append, mks] using b4, b5, ?_, fun j us hj => by simp [mks] at hj⟩
      refine ((f3.mono (fun _ h => h) st).append (k3.mono (fun _ h => h) st)).rw (fun j y hj => ?_)
      rw [← b6, List.getElem?_take] at hj
      split at hj
      · rw [Nat.zero_add, cell_of b2]; simpa using hj
      · cases hj
end
end Go.Proofs.YtjoonfegjobgbaaGreatDoor
