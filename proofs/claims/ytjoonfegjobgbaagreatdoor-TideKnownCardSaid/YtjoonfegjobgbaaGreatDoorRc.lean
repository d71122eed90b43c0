/- Texts of this claim, joined: A3b A4. -/
import Derived.Test.YtjoonfegjobgbaaGreatDoorRb
set_option linter.unusedVariables false
set_option linter.unusedSimpArgs false
set_option maxRecDepth 100000
namespace Go.Proofs.YtjoonfegjobgbaaGreatDoor
open Go Go.RowKit
theorem unl_size : ∀ t : Ty, (unl t).size = t.size
  | .pr a b => by show (unl a).size + (unl b).size = _; rw [unl_size a, unl_size b]; rfl
  | .sl _ => rfl
  | .lt _ => rfl
  | .lf _ => rfl
  | .bo => rfl
  | .it _ => rfl
  | .st => rfl
  | .pt _ => rfl
  | .fn => rfl
  | .un => rfl
  | .oq => rfl
theorem unl_unl : ∀ t : Ty, unl (unl t) = unl t
  | .pr a b => by show Ty.pr (unl (unl a)) (unl (unl b)) = _; rw [unl_unl a, unl_unl b]; rfl
  | .sl t => by show Ty.sl (unl (unl t)) = _; rw [unl_unl t]; rfl
  | .lt t => by show Ty.sl (unl (unl t)) = _; rw [unl_unl t]; rfl
  | .lf t => by show Ty.sl (unl (unl t)) = _; rw [unl_unl t]; rfl
  | .bo => rfl
  | .it _ => rfl
  | .st => rfl
  | .pt _ => rfl
  | .fn => rfl
  | .un => rfl
  | .oq => rfl
theorem eidS_unl (t : Ty) : eidS (unl t) = eidS t := by unfold eidS; rw [unl_unl]
theorem unE_lt (t : Ty) (l : List (El t)) : unE (.lt t) l = List.map (unE t) l := by
  cases t <;> first | rfl | (show l = List.map id l; exact (List.map_id l).symm)
theorem unL_eq (t : Ty) (l : List (El t)) : unL t l = List.map (unE t) l := by
  cases t <;> first | rfl | (show l = List.map id l; exact (List.map_id l).symm)
theorem unL_len (t : Ty) (l : List (El t)) : (unL t l).length = l.length := by rw [unL_eq, List.length_map]
def mkOk : (t : Ty) → El t → Bool
  | .bo, _ => true
  | .it k, x => inK k x
  | .st, x => Nat.ble x.size maxI
  | .sl _, l => List.isEmpty l
  | .pr a b, x => mkOk a x.1 && mkOk b x.2
  | .un, _ => true
  | _, _ => false
theorem marksU_ok : ∀ (t : Ty) (x : El t), x ∈ marksU t → mkOk t x = true := fun t x h => by
  unfold marksU at h
  split at h
  · rename_i e
    subst e
    have h : x ∈ mk3 := h
    simp only [mk3, List.mem_cons, List.not_mem_nil, or_false] at h
    rcases h with rfl | rfl | rfl <;> rfl
  · split at h
    · rename_i e; subst e; rw [List.eq_of_mem_replicate h]; rfl
    · split at h
      · rename_i e; subst e; rw [List.eq_of_mem_replicate h]; rfl
      · split at h
        · rename_i e; subst e; rw [List.eq_of_mem_replicate h]; rfl
        · split at h
          · rename_i e; subst e; rw [List.eq_of_mem_replicate h]; rfl
          · cases h
theorem marksU_len (t : Ty) : (marksU t).length ≤ 3 := by
  unfold marksU
  split
  · rename_i e; subst e; exact Nat.le_refl 3
  · split
    · rename_i e; subst e; exact Nat.le_refl 3
    · split
      · rename_i e; subst e; exact Nat.le_refl 3
      · split
        · rename_i e; subst e; exact Nat.le_refl 3
        · split
          · rename_i e; subst e; exact Nat.le_refl 3
          · exact Nat.zero_le 3
theorem marks_ok (t : Ty) (x : El (unl t)) (h : x ∈ mkv t) : mkOk (unl t) x = true := marksU_ok _ x h
theorem mkU_all {u : Ty} (h : mkU (unl u) = true) : ∀ x ∈ mkv u, x = (mkv u).headD (dfl (unl u)) := by
  unfold mkv
  revert h
  generalize unl u = t
  intro h x hx
  simp only [mkU, Bool.or_eq_true, decide_eq_true_eq] at h
  rcases h with ((rfl | rfl) | rfl) | rfl
  all_goals
    unfold marksU at hx ⊢
    simp at hx ⊢
    simp_all
theorem marks_len (t : Ty) : (mkv t).length ≤ 3 := marksU_len _
theorem mks3 (t : Ty) : mks 3 t = mks 4 t := by
  show ((mkv t).take 3).map _ = (mkv t).map _
  rw [List.take_of_length_le (marks_len t)]
theorem mks_len4 (t : Ty) : (mks 4 t).length = (mkv t).length := List.length_map ..
theorem mks_len3 (t : Ty) : (mks 3 t).length = (mkv t).length := by rw [mks3, mks_len4]
theorem vcs_len : ∀ (t : Ty) (x : El t), mkOk t x = true → (vcs t x).length = t.size
  | .pr a b, x, h => by
    simp only [mkOk, Bool.and_eq_true] at h
    rw [vcs, List.length_append, vcs_len a _ h.1, vcs_len b _ h.2]; rfl
  | .bo, _, _ => rfl
  | .it _, _, _ => rfl
  | .st, _, _ => rfl
  | .sl _, _, _ => rfl
  | .un, _, _ => rfl
  | .pt _, _, h => by cases h
  | .fn, _, h => by cases h
  | .lt _, _, h => by cases h
  | .lf _, _, h => by cases h
  | .oq, _, h => by cases h
theorem mkOk.rt {Z : Nat → Prop} {w : World} : ∀ {t : Ty} {x : El t}, mkOk t x = true → RT Z w t x (vcs t x)
  | .pr a b, x, h => by
    simp only [mkOk, Bool.and_eq_true] at h
    rw [RT]
    exact ⟨_, _, rfl, mkOk.rt h.1, mkOk.rt h.2⟩
  | .bo, _, _ => by rw [RT]; rfl
  | .it k, x, h => by
    rw [RT]
    simp only [mkOk, inK, Bool.and_eq_true, decide_eq_true_eq] at h
    exact ⟨rfl, h⟩
  | .st, _, h => by rw [RT]; exact ⟨rfl, Nat.le_of_ble_eq_true h⟩
  | .sl t, l, h => by
    have : l = [] := by simpa [mkOk] using h
    subst this
    exact RT.sl_nil _ _ _
  | .un, _, _ => by rw [RT]; rfl
  | .pt _, _, h => by cases h
  | .fn, _, h => by cases h
  | .lt _, _, h => by cases h
  | .lf _, _, h => by cases h
  | .oq, _, h => by cases h
theorem rows_un {Z : Nat → Prop} {w : World} {t : Ty} {l : List (El t)} {ms : List (El (unl t))} {g o : Nat} (hm : ∀ x ∈ ms, mkOk (unl t) x = true)
    (ih : ∀ (x : El t) (us : List Value), RT Z w t x us → RT Z w (unl t) (unE t x) us)
    (h : ∀ (j : Nat) (h : j < l.length), ∃ us, RT Z w t (l[j]'h) us ∧ ∀ (i : Nat) (u : Value), us[i]? = some u → w.cell? ⟨g, o + (j * t.size + i), none⟩ = some u) (k : MK w t.size (ms.map (vcs (unl t))) g (o + l.length * t.size)) :
    RW Z w (unl t) (List.map (unE t) l ++ ms) g o := fun j hj => by
  rw [unl_size]
  by_cases hl : j < l.length
  · obtain ⟨us, h1, h2⟩ := h j hl
    refine ⟨us, ?_, h2⟩
    rw [List.getElem_append_left (by simpa using hl), List.getElem_map]
    exact ih _ _ h1
  · rw [List.length_append, List.length_map] at hj
    have hj' : j - l.length < ms.length := by omega
    have e : (List.map (unE t) l ++ ms)[j]'(by rw [List.length_append, List.length_map]; exact hj) = ms[j - l.length] := by
      rw [List.getElem_append_right (by simpa using hl)]; simp
    rw [e]
    refine ⟨vcs (unl t) ms[j - l.length], mkOk.rt (hm _ (List.getElem_mem hj')), fun i u hu => ?_⟩
    have := k (j - l.length) _ (by rw [List.getElem?_map, List.getElem?_eq_getElem hj']; rfl) i u hu
    have e2 : j * t.size = l.length * t.size + (j - l.length) * t.size := by rw [← Nat.add_mul]; congr 1; omega
    rw [e2, show o + (l.length * t.size + (j - l.length) * t.size + i) = o + l.length * t.size + ((j - l.length) * t.size + i) by omega]
    exact this
theorem RT.lt_row {Z : Nat → Prop} {w : World} {t : Ty} {l : List (El t)} {vs : List Value} (h : RT Z w (.lt t) l vs) : ∃ g o c, vs = [.slice (some ⟨g, o, none⟩) l.length c] ∧ l.length + (mks 4 t).length ≤ c ∧ c ≤ maxI ∧ Z g ∧ RW Z w t l g o ∧ MK w t.size (mks 4 t) g (o + l.length * t.size) := by rw [RT] at h; exact h
theorem RT.lf_row {Z : Nat → Prop} {w : World} {t : Ty} {l : List (El t)} {vs : List Value} (h : RT Z w (.lf t) l vs) : ∃ g o c, vs = [.slice (some ⟨g, o, none⟩) (l.length + (mks 3 t).length) c] ∧ l.length + (mks 3 t).length ≤ c ∧ c ≤ maxI ∧ Z g ∧ RW Z w t l g o ∧ MK w t.size (mks 3 t) g (o + l.length * t.size) := by rw [RT] at h; exact h
theorem RT.unE {Z : Nat → Prop} {w : World} : ∀ (t : Ty) (x : El t) (vs : List Value), RT Z w t x vs → RT Z w (unl t) (unE t x) vs
  | .bo, _, _, h => h
  | .it _, _, _, h => h
  | .st, _, _, h => h
  | .un, _, _, h => h
  | .oq, _, _, h => h
  | .pt _, _, _, h => h
  | .fn, _, _, h => h
  | .pr a b, x, vs, h => by
    rw [RT] at h
    obtain ⟨us, us', e, h1, h2⟩ := h
    show RT Z w (.pr (unl a) (unl b)) (Go.Proofs.YtjoonfegjobgbaaGreatDoor.unE a x.1, Go.Proofs.YtjoonfegjobgbaaGreatDoor.unE b x.2) vs
    rw [RT]
    exact ⟨us, us', e, RT.unE a _ _ h1, RT.unE b _ _ h2⟩
  | .sl t, l, vs, h => by
    rw [RT] at h
    obtain ⟨A, c, h1, h2, h3, h4, h5⟩ := h
    show RT Z w (.sl (unl t)) (List.map (Go.Proofs.YtjoonfegjobgbaaGreatDoor.unE t) l) vs
    rw [RT]
    refine ⟨A, c, by rw [List.length_map]; exact h1, by rw [List.length_map]; exact h2, h3, h4, fun j hj => ?_⟩
    rw [List.length_map] at hj
    obtain ⟨g, o, us, e1, e2, e3, e4⟩ := h5 j hj
    refine ⟨g, o, us, e1, e2, ?_, by rw [unl_size]; exact e4⟩
    rw [List.getElem_map]
    exact RT.unE t _ _ e3
  | .lt t, l, vs, h => by
    obtain ⟨g, o, c, h1, h2, h3, h4, h5, h6⟩ := h.lt_row
    rw [unE_lt]
    show RT Z w (.sl (unl t)) (List.map (Go.Proofs.YtjoonfegjobgbaaGreatDoor.unE t) l) vs
    have := rows_un (ms := []) (fun x hx => by cases hx) (RT.unE t) h5 (fun j us hj => by simp at hj)
    rw [List.append_nil] at this
    have r := RT.sl_mk (c := c) this h4 (by rw [List.length_map]; omega) h3
    rw [List.length_map] at r
    rw [h1]
    exact r
  | .lf t, l, vs, h => by
    obtain ⟨g, o, c, h1, h2, h3, h4, h5, h6⟩ := h.lf_row
    show RT Z w (.sl (unl t)) (List.map (Go.Proofs.YtjoonfegjobgbaaGreatDoor.unE t) l ++ mkv t) vs
    rw [mks3] at h6
    have := rows_un (ms := mkv t) (marks_ok t) (RT.unE t) h5 h6
    have hl : (List.map (Go.Proofs.YtjoonfegjobgbaaGreatDoor.unE t) l ++ mkv t).length = l.length + (mks 3 t).length := by rw [List.length_append, List.length_map, mks_len3]
    have r := RT.sl_mk (c := c) this h4 (by rw [hl]; omega) h3
    rw [hl] at r
    rw [h1]
    exact r
def rowQ (w : World) (base : Nat) (t : Ty) (R : El t → List Value → List Nat → Prop) (l : List (El t)) (ms : List (List Value)) (n : Nat) (vs : List Value) (bs : List Nat) : Prop :=
  ∃ g cp cells bb, vs = [.slice (some ⟨g, 0, none⟩) n cp] ∧ bs = g :: List.flatten bb ∧ base ≤ g ∧ w.heap[g]? = some (.cells cells (eidS t) (0, 0)) ∧ cells.size = cp * t.size ∧ l.length + ms.length ≤ cp ∧ cp ≤ maxI ∧ bb.length = l.length ∧
    (∀ (j : Nat) (h : j < l.length) (b : List Nat), bb[j]? = some b → R (l[j]'h) ((cells.toList.drop (j * t.size)).take t.size) b) ∧ (∀ (j : Nat) (us : List Value), ms[j]? = some us → (cells.toList.drop ((l.length + j) * t.size)).take t.size = us)
def RQ (fresh : Bool) (Z : Nat → Prop) (w : World) (base : Nat) : (t : Ty) → El t → List Value → List Nat → Prop
  | .bo, x, vs, bs => RT Z w .bo x vs ∧ bs = []
  | .it k, x, vs, bs => RT Z w (.it k) x vs ∧ bs = []
  | .st, x, vs, bs => RT Z w .st x vs ∧ bs = []
  | .oq, x, vs, bs => RT Z w .oq x vs ∧ bs = []
  | .sl t, l, vs, bs => if fresh = true then (l = [] ∧ vs = [.slice none 0 0] ∧ bs = []) ∨ rowQ w base t (fun x us b => RQ fresh Z w base t x us b) l [] l.length vs bs else RT Z w (.sl t) l vs ∧ bs = []
  | .lt t, l, vs, bs => if fresh = true then rowQ w base t (fun x us b => RQ fresh Z w base t x us b) l (mks 4 t) l.length vs bs else RT Z w (.lt t) l vs ∧ bs = []
  | .lf t, l, vs, bs => if fresh = true then rowQ w base t (fun x us b => RQ fresh Z w base t x us b) l (mks 3 t) (l.length + (mks 3 t).length) vs bs else RT Z w (.lf t) l vs ∧ bs = []
  | .pt t, x, vs, bs => ∃ g cells et, vs = [.pointer (some ⟨g, 0, none⟩)] ∧ bs = [g] ∧ base ≤ g ∧ w.heap[g]? = some (.cells cells et (0, 0)) ∧ t.flat = true ∧ RT Z w t x cells.toList
  | .pr a b, x, vs, bs => ∃ us us' cs cs', vs = us ++ us' ∧ bs = cs ++ cs' ∧ RQ fresh Z w base a x.1 us cs ∧ RQ fresh Z w base b x.2 us' cs'
  | .un, _, vs, bs => vs = [] ∧ bs = []
  | .fn, _, _, _ => False
theorem rowQ.imp {w w' : World} {base base' : Nat} {t : Ty} {R R' : El t → List Value → List Nat → Prop} {l : List (El t)} {ms : List (List Value)} {n : Nat} {vs : List Value} {bs : List Nat} (h : rowQ w base t R l ms n vs bs) (hb : ∀ g ∈ bs, base ≤ g → base' ≤ g) (hw : ∀ g ∈ bs, w'.heap[g]? = w.heap[g]?) (hR : ∀ x us b, (∀ g ∈ b, g ∈ bs) → R x us b → R' x us b) : rowQ w' base' t R' l ms n vs bs := by
  obtain ⟨g, cp, cells, bb, h1, h2, h3, h4, h5, h6, h7, h8, h9, h10⟩ := h
  have hg : g ∈ bs := by rw [h2]; exact List.mem_cons_self
  exact ⟨g, cp, cells, bb, h1, h2, hb g hg h3, (hw g hg).trans h4, h5, h6, h7, h8, fun j hj b hbj => hR _ _ _ (fun k hk => by rw [h2]; exact List.mem_cons_of_mem _ (List.mem_flatten.2 ⟨b, List.mem_of_getElem? hbj, hk⟩)) (h9 j hj b hbj), h10⟩
theorem RT.flat_ {Z Z' : Nat → Prop} {w w' : World} : ∀ {t : Ty} {x : El t} {vs : List Value}, t.flat = true → RT Z w t x vs → RT Z' w' t x vs
  | .bo, _, _, _, h => by rw [RT] at h ⊢; exact h
  | .it _, _, _, _, h => by rw [RT] at h ⊢; exact h
  | .st, _, _, _, h => by rw [RT] at h ⊢; exact h
  | .oq, _, _, _, h => by rw [RT] at h ⊢; exact h
  | .sl _, _, _, hf, _ => by cases hf
  | .pr a b, _, _, hf, h => by
    simp only [Ty.flat, Bool.and_eq_true] at hf
    rw [RT] at h ⊢
    obtain ⟨us, us', e, h1, h2⟩ := h
    exact ⟨us, us', e, h1.flat_ hf.1, h2.flat_ hf.2⟩
  | .un, _, _, _, h => by rw [RT] at h ⊢; exact h
  | .pt _, _, _, hf, _ => by cases hf
  | .fn, _, _, hf, _ => by cases hf
  | .lt _, _, _, hf, _ => by cases hf
  | .lf _, _, _, hf, _ => by cases hf
theorem RQ.mono {Z Z' : Nat → Prop} {w w' : World} {base base' : Nat} : ∀ {t : Ty} {x : El t} {vs : List Value} {bs : List Nat}, (∀ g ∈ bs, base ≤ g → base' ≤ g) → (∀ g ∈ bs, w'.heap[g]? = w.heap[g]?) → RQ true Z w base t x vs bs → RQ true Z' w' base' t x vs bs
  | .bo, _, _, _, _, _, h => ⟨h.1.flat_ rfl, h.2⟩
  | .it _, _, _, _, _, _, h => ⟨h.1.flat_ rfl, h.2⟩
  | .st, _, _, _, _, _, h => ⟨h.1.flat_ rfl, h.2⟩
  | .oq, _, _, _, _, _, h => ⟨h.1.flat_ rfl, h.2⟩
  | .un, _, _, _, _, _, h => h
  | .fn, _, _, _, _, _, h => h
  | .pt _, _, _, _, hb, hw, h => by
    obtain ⟨g, cells, et, h1, h2, h3, h4, h5, h6⟩ := h
    subst h2
    exact ⟨g, cells, et, h1, rfl, hb g (by simp) h3, (hw g (by simp)).trans h4, h5, h6.flat_ h5⟩
  | .sl t, _, _, _, hb, hw, h => by
    unfold RQ at h ⊢
    simp only [if_true] at h ⊢
    exact h.imp id (fun h => h.imp hb hw (fun x us b hs h => RQ.mono (fun g hg => hb g (hs g hg)) (fun g hg => hw g (hs g hg)) h))
  | .lt t, _, _, _, hb, hw, h => by
    unfold RQ at h ⊢
    simp only [if_true] at h ⊢
    exact h.imp hb hw (fun x us b hs h => RQ.mono (fun g hg => hb g (hs g hg)) (fun g hg => hw g (hs g hg)) h)
  | .lf t, _, _, _, hb, hw, h => by
    unfold RQ at h ⊢
    simp only [if_true] at h ⊢
    exact h.imp hb hw (fun x us b hs h => RQ.mono (fun g hg => hb g (hs g hg)) (fun g hg => hw g (hs g hg)) h)
  | .pr _ _, _, _, _, hb, hw, h => by
    obtain ⟨us, us', cs, cs', h1, h2, h3, h4⟩ := h
    refine ⟨us, us', cs, cs', h1, h2, h3.mono (fun g hg => hb g ?_) (fun g hg => hw g ?_), h4.mono (fun g hg => hb g ?_) (fun g hg => hw g ?_)⟩
    all_goals
      rw [h2]
      simp [hg]
theorem RQ.lt_ {Z : Nat → Prop} {w : World} {base : Nat} : ∀ {t : Ty} {x : El t} {vs : List Value} {bs : List Nat}, RQ true Z w base t x vs bs → ∀ g ∈ bs, base ≤ g ∧ g < w.heap.size
  | .bo, _, _, _, h, g, hg => by obtain ⟨_, rfl⟩ := h; cases hg
  | .it _, _, _, _, h, g, hg => by obtain ⟨_, rfl⟩ := h; cases hg
  | .st, _, _, _, h, g, hg => by obtain ⟨_, rfl⟩ := h; cases hg
  | .oq, _, _, _, h, g, hg => by obtain ⟨_, rfl⟩ := h; cases hg
  | .un, _, _, _, h, g, hg => by obtain ⟨_, rfl⟩ := h; cases hg
  | .fn, _, _, _, h, _, _ => h.elim
  | .pt _, _, _, _, h, g, hg => by
    obtain ⟨g', cells, et, h1, rfl, h3, h4, _⟩ := h
    rw [List.mem_singleton] at hg
    subst hg
    exact ⟨h3, (Array.getElem?_eq_some_iff.1 h4).1⟩
  | .sl t, l, vs, bs, h, g, hg => by
    unfold RQ at h
    simp only [if_true] at h
    rcases h with ⟨_, _, rfl⟩ | ⟨g', cp, cells, bb, h1, rfl, h3, h4, h5, h6, h7, h8, h9, h10⟩
    · cases hg
    · rcases List.mem_cons.1 hg with rfl | hg
      · exact ⟨h3, (Array.getElem?_eq_some_iff.1 h4).1⟩
      · obtain ⟨b, hb, hg⟩ := List.mem_flatten.1 hg
        obtain ⟨j, hj, rfl⟩ := List.getElem_of_mem hb
        exact (h9 j (by omega) _ (List.getElem?_eq_getElem hj)).lt_ g hg
  | .lt t, l, vs, bs, h, g, hg => by
    unfold RQ at h
    simp only [if_true] at h
    obtain ⟨g', cp, cells, bb, h1, rfl, h3, h4, h5, h6, h7, h8, h9, h10⟩ := h
    rcases List.mem_cons.1 hg with rfl | hg
    · exact ⟨h3, (Array.getElem?_eq_some_iff.1 h4).1⟩
    · obtain ⟨b, hb, hg⟩ := List.mem_flatten.1 hg
      obtain ⟨j, hj, rfl⟩ := List.getElem_of_mem hb
      exact (h9 j (by omega) _ (List.getElem?_eq_getElem hj)).lt_ g hg
  | .lf t, l, vs, bs, h, g, hg => by
    unfold RQ at h
    simp only [if_true] at h
    obtain ⟨g', cp, cells, bb, h1, rfl, h3, h4, h5, h6, h7, h8, h9, h10⟩ := h
    rcases List.mem_cons.1 hg with rfl | hg
    · exact ⟨h3, (Array.getElem?_eq_some_iff.1 h4).1⟩
    · obtain ⟨b, hb, hg⟩ := List.mem_flatten.1 hg
      obtain ⟨j, hj, rfl⟩ := List.getElem_of_mem hb
      exact (h9 j (by omega) _ (List.getElem?_eq_getElem hj)).lt_ g hg
  | .pr _ _, _, _, _, h, g, hg => by
    obtain ⟨us, us', cs, cs', _, rfl, h1, h2⟩ := h
    rcases List.mem_append.1 hg with hg | hg
    · exact h1.lt_ g hg
    · exact h2.lt_ g hg
theorem cells_at {w : World} {g : Nat} {cells : Array Value} {et : TypeId} {f : Nat × Nat} (h : w.heap[g]? = some (.cells cells et f)) {o s : Nat} {us : List Value} (e : (cells.toList.drop o).take s = us) : ∀ (i : Nat) (u : Value), us[i]? = some u → w.cell? ⟨g, o + i, none⟩ = some u := fun i u hu => by
  subst e
  rw [List.getElem?_take] at hu
  split at hu
  · rw [List.getElem?_drop, Array.getElem?_toList] at hu
    simp only [World.cell?, h]
    exact hu
  · cases hu
theorem RQ.rt {Z Z' : Nat → Prop} {w : World} {base : Nat} : ∀ {t : Ty} {x : El t} {vs : List Value} {bs : List Nat}, t.nop = true → (∀ g ∈ bs, Z' g) → RQ true Z w base t x vs bs → RT Z' w t x vs
  | .bo, _, _, _, _, _, h => h.1.flat_ rfl
  | .it _, _, _, _, _, _, h => h.1.flat_ rfl
  | .st, _, _, _, _, _, h => h.1.flat_ rfl
  | .oq, _, _, _, _, _, h => h.1.flat_ rfl
  | .un, _, _, _, _, _, h => by rw [RT]; exact h.1
  | .fn, _, _, _, hn, _, _ => by cases hn
  | .pt _, _, _, _, hn, _, _ => by cases hn
  | .pr a b, _, _, _, hn, hz, h => by
    simp only [Ty.nop, Bool.and_eq_true] at hn
    obtain ⟨us, us', cs, cs', e, rfl, h1, h2⟩ := h
    rw [RT]
    exact ⟨us, us', e, h1.rt hn.1 (fun g hg => hz g (by simp [hg])), h2.rt hn.2 (fun g hg => hz g (by simp [hg]))⟩
  | .sl t, l, vs, bs, hn, hz, h => by
    unfold RQ at h
    simp only [if_true] at h
    rcases h with ⟨rfl, rfl, _⟩ | ⟨g, cp, cells, bb, rfl, rfl, h3, h4, h5, h6, h7, h8, h9, h10⟩
    · exact RT.sl_nil _ _ _
    · refine RT.sl_mk (fun j hj => ?_) (hz g List.mem_cons_self) (by simp at h6; exact h6) h7
      have hb : j < bb.length := by omega
      refine ⟨_, (h9 j hj _ (List.getElem?_eq_getElem hb)).rt hn (fun k hk => hz k (List.mem_cons_of_mem _ (List.mem_flatten.2 ⟨_, List.getElem_mem hb, hk⟩))), fun i u hu => ?_⟩
      rw [Nat.zero_add]
      exact cells_at h4 rfl i u hu
  | .lt t, l, vs, bs, hn, hz, h => by
    unfold RQ at h
    simp only [if_true] at h
    obtain ⟨g, cp, cells, bb, rfl, rfl, h3, h4, h5, h6, h7, h8, h9, h10⟩ := h
    rw [RT]
    refine ⟨g, 0, cp, rfl, h6, h7, hz g List.mem_cons_self, fun j hj => ?_, fun j us hj i u hu => ?_⟩
    · have hb : j < bb.length := by omega
      refine ⟨_, (h9 j hj _ (List.getElem?_eq_getElem hb)).rt hn (fun k hk => hz k (List.mem_cons_of_mem _ (List.mem_flatten.2 ⟨_, List.getElem_mem hb, hk⟩))), fun i u hu => ?_⟩
      rw [Nat.zero_add]
      exact cells_at h4 rfl i u hu
    · have := cells_at h4 (h10 j us hj) i u hu
      rw [Nat.add_mul] at this
      rw [show 0 + l.length * t.size + (j * t.size + i) = l.length * t.size + j * t.size + i by omega]
      exact this
  | .lf t, l, vs, bs, hn, hz, h => by
    unfold RQ at h
    simp only [if_true] at h
    obtain ⟨g, cp, cells, bb, rfl, rfl, h3, h4, h5, h6, h7, h8, h9, h10⟩ := h
    rw [RT]
    refine ⟨g, 0, cp, rfl, h6, h7, hz g List.mem_cons_self, fun j hj => ?_, fun j us hj i u hu => ?_⟩
    · have hb : j < bb.length := by omega
      refine ⟨_, (h9 j hj _ (List.getElem?_eq_getElem hb)).rt hn (fun k hk => hz k (List.mem_cons_of_mem _ (List.mem_flatten.2 ⟨_, List.getElem_mem hb, hk⟩))), fun i u hu => ?_⟩
      rw [Nat.zero_add]
      exact cells_at h4 rfl i u hu
    · have := cells_at h4 (h10 j us hj) i u hu
      rw [Nat.add_mul] at this
      rw [show 0 + l.length * t.size + (j * t.size + i) = l.length * t.size + j * t.size + i by omega]
      exact this
theorem RQ.flat_to {fresh : Bool} {Z : Nat → Prop} {w : World} {base : Nat} : ∀ {t : Ty} {x : El t} {vs : List Value} {bs : List Nat}, t.flat = true → RQ fresh Z w base t x vs bs → RT Z w t x vs ∧ bs = []
  | .bo, _, _, _, _, h => h
  | .it _, _, _, _, _, h => h
  | .st, _, _, _, _, h => h
  | .oq, _, _, _, _, h => h
  | .un, _, _, _, _, h => ⟨by rw [RT]; exact h.1, h.2⟩
  | .fn, _, _, _, hf, _ => by cases hf
  | .pt _, _, _, _, hf, _ => by cases hf
  | .sl _, _, _, _, hf, _ => by cases hf
  | .lt _, _, _, _, hf, _ => by cases hf
  | .lf _, _, _, _, hf, _ => by cases hf
  | .pr a b, _, _, _, hf, h => by
    simp only [Ty.flat, Bool.and_eq_true] at hf
    obtain ⟨us, us', cs, cs', e, rfl, h1, h2⟩ := h
    obtain ⟨k1, rfl⟩ := h1.flat_to hf.1
    obtain ⟨k2, rfl⟩ := h2.flat_to hf.2
    rw [RT]
    exact ⟨⟨us, us', e, k1, k2⟩, rfl⟩
theorem RQ.flat_of {fresh : Bool} {Z : Nat → Prop} {w : World} {base : Nat} : ∀ {t : Ty} {x : El t} {vs : List Value}, t.flat = true → RT Z w t x vs → RQ fresh Z w base t x vs []
  | .bo, _, _, _, h => ⟨h, rfl⟩
  | .it _, _, _, _, h => ⟨h, rfl⟩
  | .st, _, _, _, h => ⟨h, rfl⟩
  | .oq, _, _, _, h => ⟨h, rfl⟩
  | .un, _, _, _, h => by rw [RT] at h; exact ⟨h, rfl⟩
  | .fn, _, _, hf, _ => by cases hf
  | .pt _, _, _, hf, _ => by cases hf
  | .sl _, _, _, hf, _ => by cases hf
  | .lt _, _, _, hf, _ => by cases hf
  | .lf _, _, _, hf, _ => by cases hf
  | .pr a b, _, _, hf, h => by
    simp only [Ty.flat, Bool.and_eq_true] at hf
    rw [RT] at h
    obtain ⟨us, us', e, h1, h2⟩ := h
    exact ⟨us, us', [], [], e, rfl, RQ.flat_of hf.1 h1, RQ.flat_of hf.2 h2⟩
theorem mkOk.rq {Z : Nat → Prop} {w : World} {base : Nat} : ∀ {t : Ty} {x : El t}, mkOk t x = true → RQ true Z w base t x (vcs t x) []
  | .pr a b, x, h => by
    simp only [mkOk, Bool.and_eq_true] at h
    exact ⟨_, _, [], [], rfl, rfl, mkOk.rq h.1, mkOk.rq h.2⟩
  | .bo, _, h => ⟨mkOk.rt h, rfl⟩
  | .it k, x, h => ⟨mkOk.rt h, rfl⟩
  | .st, _, h => ⟨mkOk.rt h, rfl⟩
  | .sl t, l, h => by
    have : l = [] := by simpa [mkOk] using h
    unfold RQ
    rw [if_pos rfl]
    exact .inl ⟨this, rfl, rfl⟩
  | .un, _, _ => ⟨rfl, rfl⟩
  | .pt _, _, h => by cases h
  | .fn, _, h => by cases h
  | .lt _, _, h => by cases h
  | .lf _, _, h => by cases h
  | .oq, _, h => by cases h
theorem rowQ.un {Z : Nat → Prop} {w : World} {base : Nat} {t : Ty} {l : List (El t)} {ms : List (List Value)} {n : Nat} {vs : List Value} {bs : List Nat} {mv : List (El (unl t))} (hm : ∀ x ∈ mv, mkOk (unl t) x = true) (hms : ∃ ks, ms = mv.map (vcs (unl t)) ++ ks) (hn : n = l.length + mv.length)
    (ih : ∀ (x : El t) (us : List Value) (b : List Nat), RQ true Z w base t x us b → RQ true Z w base (unl t) (unE t x) us b) (h : rowQ w base t (fun x us b => RQ true Z w base t x us b) l ms n vs bs) :
    rowQ w base (unl t) (fun x us b => RQ true Z w base (unl t) x us b) (List.map (unE t) l ++ mv) [] (List.map (unE t) l ++ mv).length vs bs := by
  obtain ⟨g, cp, cells, bb, h1, h2, h3, h4, h5, h6, h7, h8, h9, h10⟩ := h
  obtain ⟨ks, rfl⟩ := hms
  have hl : (List.map (unE t) l ++ mv).length = l.length + mv.length := by rw [List.length_append, List.length_map]
  have h6' : l.length + mv.length ≤ cp := by rw [List.length_append, List.length_map] at h6; omega
  refine ⟨g, cp, cells, bb ++ List.replicate mv.length [], by rw [hl, ← hn]; exact h1, by rw [h2]; simp, h3, by rw [eidS_unl]; exact h4, by rw [unl_size]; exact h5, by rw [hl]; simpa using h6', h7, by rw [hl, List.length_append, h8]; simp, fun j hj b hb => ?_, fun j us hj => by simp at hj⟩
  rw [unl_size]
  by_cases hjl : j < l.length
  · rw [List.getElem?_append_left (by omega)] at hb
    rw [List.getElem_append_left (by simpa using hjl), List.getElem_map]
    exact ih _ _ _ (h9 j hjl b hb)
  · have hj2 : j - l.length < mv.length := by omega
    have e : (List.map (unE t) l ++ mv)[j]'hj = mv[j - l.length] := by
      rw [List.getElem_append_right (by simpa using hjl)]; simp
    rw [List.getElem?_append_right (by omega)] at hb
    have hb' : b = [] := by
      have := List.mem_of_getElem? hb
      exact List.eq_of_mem_replicate this
    subst hb'
    rw [e]
    have := h10 (j - l.length) (vcs (unl t) mv[j - l.length]) (by rw [List.getElem?_append_left (by simpa using hj2), List.getElem?_map, List.getElem?_eq_getElem hj2]; rfl)
    rw [show l.length + (j - l.length) = j by omega] at this
    rw [this]
    exact mkOk.rq (hm _ (List.getElem_mem hj2))
theorem RQ.un {Z : Nat → Prop} {w : World} {base : Nat} : ∀ (t : Ty) (x : El t) (vs : List Value) (bs : List Nat), RQ true Z w base t x vs bs → RQ true Z w base (unl t) (unE t x) vs bs
  | .bo, _, _, _, h => h
  | .it _, _, _, _, h => h
  | .st, _, _, _, h => h
  | .oq, _, _, _, h => h
  | .un, _, _, _, h => h
  | .pt _, _, _, _, h => h
  | .fn, _, _, _, h => h
  | .pr a b, x, vs, bs, h => by
    obtain ⟨us, us', cs, cs', e1, e2, h1, h2⟩ := h
    exact ⟨us, us', cs, cs', e1, e2, RQ.un a _ _ _ h1, RQ.un b _ _ _ h2⟩
  | .sl t, l, vs, bs, h => by
    unfold RQ at h
    simp only [if_true] at h
    show RQ true Z w base (.sl (unl t)) (List.map (unE t) l) vs bs
    unfold RQ
    rw [if_pos rfl]
    refine h.imp (fun h => ⟨by rw [h.1]; rfl, h.2⟩) (fun h => ?_)
    have := rowQ.un (mv := []) (fun x hx => by cases hx) ⟨[], rfl⟩ rfl (RQ.un t) h
    simpa using this
  | .lt t, l, vs, bs, h => by
    unfold RQ at h
    simp only [if_true] at h
    rw [unE_lt]
    show RQ true Z w base (.sl (unl t)) (List.map (unE t) l) vs bs
    unfold RQ
    rw [if_pos rfl]
    have := rowQ.un (mv := []) (fun x hx => by cases hx) ⟨mks 4 t, rfl⟩ rfl (RQ.un t) h
    rw [List.append_nil] at this
    exact .inr this
  | .lf t, l, vs, bs, h => by
    unfold RQ at h
    simp only [if_true] at h
    show RQ true Z w base (.sl (unl t)) (List.map (unE t) l ++ mkv t) vs bs
    unfold RQ
    rw [if_pos rfl]
    rw [mks3] at h
    exact .inr (rowQ.un (mv := mkv t) (marks_ok t) ⟨[], by rw [List.append_nil]; rfl⟩ (by rw [mks_len4]) (RQ.un t) h)
def entV (e : Ent) : Value := .slice (e.bl.map fun g => ⟨g, 0, none⟩) e.ln e.cp
def ObOk (c : Cf) (w : World) (i : Nat) : Ob → Prop
  | .var cs => ∃ e g vs et, c.m i = some e ∧ e.bl = some g ∧ e.ds = [] ∧ w.heap[g]? = some (.cells vs et (0, 0)) ∧ RL c w vs.toList cs
  | .ty et t l m => ∃ e, c.m i = some e ∧ e.ds = [] ∧ e.ln = l.length + vis m t ∧ ((e.bl = none ∧ e.cp = 0 ∧ l = [] ∧ m = 0) ∨
      ∃ g vs, e.bl = some g ∧ w.heap[g]? = some (.cells vs et (0, 0)) ∧ vs.size = e.cp * t.size ∧ l.length + (mks m t).length ≤ e.cp ∧ e.cp ≤ maxI ∧ RW c.Z w t l g 0 ∧ MK w t.size (mks m t) g (l.length * t.size))
  | .ce et t es => ∃ e g vs, c.m i = some e ∧ e.ds = [] ∧ e.ln = es.length ∧ e.cp = es.length ∧ es.length ≤ maxI ∧ e.bl = some g ∧ w.heap[g]? = some (.cells vs et (0, 0)) ∧ vs.size = es.length * t.size ∧
      ∀ (j : Nat) (cs : List Ce), es[j]? = some cs → cs.length = t.size ∧ RL c w ((vs.toList.drop (j * t.size)).take t.size) cs
  | .fz t l m => ∃ e, c.m i = some e ∧ e.ln = l.length + vis m t ∧ ((e.bl = none ∧ e.cp = 0 ∧ l = [] ∧ m = 0) ∨
      ∃ g, e.bl = some g ∧ c.Z g ∧ l.length + (mks m t).length ≤ e.cp ∧ e.cp ≤ maxI ∧ RW c.Z w t l g 0 ∧ MK w t.size (mks m t) g (l.length * t.size))
  | .dp et t l m => ∃ e, c.m i = some e ∧ e.all.Nodup ∧ t.nop = true ∧ et = eidS t ∧ ((e.bl = none ∧ e.ln = 0 ∧ e.cp = 0 ∧ l = [] ∧ m = 0 ∧ e.ds = []) ∨
      rowQ w 0 t (fun x us b => RQ true (fun _ => False) w 0 t x us b) l (mks m t) (l.length + vis m t) [entV e] e.all)
  | .dead => True
def Ob.live : Ob → Bool
  | .var _ => true
  | .ty _ _ _ _ => true
  | .ce _ _ _ => true
  | .dp _ _ _ _ => true
  | _ => false
theorem ObOk.mono {c c' : Cf} {w w' : World} {i : Nat} (hl : c.Le c') (hs : Stay c.Z w w') : ∀ {o : Ob}, (o.live = true → ∀ e g, c.m i = some e → e.has g → w'.heap[g]? = w.heap[g]?) → ObOk c w i o → ObOk c' w' i o
  | .var _, hg, h => by
    obtain ⟨e, g, vs, et, h1, h2, h3, h4, h5⟩ := h
    exact ⟨e, g, vs, et, hl.m _ _ h1, h2, h3, (hg rfl e g h1 (Ent.has_bl h2)).trans h4, h5.mono hl hs⟩
  | .ty _ _ _ _, hg, h => by
    obtain ⟨e, h1, h0, h2, h3⟩ := h
    refine ⟨e, hl.m _ _ h1, h0, h2, h3.imp id ?_⟩
    rintro ⟨g, vs, k1, k2, k3, k4, k5, k6, k7⟩
    have hh := hg rfl e g h1 (Ent.has_bl k1)
    exact ⟨g, vs, k1, hh.trans k2, k3, k4, k5, k6.mono hl.Z hs hh, fun j us hj i u hu => (World.cell?_of_block (a := ⟨g, _, none⟩) hh).trans (k7 j us hj i u hu)⟩
  | .ce _ _ _, hg, h => by
    obtain ⟨e, g, vs, h1, h0, h2, h3, h4, h5, h6, h7, h8⟩ := h
    exact ⟨e, g, vs, hl.m _ _ h1, h0, h2, h3, h4, h5, (hg rfl e g h1 (Ent.has_bl h5)).trans h6, h7, fun j cs hj => ⟨(h8 j cs hj).1, (h8 j cs hj).2.mono hl hs⟩⟩
  | .fz _ _ _, _, h => by
    obtain ⟨e, h1, h2, h3⟩ := h
    refine ⟨e, hl.m _ _ h1, h2, h3.imp id ?_⟩
    rintro ⟨g, k1, k2, k3, k4, k5, k6⟩
    exact ⟨g, k1, hl.Z g k2, k3, k4, k5.mono hl.Z hs (hs g k2), fun j us hj i u hu => (World.cell?_of_block (a := ⟨g, _, none⟩) (hs g k2)).trans (k6 j us hj i u hu)⟩
  | .dp _ _ _ _, hg, h => by
    obtain ⟨e, h1, h2, h3, h4, h5⟩ := h
    exact ⟨e, hl.m _ _ h1, h2, h3, h4, h5.imp id (fun h => h.imp (fun _ _ h => h) (fun g hm => hg rfl e g h1 hm) (fun x us b hb h => h.mono (fun _ _ h => h) (fun g hm => hg rfl e g h1 (hb g hm))))⟩
  | .dead, _, _ => trivial
def Zall (c : Cf) (O : Store) (g : Nat) : Prop := c.Z g ∨ ∃ i o e, O i = some o ∧ o.live = true ∧ (∀ cs, o ≠ .var cs) ∧ c.m i = some e ∧ e.has g
theorem Stay.refl (Z : Nat → Prop) (w : World) : Stay Z w w := fun _ _ => rfl
theorem RT.zone {Z Z' : Nat → Prop} {w : World} (hz : ∀ g, Z g → Z' g) {t : Ty} {x : El t} {vs : List Value} (h : RT Z w t x vs) : RT Z' w t x vs := h.mono hz (Stay.refl Z w)
theorem RW.zone {Z Z' : Nat → Prop} {w : World} (hz : ∀ g, Z g → Z' g) {t : Ty} {l : List (El t)} {g o : Nat} (h : RW Z w t l g o) : RW Z' w t l g o := h.mono hz (Stay.refl Z w) rfl
theorem RW.part {Z : Nat → Prop} {w : World} {t : Ty} {l : List (El t)} {g o : Nat} (h : RW Z w t l g o) (a n : Nat) : RW Z w t ((l.drop a).take n) g (o + a * t.size) := fun j hj => by
  rw [List.length_take, List.length_drop] at hj
  obtain ⟨us, h1, h2⟩ := h (a + j) (by omega)
  refine ⟨us, ?_, fun i u hu => ?_⟩
  · rw [List.getElem_take, List.getElem_drop]; exact h1
  · have := h2 i u hu
    rw [Nat.add_mul] at this
    rw [show o + a * t.size + (j * t.size + i) = o + (a * t.size + j * t.size + i) by omega]
    exact this
theorem cast_eq {t u : Ty} {l : List (El t)} {m : List (El u)} (h : cast_ t u l = some m) : ∃ e : t = u, m = e ▸ l := by
  unfold cast_ at h
  split at h
  · rename_i e; cases h; exact ⟨e, rfl⟩
  · cases h
theorem cell_of {w : World} {g : Nat} {vs : Array Value} {et : TypeId} {f : Nat × Nat} (h : w.heap[g]? = some (.cells vs et f)) (o : Nat) : w.cell? ⟨g, o, none⟩ = vs[o]? := by
  simp [World.cell?, h]
theorem mapO_at {α β : Type} {f : α → Option β} : ∀ {l : List α} {m : List β}, mapO f l = some m → l.length = m.length ∧ ∀ (j : Nat) (y : β), m[j]? = some y → ∃ x, l[j]? = some x ∧ f x = some y
  | [], m, h => by cases h; exact ⟨rfl, fun j y hy => by simp at hy⟩
  | x :: xs, m, h => by
    unfold mapO at h
    split at h
    · rename_i y ys h1 h2
      cases h
      obtain ⟨k1, k2⟩ := mapO_at h2
      refine ⟨by simp [k1], fun j z hz => ?_⟩
      cases j with
      | zero => simp at hz; subst hz; exact ⟨x, rfl, h1⟩
      | succ j => simp at hz; obtain ⟨a, e1, e2⟩ := k2 j z hz; exact ⟨a, by simpa using e1, e2⟩
    · cases h
theorem RL.single {c : Cf} {w : World} {vs : List Value} {x : Ce} (h : RL c w vs [x]) : ∃ v, vs = [v] ∧ RC c w v x := by
  obtain ⟨h1, h2⟩ := h
  match vs, h1 with
  | [v], _ => exact ⟨v, rfl, h2 0 v x rfl rfl⟩
theorem mks_vis {m : Nat} {t : Ty} (h : m ≠ 4) : (mks m t).length = vis m t := by
  unfold mks vis
  split
  · rfl
  · exact absurd rfl h
  · rw [List.length_map]
theorem vis_le (m : Nat) (t : Ty) : vis m t ≤ (mks m t).length := by
  by_cases h : m = 4
  · subst h; exact Nat.zero_le _
  · rw [mks_vis h]; exact Nat.le_refl _
theorem unL_row {Z : Nat → Prop} {w : World} {u : Ty} {l : List (El u)} {g o : Nat} (h : RW Z w u l g o) : RW Z w (unl u) (unL u l) g o := by
  rw [unL_eq]
  have := rows_un (ms := []) (fun x hx => by cases hx) (RT.unE u) h (fun j us hj => by simp at hj)
  rw [List.append_nil] at this
  exact this
theorem cvL_row {Z : Nat → Prop} {w : World} {u t : Ty} {l : List (El u)} {x : List (El t)} {g o : Nat} (h : cvL u t l = some x) (hr : RW Z w u l g o) : RW Z w t x g o ∧ x.length = l.length ∧ t.size = u.size := by
  unfold cvL at h
  split at h
  · obtain ⟨rfl, rfl⟩ := cast_eq h; exact ⟨hr, rfl, rfl⟩
  · obtain ⟨rfl, rfl⟩ := cast_eq h; exact ⟨unL_row hr, unL_len _ _, unl_size _⟩
theorem cvM_len {m : Nat} {u t : Ty} {l : List (El u)} {x : List (El t)} (h : cvM m u t l = some x) : x.length = l.length + vis m u ∧ t.size = u.size := by
  have cv : ∀ {l : List (El u)} {x : List (El t)}, cvL u t l = some x → x.length = l.length ∧ t.size = u.size := fun {l x} h => by
    unfold cvL at h
    split at h
    · obtain ⟨rfl, rfl⟩ := cast_eq h; exact ⟨rfl, rfl⟩
    · obtain ⟨rfl, rfl⟩ := cast_eq h; exact ⟨unL_len _ _, unl_size _⟩
  unfold cvM at h
  split at h
  · exact cv h
  · exact cv h
  · rename_i h0 h4
    obtain ⟨rfl, rfl⟩ := cast_eq h
    refine ⟨?_, unl_size _⟩
    show (seen m u l).length = _
    unfold seen vis
    split
    · exact absurd rfl h0
    · exact absurd rfl h4
    · rw [List.length_append, unL_len]
theorem cvM_row {Z : Nat → Prop} {w : World} {m : Nat} {u t : Ty} {l : List (El u)} {x : List (El t)} {g : Nat} (h : cvM m u t l = some x) (hr : RW Z w u l g 0) (hm : MK w u.size (mks m u) g (l.length * u.size)) : RW Z w t x g 0 := by
  unfold cvM at h
  split at h
  · exact (cvL_row h hr).1
  · exact (cvL_row h hr).1
  · rename_i h0 h4
    obtain ⟨rfl, rfl⟩ := cast_eq h
    show RW Z w (unl u) (seen m u l) g 0
    have e : seen m u l = List.map (unE u) l ++ (mkv u).take m := by
      unfold seen
      split
      · exact absurd rfl h0
      · exact absurd rfl h4
      · rw [unL_eq]
    have e2 : mks m u = ((mkv u).take m).map (vcs (unl u)) := by
      unfold mks
      split
      · exact absurd rfl h0
      · exact absurd rfl h4
      · rfl
    rw [e]
    refine rows_un (ms := (mkv u).take m) (fun x hx => marks_ok u x (List.mem_of_mem_take hx)) (RT.unE u) hr ?_
    rw [Nat.zero_add, ← e2]
    exact hm
structure RowV (Z : Nat → Prop) (w : World) (u : Ty) (l : List (El u)) (m : Nat) (e : Ent) : Prop where
  ln : e.ln = l.length + vis m u
  r : (e.bl = none ∧ e.cp = 0 ∧ l = [] ∧ m = 0) ∨ ∃ g, e.bl = some g ∧ Z g ∧ l.length + (mks m u).length ≤ e.cp ∧ e.cp ≤ maxI ∧ RW Z w u l g 0 ∧ MK w u.size (mks m u) g (l.length * u.size)
theorem RowV.ow {Z : Nat → Prop} {w : World} {u t : Ty} {l : List (El u)} {m : Nat} {e : Ent} {x : List (El t)} (h : RowV Z w u l m e) (k : cvM m u t l = some x) : RT Z w (.sl t) x [entV e] := by
  obtain ⟨k1, k2⟩ := cvM_len k
  have hln := h.ln
  have hle := vis_le m u
  rcases h.r with ⟨b1, b2, rfl, rfl⟩ | ⟨g, b1, b2, b3, b4, b5, b6⟩
  · have e0 : x = [] := List.eq_nil_of_length_eq_zero (by rw [k1]; rfl)
    have e1 : e.ln = 0 := hln
    subst e0
    unfold entV
    rw [b1, b2, e1]
    exact RT.sl_nil _ _ _
  · unfold entV
    rw [b1, hln, ← k1]
    exact RT.sl_mk (cvM_row k b5 b6) b2 (by omega) b4
theorem RowV.os {Z : Nat → Prop} {w : World} {u t : Ty} {l : List (El u)} {m : Nat} {e : Ent} {x : List (El t)} {a n : Nat} {A : Option Addr} (h : RowV Z w u l m e) (k : cvM m u t l = some x) (hn : a + n ≤ e.ln) (hA : a < e.cp → A = e.bl.map fun g => ⟨g, a * u.size, none⟩) : RT Z w (.sl t) (sub_ a n x) [.slice A n (e.cp - a)] := by
  obtain ⟨k1, k2⟩ := cvM_len k
  have hln := h.ln
  have hle := vis_le m u
  have hl : (sub_ a n x).length = n := by unfold sub_; rw [List.length_take, List.length_drop]; omega
  have nil : n = 0 → e.cp ≤ maxI → (A = none → e.cp - a = 0) → RT Z w (.sl t) (sub_ a n x) [.slice A n (e.cp - a)] := fun h0 hc hA => by
    have e0 : sub_ a n x = [] := List.eq_nil_of_length_eq_zero (by rw [hl, h0])
    rw [e0, h0, RT]
    exact ⟨A, e.cp - a, rfl, Nat.zero_le _, by omega, hA, fun j hj => absurd hj (Nat.not_lt_zero _)⟩
  rcases h.r with ⟨b1, b2, rfl, rfl⟩ | ⟨g, b1, b2, b3, b4, b5, b6⟩
  · have e1 : e.ln = 0 := hln
    exact nil (by omega) (by omega) (fun _ => by omega)
  · by_cases ha : a < e.cp
    · rw [hA ha, b1]
      have hr := (cvM_row k b5 b6).part a n
      have e2 : (x.drop a).take n = sub_ a n x := rfl
      rw [e2, Nat.zero_add, k2] at hr
      have := RT.sl_mk (c := e.cp - a) hr b2 (by rw [hl]; omega) (by omega)
      rw [hl] at this
      exact this
    · exact nil (by omega) b4 (fun _ => by omega)
theorem dpRow {Z' : Nat → Prop} {w : World} {u : Ty} {l : List (El u)} {m : Nat} {e : Ent} (h3 : u.nop = true) (h5 : (e.bl = none ∧ e.ln = 0 ∧ e.cp = 0 ∧ l = [] ∧ m = 0 ∧ e.ds = []) ∨
      rowQ w 0 u (fun x us b => RQ true (fun _ => False) w 0 u x us b) l (mks m u) (l.length + vis m u) [entV e] e.all) (hz : ∀ k, e.has k → Z' k) : RowV Z' w u l m e := by
  rcases h5 with ⟨b1, b2, b3, rfl, rfl, _⟩ | ⟨g, cp, cells, bb, q1, q2, q3, q4, q5, q6, q7, q8, q9, q10⟩
  · exact ⟨b2, .inl ⟨b1, b3, rfl, rfl⟩⟩
  · have e1 : e.bl = some g ∧ e.ln = l.length + vis m u ∧ e.cp = cp := by
      unfold entV at q1
      simp only [List.cons.injEq, Value.slice.injEq, and_true] at q1
      obtain ⟨a1, a2, a3⟩ := q1
      refine ⟨?_, a2, a3⟩
      cases hb : e.bl with
      | none => rw [hb] at a1; cases a1
      | some g' => rw [hb] at a1; cases a1; rfl
    obtain ⟨e1, e2, rfl⟩ := e1
    refine ⟨e2, .inr ⟨g, e1, hz g (Ent.has_bl e1), q6, q7, fun j hj => ?_, fun j us hj i u' hu => ?_⟩⟩
    · have hb : j < bb.length := by omega
      refine ⟨_, (q9 j hj _ (List.getElem?_eq_getElem hb)).rt h3 (fun k hk => hz k (by unfold Ent.has; rw [q2]; exact List.mem_cons_of_mem _ (List.mem_flatten.2 ⟨_, List.getElem_mem hb, hk⟩))), fun i u' hu => ?_⟩
      rw [Nat.zero_add]
      exact cells_at q4 rfl i u' hu
    · have := cells_at q4 (q10 j us hj) i u' hu
      rw [Nat.add_mul] at this
      rw [show l.length * u.size + (j * u.size + i) = l.length * u.size + j * u.size + i by omega]
      exact this
section
variable {c : Cf} {w : World} {O : Store}
theorem ObOk.row (hO : ∀ i o, O i = some o → ObOk c w i o) {i : Nat} {u : Ty} {l : List (El u)} {m : Nat} (h : (∃ et, O i = some (.ty et u l m)) ∨ O i = some (.fz u l m) ∨ ∃ et, O i = some (.dp et u l m)) : ∃ e, c.m i = some e ∧ RowV (Zall c O) w u l m e := by
  rcases h with ⟨et, hi⟩ | hi | ⟨et, hi⟩
  · obtain ⟨e, h1, h0, h2, h3⟩ := hO i _ hi
    refine ⟨e, h1, h2, h3.imp id ?_⟩
    rintro ⟨g, vs, k1, k2, k3, k4, k5, k6, k7⟩
    exact ⟨g, k1, .inr ⟨i, _, e, hi, rfl, (fun _ h => by cases h), h1, Ent.has_bl k1⟩, k4, k5, k6.zone (fun g hg => .inl hg), k7⟩
  · obtain ⟨e, h1, h2, h3⟩ := hO i _ hi
    refine ⟨e, h1, h2, h3.imp id ?_⟩
    rintro ⟨g, k1, k2, k4, k5, k6, k7⟩
    exact ⟨g, k1, .inl k2, k4, k5, k6.zone (fun g hg => .inl hg), k7⟩
  · obtain ⟨e, h1, h2, h3, h4, h5⟩ := hO i _ hi
    exact ⟨e, h1, dpRow h3 h5 (fun k hk => .inr ⟨i, _, e, hi, rfl, (fun _ h => by cases h), h1, hk⟩)⟩
theorem toE_sound (hO : ∀ i o, O i = some o → ObOk c w i o) : ∀ (t : Ty) (cs : List Ce) (vs : List Value) (x : El t), RL c w vs cs → toE O t cs = some x → RT (Zall c O) w t x vs
  | .bo, cs, vs, x, h, e => by
    unfold toE toB at e
    split at e <;> try (cases e; done)
    all_goals (cases e; obtain ⟨v, rfl, hv⟩ := h.single; rw [RT])
    · rw [show v = _ from hv]
    · rw [show v = _ from hv]
    · rw [show v = _ from hv.1]
  | .it k, cs, vs, x, h, e => by
    unfold toE toI at e
    split at e <;> try (cases e; done)
    split at e <;> try (cases e; done)
    rename_i n hk
    subst hk
    cases e
    obtain ⟨v, rfl, hv⟩ := h.single
    rw [RT, hv.1]
    exact ⟨rfl, hv.2⟩
  | .st, cs, vs, x, h, e => by
    unfold toE toS at e
    split at e <;> try (cases e; done)
    cases e
    obtain ⟨v, rfl, hv⟩ := h.single
    rw [RT, hv.1]
    exact ⟨rfl, hv.2⟩
  | .un, cs, vs, x, h, e => by
    unfold toE toU at e
    split at e <;> try (cases e; done)
    rw [RT]
    exact List.eq_nil_of_length_eq_zero h.1
  | .oq, cs, vs, x, h, e => by
    unfold toE toQ at e
    split at e <;> try (cases e; done)
    · cases e
      obtain ⟨v, rfl, rfl, hv⟩ := h.single
      rw [RT]
      exact ⟨rfl, hv⟩
    · cases e
      obtain ⟨v, rfl, hv⟩ := h.single
      rw [RT, show v = _ from hv]
      exact ⟨rfl, _, _, _, rfl⟩
  | .pr a b, cs, vs, x, h, e => by
    unfold toE at e
    split at e <;> try (cases e; done)
    rename_i y z h1 h2
    cases e
    rw [RT]
    refine ⟨vs.take a.size, vs.drop a.size, (List.take_append_drop _ _).symm, ?_, ?_⟩
    · exact toE_sound hO a _ _ _ (h.take _) h1
    · exact toE_sound hO b _ _ _ (h.drop _) h2
  | .pt _, cs, vs, x, h, e => by unfold toE at e; cases e
  | .fn, cs, vs, x, h, e => by unfold toE at e; cases e
  | .lt t, cs, vs, x, h, e => by
    unfold toE toLt at e
    have row : ∀ {u : Ty} {l : List (El u)} {i : Nat}, cast_ u t l = some x → cs = [.ow i] → ((∃ et, O i = some (.ty et u l 4)) ∨ O i = some (.fz u l 4) ∨ ∃ et, O i = some (.dp et u l 4)) → RT (Zall c O) w (.lt t) x vs := fun {u l i} h1 h2 h3 => by
      obtain ⟨rfl, rfl⟩ := cast_eq h1
      subst h2
      obtain ⟨v, rfl, en, k1, k2⟩ := h.single
      obtain ⟨en', q1, q2⟩ := ObOk.row hO h3
      rw [k1] at q1; cases q1
      rcases q2.r with ⟨_, _, _, q⟩ | ⟨g, b1, b2, b3, b4, b5, b6⟩
      · cases q
      · have e1 : en.ln = x.length := q2.ln
        rw [RT]
        refine ⟨g, 0, en.cp, ?_, b3, b4, b2, b5, by rw [Nat.zero_add]; exact b6⟩
        rw [k2, b1, e1]; rfl
    split at e
    · rename_i u l
      obtain ⟨rfl, rfl⟩ := cast_eq e
      obtain ⟨v, rfl, hv⟩ := h.single
      exact RT.zone (fun g hg => .inl hg) hv
    · rename_i i
      split at e
      · rename_i hi; exact row e rfl (.inl ⟨_, hi⟩)
      · rename_i hi; exact row e rfl (.inr (.inl hi))
      · rename_i hi; exact row e rfl (.inr (.inr ⟨_, hi⟩))
      · cases e
    · cases e
  | .lf t, cs, vs, x, h, e => by
    unfold toE toLf at e
    have row : ∀ {u : Ty} {l : List (El u)} {i : Nat}, cast_ u t l = some x → cs = [.ow i] → ((∃ et, O i = some (.ty et u l 3)) ∨ O i = some (.fz u l 3) ∨ ∃ et, O i = some (.dp et u l 3)) → RT (Zall c O) w (.lf t) x vs := fun {u l i} h1 h2 h3 => by
      obtain ⟨rfl, rfl⟩ := cast_eq h1
      subst h2
      obtain ⟨v, rfl, en, k1, k2⟩ := h.single
      obtain ⟨en', q1, q2⟩ := ObOk.row hO h3
      rw [k1] at q1; cases q1
      rcases q2.r with ⟨_, _, _, q⟩ | ⟨g, b1, b2, b3, b4, b5, b6⟩
      · cases q
      · have e1 : en.ln = x.length + (mks 3 u).length := by rw [mks_vis (by decide)]; exact q2.ln
        rw [RT]
        refine ⟨g, 0, en.cp, ?_, b3, b4, b2, b5, by rw [Nat.zero_add]; exact b6⟩
        rw [k2, b1, e1]; rfl
    split at e
    · rename_i u l
      obtain ⟨rfl, rfl⟩ := cast_eq e
      obtain ⟨v, rfl, hv⟩ := h.single
      exact RT.zone (fun g hg => .inl hg) hv
    · rename_i i
      split at e
      · rename_i hi; exact row e rfl (.inr (.inl hi))
      · rename_i hi; exact row e rfl (.inr (.inr ⟨_, hi⟩))
      · cases e
    · cases e
  | .sl t, cs, vs, x, h, e => by
    unfold toE toL at e
    have row : ∀ {u : Ty} {l : List (El u)} {m i : Nat}, cvM m u t l = some x → cs = [.ow i] → ((∃ et, O i = some (.ty et u l m)) ∨ O i = some (.fz u l m) ∨ ∃ et, O i = some (.dp et u l m)) → RT (Zall c O) w (.sl t) x vs := fun {u l m i} h1 h2 h3 => by
      subst h2
      obtain ⟨v, rfl, en, k1, k2⟩ := h.single
      obtain ⟨en', q1, q2⟩ := ObOk.row hO h3
      rw [k1] at q1; cases q1
      rw [k2]
      exact q2.ow h1
    have part : ∀ {u : Ty} {l : List (El u)} {m i s a n : Nat}, (if Nat.beq s u.size = true then (cvM m u t l).map (sub_ a n) else none) = some x → cs = [.os i s a n] → ((∃ et, O i = some (.ty et u l m)) ∨ O i = some (.fz u l m) ∨ ∃ et, O i = some (.dp et u l m)) → RT (Zall c O) w (.sl t) x vs := fun {u l m i s a n} h1 h2 h3 => by
      subst h2
      split at h1
      · rename_i hs
        have hs := Nat.eq_of_beq_eq_true hs
        subst hs
        cases hc : cvM m u t l with
        | none => rw [hc] at h1; cases h1
        | some y =>
          rw [hc] at h1
          cases h1
          obtain ⟨v, rfl, en, A, k1, k2, k3, k4, _⟩ := h.single
          obtain ⟨en', q1, q2⟩ := ObOk.row hO h3
          rw [k1] at q1; cases q1
          rw [k3]
          exact q2.os hc k2 k4
      · cases h1
    split at e
    · cases e
      obtain ⟨v, rfl, hv⟩ := h.single
      rw [show v = _ from hv]
      exact RT.sl_nil _ _ _
    · rename_i u l
      obtain ⟨rfl, rfl⟩ := cast_eq e
      obtain ⟨v, rfl, hv⟩ := h.single
      exact RT.zone (fun g hg => .inl hg) hv
    · rename_i u l
      obtain ⟨rfl, rfl⟩ := cast_eq e
      obtain ⟨v, rfl, hv⟩ := h.single
      have := RT.unE (.lt u) l [v] hv
      rw [unE_lt, ← unL_eq] at this
      exact RT.zone (fun g hg => .inl hg) this
    · rename_i u l
      obtain ⟨rfl, rfl⟩ := cast_eq e
      obtain ⟨v, rfl, hv⟩ := h.single
      have := RT.unE (.lf u) l [v] hv
      rw [unL_eq]
      exact RT.zone (fun g hg => .inl hg) this
    · rename_i i
      split at e
      · rename_i hi; exact row e rfl (.inl ⟨_, hi⟩)
      · rename_i hi; exact row e rfl (.inr (.inl hi))
      · rename_i hi; exact row e rfl (.inr (.inr ⟨_, hi⟩))
      · rename_i et u es hi
        obtain ⟨v, rfl, e1, m1, rfl⟩ := h.single
        obtain ⟨e2, g, ws, k1, k0, k2, k3, k4, k5, k6, k7, k8⟩ := hO i _ hi
        rw [m1] at k1
        cases k1
        obtain ⟨n1, n2⟩ := mapO_at e
        rw [k5, k2, n1]
        refine RT.sl_mk (fun j hj => ?_) (.inr ⟨i, _, _, hi, rfl, (fun cs h => by cases h), m1, Ent.has_bl k5⟩) (by omega) (by omega)
        obtain ⟨cs, q1, q2⟩ := n2 j _ (List.getElem?_eq_getElem hj)
        obtain ⟨r1, r2⟩ := k8 j cs q1
        have s1 := toE_sound hO t cs _ _ r2 q2
        have hl : t.size = u.size := by rw [← s1.len, r2.1, r1]
        refine ⟨_, s1, fun i v hv => ?_⟩
        rw [cell_of k6, Nat.zero_add, hl]
        rw [List.getElem?_take] at hv
        split at hv
        · rw [List.getElem?_drop] at hv; simpa using hv
        · cases hv
      · cases e
    · rename_i i s a n
      split at e
      · rename_i hi; exact part e rfl (.inl ⟨_, hi⟩)
      · rename_i hi; exact part e rfl (.inr (.inl hi))
      · rename_i hi; exact part e rfl (.inr (.inr ⟨_, hi⟩))
      · cases e
    · cases e
end
end Go.Proofs.YtjoonfegjobgbaaGreatDoor
