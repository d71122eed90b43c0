/- Texts of this claim, joined: B12 A27 B13 B14. -/
import Derived.Test.YtifonmdcicegdaaGreatQx
set_option linter.unusedVariables false
set_option linter.unusedSimpArgs false
namespace Go.Proofs.YtifonmdcicegdaaGreat
open Go Go.RowKit

section
variable {gp : Option Nat} {Z0 : Nat → Prop} {w0 w w' : World} {D : Nat → Prop} {c : Cf} {T : Nat → Option AV} {O : Store} {a : Act} {N : Nat}
/-- THINGS THAT ARE WRITTEN OVER -/
theorem Sim.over (S : Sim gp Z0 w0 N D c T O a.tmps w) {ids : List Nat} (hids : ∀ i ∈ ids, ∃ o, O i = some o ∧ o.live = true ∧ ∀ cs, o ≠ .var cs) (h1 : w'.os = w.os) (h2 : w'.tape = w.tape) (h3 : w'.output = w.output) (h4 : w.heap.size ≤ w'.heap.size) (h5 : ∀ g, g < w.heap.size → g ∉ blks c ids → w'.heap[g]? = w.heap[g]?) :
    Sim gp Z0 w0 N D c T (upO O (deads ids)) a.tmps w' ∧ Stay c.Z w w' := by
  have own : ∀ g, g ∈ blks c ids → ∃ i o e, i ∈ ids ∧ O i = some o ∧ o.live = true ∧ (∀ cs, o ≠ .var cs) ∧ c.m i = some e ∧ e.has g := fun g hg => by
    obtain ⟨i, e, hi, he, hh⟩ := blks_mem hg
    obtain ⟨o, o1, o2, o3⟩ := hids i hi
    exact ⟨i, o, e, hi, o1, o2, o3, he, hh⟩
  have st : Stay c.Z w w' := fun g hz => h5 g (S.zl g hz) (fun hg => by
    obtain ⟨i, o, e, _, o1, o2, _, he, hh⟩ := own g hg
    exact S.zo i o e g o1 o2 he hh hz)
  refine ⟨S.step (d := none) (v := .bool true) (av := .c .tt) (ob := deads ids) (c' := c) (w' := w') (D' := D) rfl (Cf.Le.refl c) st rfl (fun i o q1 q2 q3 e g q4 q5 => ?_) (fun i o h => ?_) (fun i o e g h hl => ?_) (fun i j o p e f g h _ hl => ?_) (fun g hz => ⟨Nat.lt_of_lt_of_le (S.zl g hz) h4, S.zz g hz, fun i o f q1 _ q3 q4 q5 => S.zo i o f g q1 q3 q4 q5 hz⟩) S.dom ?_ (fun i cs o q1 q2 => ?_), st⟩
  · refine h5 g ((S.obj i o q1).lt q3 e g q4 q5) (fun hg => ?_)
    obtain ⟨j, p, f, hj, p1, p2, _, hf, hh⟩ := own g hg
    exact S.inj i j o p e f g q1 p1 q3 p2 (fun e0 => by subst e0; rw [look_deads hj] at q2; cases q2) q4 hf q5 hh
  · obtain ⟨rfl, _⟩ := deads_look h
    trivial
  · obtain ⟨rfl, _⟩ := deads_look h
    cases hl
  · obtain ⟨rfl, _⟩ := deads_look h
    cases hl
  · refine ⟨h1.trans S.gr.os, h2.trans S.gr.tape, h3.trans S.gr.output, Nat.le_trans S.gr.size h4, fun k hk hr => ?_⟩
    refine (h5 k (Nat.lt_of_lt_of_le hk S.gr.size) (fun hg => ?_)).trans (S.gr.block k hk hr)
    obtain ⟨i, o, e, _, o1, o2, o3, he, hh⟩ := own k hg
    have := S.gp_not o1 o2 o3 he hh
    omega
  · obtain ⟨rfl, hi⟩ := deads_look q2
    obtain ⟨o, o1, _, o3⟩ := hids i hi
    rw [q1] at o1
    cases o1
    exact absurd rfl (o3 cs)
end
/-- the world's first blocks alone -/
def cut (w : World) (n : Nat) : World := { w with heap := w.heap.extract 0 n }
theorem cut_ext {w : World} {n : Nat} (h : n ≤ w.heap.size) : Ext (cut w n) w ∧ (cut w n).heap.size = n := by
  have hs : (cut w n).heap.size = n := by simp [cut]; omega
  refine ⟨⟨rfl, rfl, rfl, by rw [hs]; exact h, fun k hk => ?_⟩, hs⟩
  rw [hs] at hk
  show w.heap[k]? = (w.heap.extract 0 n)[k]?
  rw [Array.getElem?_extract]
  rw [if_pos (by omega), Nat.zero_add]
/-- words in a row of one's own -/
theorem own_rq {Z : Nat → Prop} {w : World} {base : Nat} {xs : List Int} {v : Value} {bs : List Nat} (h : RQ true Z w base tW32 xs [v] bs) : ∃ A c, v = .slice A xs.length c ∧ bs = blkA A ∧ Own w base A c xs ∧ Wf xs := by
  unfold RQ at h
  rw [if_pos rfl] at h
  rcases h with ⟨rfl, h1, rfl⟩ | h
  · cases h1
    exact ⟨none, 0, rfl, rfl, Own.nil _ _, fun x hx => by cases hx⟩
  · obtain ⟨g, cp, cells, h1, rfl, h3, h4, h5, h6, h7, h8, _⟩ := ty_of_rowQ (Z := Z) (m := 0) rfl h
    cases h1
    have hl : xs.length ≤ cp := by simpa [mks] using h6
    have h5 : cells.size = cp := by rw [h5]; exact Nat.mul_one cp
    have el : ∀ (j : Nat) (hj : j < xs.length), (0 ≤ xs[j] ∧ xs[j] ≤ 4294967295) ∧ cells[j]? = some (.int .u32 xs[j]) := fun j hj => by
      obtain ⟨us, k1, k2⟩ := h8 j hj
      rw [RT] at k1
      obtain ⟨rfl, k3⟩ := k1
      refine ⟨k3, ?_⟩
      have := k2 0 _ rfl
      rw [cell_of h4, show 0 + (j * (Ty.it IntKind.u32).size + 0) = j by show 0 + (j * 1 + 0) = j; omega] at this
      exact this
    refine ⟨some ⟨g, 0, none⟩, cp, rfl, rfl, Own.mk h3 h4 hl h7 h5 ?_, fun x hx => ?_⟩
    · apply List.ext_getElem?
      intro j
      unfold nums
      rw [List.getElem?_map]
      by_cases hj : j < xs.length
      · rw [List.getElem?_take, if_pos hj, Array.getElem?_toList, (el j hj).2, List.getElem?_eq_getElem hj]; rfl
      · rw [List.getElem?_eq_none (by rw [List.length_take]; omega), List.getElem?_eq_none (by omega)]; rfl
    · obtain ⟨j, hj, rfl⟩ := List.getElem_of_mem hx
      have := (el j hj).1
      exact ⟨this.1, Int.lt_of_le_of_lt this.2 (by decide)⟩
theorem own_rqR {Z : Nat → Prop} {w : World} {base : Nat} {x : El tR} {vs : List Value} {bs : List Nat} (h : RQ true Z w base tR x vs bs) (hn : bs.Nodup) : ∃ p : Adr, vs = [.bool (toFr x).neg, .slice p.A (toFr x).num.length p.c, .slice p.B (toFr x).den.length p.d] ∧ bs = blkA p.A ++ blkA p.B ∧ OF w base p (toFr x) := by
  obtain ⟨u1, u2, b1, b2, rfl, rfl, h1, h2⟩ := h
  obtain ⟨u3, u4, b3, b4, rfl, rfl, h3, h4⟩ := h2
  obtain ⟨u5, u6, b5, b6, rfl, rfl, h5, h6⟩ := h4
  obtain ⟨h1, rfl⟩ := h1
  obtain ⟨rfl, rfl⟩ := h6
  rw [RT] at h1
  subst h1
  have l3 := (h3.rt (Z' := fun _ => True) rfl (fun _ _ => trivial)).len
  have l5 := (h5.rt (Z' := fun _ => True) rfl (fun _ _ => trivial)).len
  match u3, l3 with
  | [v3], _ =>
    match u5, l5 with
    | [v5], _ =>
      obtain ⟨A, ca, rfl, rfl, oa, wa⟩ := own_rq h3
      obtain ⟨B, cb, rfl, rfl, ob, wb⟩ := own_rq h5
      refine ⟨⟨A, ca, B, cb⟩, rfl, by simp, oa, ob, fun a b ha hb e => ?_, wa, wb⟩
      have ha : A = some a := ha
      have hb : B = some b := hb
      subst ha hb
      simp only [blkA, List.append_nil, List.nil_append] at hn
      exact (List.nodup_cons.1 hn).1 (by rw [e]; exact List.mem_singleton.2 rfl)
theorem blkA_mem {A : Option Addr} {g : Nat} : g ∈ blkA A ↔ ∃ a, A = some a ∧ a.block = g := by
  cases A with
  | none => simp [blkA]
  | some a => simp [blkA, eq_comm]
/-- fractions side by side, at their addresses -/
structure FA (w : World) (base : Nat) (fs : List Fr) (vs : List Value) (bs : List Nat) (L : List (Adr × Fr)) : Prop where
  cells : cellsF L = vs
  fr : L.map (·.2) = fs
  own : ∀ (i : Nat) (p : Adr) (f : Fr), L[i]? = some (p, f) → OF w base p f
  blk : (L.flatMap fun p => blkA p.1.A ++ blkA p.1.B) = bs
theorem FA.nil (w : World) (base : Nat) : FA w base [] [] [] [] := ⟨rfl, rfl, fun i p f h => by simp at h, rfl⟩
theorem FA.append {w : World} {base : Nat} {fs gs : List Fr} {vs us : List Value} {bs cs : List Nat} {L M : List (Adr × Fr)} (h : FA w base fs vs bs L) (k : FA w base gs us cs M) : FA w base (fs ++ gs) (vs ++ us) (bs ++ cs) (L ++ M) :=
  ⟨by rw [cellsF_app, h.cells, k.cells], by rw [List.map_append, h.fr, k.fr], fun i p f e => by
    by_cases hi : i < L.length
    · rw [List.getElem?_append_left hi] at e; exact h.own i p f e
    · rw [List.getElem?_append_right (by omega)] at e; exact k.own _ p f e, by rw [List.flatMap_append, h.blk, k.blk]⟩
theorem FA.len {w : World} {base : Nat} {fs : List Fr} {vs : List Value} {bs : List Nat} {L : List (Adr × Fr)} (h : FA w base fs vs bs L) : L.length = fs.length := by rw [← h.fr, List.length_map]
theorem FA.one {Z : Nat → Prop} {w : World} {base : Nat} {x : El tR} {vs : List Value} {bs : List Nat} (h : RQ true Z w base tR x vs bs) (hn : bs.Nodup) : ∃ L, FA w base [toFr x] vs bs L := by
  obtain ⟨p, rfl, rfl, o⟩ := own_rqR h hn
  refine ⟨[(p, toFr x)], rfl, rfl, fun i q f e => ?_, by simp⟩
  cases i with
  | zero => cases e; exact o
  | succ i => simp at e
theorem FA.two {Z : Nat → Prop} {w : World} {base : Nat} {x : El tG} {vs : List Value} {bs : List Nat} (h : RQ true Z w base tG x vs bs) (hn : bs.Nodup) : ∃ L, FA w base [toFr x.1, toFr x.2.1] vs bs L := by
  obtain ⟨u1, u2, b1, b2, rfl, rfl, h1, h2⟩ := h
  obtain ⟨u3, u4, b3, b4, rfl, rfl, h3, h4⟩ := h2
  obtain ⟨rfl, rfl⟩ := h4
  obtain ⟨L, hL⟩ := FA.one h1 (hn.sublist (List.sublist_append_left _ _))
  rw [List.append_nil] at hn ⊢
  obtain ⟨M, hM⟩ := FA.one h3 (hn.sublist (List.sublist_append_right _ _))
  rw [List.append_nil]
  exact ⟨L ++ M, hL.append hM⟩
theorem FA.of {t : Ty} {w : World} {base : Nat} {F : El t → List Fr} (hF : ∀ (x : El t) (vs : List Value) (bs : List Nat), RQ true noZ w base t x vs bs → bs.Nodup → ∃ L, FA w base (F x) vs bs L) : ∀ {l : List (El t)} {vs : List Value} {bb : List (List Nat)}, FQ w t l vs bb → (∀ g ∈ bb.flatten, base ≤ g) → bb.flatten.Nodup → ∃ L, FA w base (l.flatMap F) vs bb.flatten L
  | [], vs, bb, h, _, _ => by
    have e1 : vs = [] := List.eq_nil_of_length_eq_zero (by simpa using h.len)
    have e2 : bb = [] := List.eq_nil_of_length_eq_zero h.bl
    subst e1 e2
    exact ⟨[], FA.nil _ _⟩
  | x :: l, vs, [], h, _, _ => by have := h.bl; simp at this
  | x :: l, vs, b :: bb, h, hb, hn => by
    rw [List.flatten_cons] at hb hn ⊢
    have hl := h.len
    rw [List.length_cons, Nat.add_mul, Nat.one_mul] at hl
    have h0 := h.at_ 0 (Nat.zero_lt_succ _) b rfl
    rw [Nat.zero_mul, List.drop_zero] at h0
    obtain ⟨L, hL⟩ := hF x _ _ (h0.mono (fun g hg _ => hb g (List.mem_append.2 (.inl hg))) (fun _ _ => rfl)) (hn.sublist (List.sublist_append_left _ _))
    have h1 : FQ w t l (vs.drop t.size) bb := ⟨by rw [List.length_drop]; omega, by simpa using h.bl, fun j hj c hc => by
      have := h.at_ (j + 1) (Nat.succ_lt_succ hj) c (by simpa using hc)
      rw [List.drop_drop, show t.size + j * t.size = (j + 1) * t.size by rw [Nat.add_mul, Nat.one_mul, Nat.add_comm]]
      exact this⟩
    obtain ⟨M, hM⟩ := FA.of hF h1 (fun g hg => hb g (List.mem_append.2 (.inr hg))) (hn.sublist (List.sublist_append_right _ _))
    have := hL.append hM
    rw [List.take_append_drop] at this
    exact ⟨L ++ M, by rw [List.flatMap_cons]; exact this⟩
theorem flat_blk_mem {L : List (Adr × Fr)} {i : Nat} {p : Adr} {f : Fr} (h : L[i]? = some (p, f)) {a : Addr} (ha : p.A = some a ∨ p.B = some a) : a.block ∈ L.flatMap fun p => blkA p.1.A ++ blkA p.1.B := by
  refine List.mem_flatMap.2 ⟨(p, f), List.mem_of_getElem? h, ?_⟩
  rcases ha with ha | ha
  · exact List.mem_append.2 (.inl (blkA_mem.2 ⟨a, ha, rfl⟩))
  · exact List.mem_append.2 (.inr (blkA_mem.2 ⟨a, ha, rfl⟩))
theorem flat_dis : ∀ {L : List (Adr × Fr)}, (L.flatMap fun p => blkA p.1.A ++ blkA p.1.B).Nodup → ∀ (i j : Nat) (p : Adr) (f : Fr) (q : Adr) (h : Fr), i ≠ j → L[i]? = some (p, f) → L[j]? = some (q, h) → p.Dis q
  | [], _, i, _, _, _, _, _, _, e, _ => by simp at e
  | r :: L, hn, i, j, p, f, q, h, hij, e1, e2 => by
    rw [List.flatMap_cons] at hn
    obtain ⟨n1, n2, n3⟩ := List.nodup_append.1 hn
    have one : ∀ {k : Nat} {q : Adr} {h : Fr}, L[k]? = some (q, h) → r.1.Dis q := fun {k q h} e => by
      have mA : ∀ a, r.1.A = some a → a.block ∈ blkA r.1.A ++ blkA r.1.B := fun a ha => List.mem_append.2 (.inl (blkA_mem.2 ⟨a, ha, rfl⟩))
      have mB : ∀ a, r.1.B = some a → a.block ∈ blkA r.1.A ++ blkA r.1.B := fun a ha => List.mem_append.2 (.inr (blkA_mem.2 ⟨a, ha, rfl⟩))
      exact ⟨fun a b ha hb => n3 _ (mA a ha) _ (flat_blk_mem e (.inl hb)), fun a b ha hb => n3 _ (mA a ha) _ (flat_blk_mem e (.inr hb)), fun a b ha hb => n3 _ (mB a ha) _ (flat_blk_mem e (.inl hb)), fun a b ha hb => n3 _ (mB a ha) _ (flat_blk_mem e (.inr hb))⟩
    cases i with
    | zero =>
      cases j with
      | zero => exact absurd rfl hij
      | succ j => cases e1; exact one (by simpa using e2)
    | succ i =>
      cases j with
      | zero => cases e2; exact (one (by simpa using e1)).symm
      | succ j => exact flat_dis n2 i j p f q h (by omega) (by simpa using e1) (by simpa using e2)
theorem kApartB (L : List (Adr × Fr)) (g c : Nat) (w0 w : World) (hc : CellsAt g L w) (hr : ∀ (i : Nat) (p : Adr) (f : Fr), L[i]? = some (p, f) → OF w w0.heap.size p f ∧ Few f)
    (hd : ∀ (i j : Nat) (p : Adr) (f : Fr) (q : Adr) (h : Fr), i ≠ j → L[i]? = some (p, f) → L[j]? = some (q, h) → p.Dis q) (h0 : Ext w0 w) (hn : 0 < L.length) (hn2 : L.length ≤ 10000) (n : Nat) (hl : L.length = n) :
    Calls Tryz.prog 37 #[.slice (some ⟨g, 0, none⟩) n c] w fun e w' => e = .returned (.bool true) ∧ Ext w0 w' ∧ w.heap.size ≤ w'.heap.size ∧ ∀ b, b < w.heap.size → (b ∉ L.flatMap fun p => blkA p.1.A ++ blkA p.1.B) → w'.heap[b]? = w.heap[b]? := by
  subst hl
  have at_ : ∀ i, i < L.length → ∃ p f, L[i]? = some (p, f) := fun i hi => ⟨_, _, List.getElem?_eq_getElem hi⟩
  have par : ∀ j, j < 2 * L.length → ∃ i p f, L[i]? = some (p, f) ∧ (j = 2 * i ∨ j = 2 * i + 1) := fun j hj => by
    obtain ⟨p, f, h⟩ := at_ (j / 2) (by omega)
    exact ⟨j / 2, p, f, h, by omega⟩
  refine (kapartR_s w0 w g 0 L.length c (rowA L) (rowC L) (rowX L) ⟨fun j hj => ?_, fun j hj => ?_⟩ h0 hn hn2 (fun j hj => ?_) (fun i j hi hj hij a b ha hb => ?_) (fun j hj => ?_)).mono (fun e w' h => ⟨h.1, h.2.x, h.2.z, fun b hb hO => h.2.s b hb (fun j hj a ha => ?_)⟩)
  · obtain ⟨p, f, h⟩ := at_ j hj
    obtain ⟨e1, e2, e3⟩ := row_even h
    rw [e1, e2, e3, Nat.zero_add]
    exact hc _ _ (cellsF_at L j p f h).2.1
  · obtain ⟨p, f, h⟩ := at_ j hj
    obtain ⟨e1, e2, e3⟩ := row_odd h
    rw [e1, e2, e3, Nat.zero_add]
    exact hc _ _ (cellsF_at L j p f h).2.2
  · obtain ⟨i, p, f, h, rfl | rfl⟩ := par j hj
    · obtain ⟨e1, e2, e3⟩ := row_even h
      rw [e1, e2, e3]; exact (hr i p f h).1.num
    · obtain ⟨e1, e2, e3⟩ := row_odd h
      rw [e1, e2, e3]; exact (hr i p f h).1.den
  · obtain ⟨k, p, f, h, ek⟩ := par i hi
    obtain ⟨l, q, t, h', el⟩ := par j hj
    obtain ⟨a1, _, _⟩ := row_even h
    obtain ⟨a2, _, _⟩ := row_odd h
    obtain ⟨b1, _, _⟩ := row_even h'
    obtain ⟨b2, _, _⟩ := row_odd h'
    by_cases e : k = l
    · subst e
      rw [h] at h'
      cases h'
      have ap := (hr k p f h).1.ap
      rcases ek with rfl | rfl <;> rcases el with rfl | rfl
      · exact absurd rfl hij
      · rw [a1] at ha; rw [b2] at hb; exact ap a b ha hb
      · rw [a2] at ha; rw [b1] at hb; exact (ap b a hb ha).symm
      · exact absurd rfl hij
    · have D := hd k l p f q t e h h'
      rcases ek with rfl | rfl <;> rcases el with rfl | rfl
      · rw [a1] at ha; rw [b1] at hb; exact D.aa a b ha hb
      · rw [a1] at ha; rw [b2] at hb; exact D.ab a b ha hb
      · rw [a2] at ha; rw [b1] at hb; exact D.ba a b ha hb
      · rw [a2] at ha; rw [b2] at hb; exact D.bb a b ha hb
  · obtain ⟨i, p, f, h, rfl | rfl⟩ := par j hj
    · obtain ⟨e1, e2, e3⟩ := row_even h
      rw [e3]; exact ⟨(hr i p f h).2.1, (hr i p f h).1.wf.num⟩
    · obtain ⟨e1, e2, e3⟩ := row_odd h
      rw [e3]; exact ⟨(hr i p f h).2.2, (hr i p f h).1.wf.den⟩
  · obtain ⟨i, p, f, h, rfl | rfl⟩ := par j hj
    · obtain ⟨e1, e2, e3⟩ := row_even h
      rw [e1] at ha; exact fun e => hO (e ▸ flat_blk_mem h (.inl ha))
    · obtain ⟨e1, e2, e3⟩ := row_odd h
      rw [e1] at ha; exact fun e => hO (e ▸ flat_blk_mem h (.inr ha))
/-- ApartGausses -/
theorem kApartG (L : List (Adr × Fr)) (n g c : Nat) (w0 w : World) (hL : L.length = 2 * n) (hc : CellsAt g L w) (hr : ∀ (i : Nat) (p : Adr) (f : Fr), L[i]? = some (p, f) → OF w w0.heap.size p f ∧ Few f)
    (hd : ∀ (i j : Nat) (p : Adr) (f : Fr) (q : Adr) (h : Fr), i ≠ j → L[i]? = some (p, f) → L[j]? = some (q, h) → p.Dis q) (h0 : Ext w0 w) (hn : 0 < n) (hn2 : n ≤ 5000) (hg : g < w.heap.size) :
    Calls Tryz.prog 69 #[.slice (some ⟨g, 0, none⟩) n c] w fun e w' => e = .returned (.bool true) ∧ Ext w0 w' ∧ w.heap.size ≤ w'.heap.size ∧ ∀ b, b < w.heap.size → (b ∉ L.flatMap fun p => blkA p.1.A ++ blkA p.1.B) → w'.heap[b]? = w.heap[b]? := by
  have HP := Lib.hid (kParts L n g c w hL hc hg (by omega))
  have HR := Lib.hid hr
  have HD := Lib.hid hd
  have H0 := Lib.hid h0
  clear hc hr hd h0
  go_enter Tryz.func69, Tryz.ntmps69
  go_wp2_with fail
  refine HP.out.mono ?_; rintro e w1 ⟨v, rfl, hrow, hx⟩
  obtain ⟨g1, c1, rfl⟩ : ∃ g1 c1, v = .slice (some ⟨g1, 0, none⟩) (2 * n) c1 := by
    rcases hrow.2 with ⟨_, h2⟩ | ⟨g', cap, cur, h1, _⟩
    · omega
    · exact ⟨g', cap, h1⟩
  have HX := Lib.hid hx
  have HC := Lib.hid (cellsAt_row hrow)
  have HA := Lib.hid (kApartB L g1 c1 w0 w1 HC.out (fun i p f h => ⟨(HR.out i p f h).1.ext HX.out, (HR.out i p f h).2⟩) HD.out (Ext.trans H0.out HX.out) (by omega) (by omega) (2 * n) hL)
  clear hrow hx
  go_wp2_with fail
  refine HA.out.mono ?_; rintro e w2 ⟨rfl, x2, z2, s2⟩
  have HX2 := Lib.hid x2
  have HZ2 := Lib.hid z2
  have HS2 := Lib.hid s2
  clear x2 z2 s2
  go_wp2_with fail
  go_ret
  have hz1 := Ext.size HX.out
  exact ⟨rfl, HX2.out, Nat.le_trans hz1 HZ2.out, fun b hb ho => (HS2.out b (by omega) ho).trans ((Ext.by_ (w := w) (w' := w1) HX.out none).block b hb (by simp))⟩
/-- the list's fractions are few words each -/
def fews (fs : List Fr) : Prop := ∀ f ∈ fs, Few f
def p_apart (t : Ty) (F : El t → List Fr) : Prim := fun xs O _ => match xs with
  | [.c (.ow k)] => match giveR O t k with
    | some (l, ids) => bif nodupN ids then some (some (0 < l.length ∧ l.length ≤ 5000 ∧ fews (l.flatMap F)), .e ⟨.c .tt, deads ids, 0⟩) else none
    | none => none
  | _ => none
def p_apartG : Prim := p_apart tG fun x => [toFr x.1, toFr x.2.1]
theorem cond_none1 {b : Bool} {α : Type 1} {x : Option α} {y : α} (h : (bif b then x else none) = some y) : b = true ∧ x = some y := by
  cases b with
  | true => exact ⟨rfl, h⟩
  | false => cases h
theorem apart_prim {P : Program} {f : Nat} {t : Ty} {F : El t → List Fr} (hnop : t.nop = true) (hsz : 0 < t.size) (hE : ∀ (vs : Array Value) (w : World), (callFunc f vs).run P w = .ok (.enter f vs) w)
    (hF : ∀ (w : World) (base : Nat) (x : El t) (vs : List Value) (bs : List Nat), RQ true noZ w base t x vs bs → bs.Nodup → ∃ L, FA w base (F x) vs bs L)
    (hC : ∀ (L : List (Adr × Fr)) (l : List (El t)) (g c : Nat) (w0 w : World), L.map (·.2) = l.flatMap F → CellsAt g L w → (∀ (i : Nat) (p : Adr) (f : Fr), L[i]? = some (p, f) → OF w w0.heap.size p f ∧ Few f) → (∀ (i j : Nat) (p : Adr) (f : Fr) (q : Adr) (h : Fr), i ≠ j → L[i]? = some (p, f) → L[j]? = some (q, h) → p.Dis q) → Ext w0 w → 0 < l.length → l.length ≤ 5000 → g < w.heap.size →
      Calls P f #[.slice (some ⟨g, 0, none⟩) l.length c] w fun e w' => e = .returned (.bool true) ∧ Ext w0 w' ∧ w.heap.size ≤ w'.heap.size ∧ ∀ b, b < w.heap.size → (b ∉ L.flatMap fun p => blkA p.1.A ++ blkA p.1.B) → w'.heap[b]? = w.heap[b]?) : PrimOk P f (p_apart t F) := by
  refine ⟨hE, fun gp Z0 w0 N D c T O O' a w xs vs n cd G S hO hl hv h hfr hc => ?_⟩
  unfold p_apart at h
  split at h
  · rename_i k
    split at h
    · rename_i l ids hg
      obtain ⟨hnd, h⟩ := cond_none1 h
      cases h
      obtain ⟨h1, h2, h3⟩ : 0 < l.length ∧ l.length ≤ 5000 ∧ fews (l.flatMap F) := hc
      match vs, hl with
      | ⟨[v]⟩, _ =>
        obtain ⟨A, cp, us, bb, rfl, q1, q2, q3, q4⟩ := giveR_sound S hO hg (hv 0 v _ rfl rfl)
        obtain ⟨g, rfl, q5⟩ := q4 h1
        have own : ∀ i ∈ ids, ∃ o, O i = some o ∧ o.live = true ∧ ∀ cs, o ≠ .var cs := fun i hi => by
          obtain ⟨o, o1, o2, _⟩ := q3 i hi
          exact ⟨o, o1, o2, fun cs e => by subst e; exact giveR_not_var hO hnop hg hi o1⟩
        have nd : bb.flatten.Nodup := (blks_nodup S (nodupN_sound hnd) (fun i hi => let ⟨o, o1, o2, _⟩ := own i hi; ⟨o, o1, o2⟩)).sublist q2
        have base : ∀ b ∈ bb.flatten, w0.heap.size ≤ b := fun b hb => by
          obtain ⟨i, e, hi, he, hh⟩ := blks_mem (q2.subset hb)
          obtain ⟨o, o1, o2, o3⟩ := own i hi
          exact S.gp_not o1 o2 o3 he hh
        obtain ⟨x1, x2⟩ := cut_ext S.gr.size
        obtain ⟨L, hL⟩ := FA.of (base := w0.heap.size) (fun x vs bs => hF w w0.heap.size x vs bs) q1 base nd
        have hcell : CellsAt g L w := fun j u hu => by
          rw [hL.cells] at hu
          have := q5 j u hu
          rwa [Nat.zero_add] at this
        have hgl : g < w.heap.size := by
          have hpos : 0 < us.length := by
            rw [q1.len]
            exact Nat.mul_pos h1 hsz
          exact World.block_lt_of_cell? w _ (q5 0 _ (List.getElem?_eq_getElem hpos))
        refine (hC L l g cp (cut w w0.heap.size) w hL.fr hcell (fun i p f e => ⟨by rw [x2]; exact hL.own i p f e, h3 f (by rw [← hL.fr]; exact List.mem_map.2 ⟨(p, f), List.mem_of_getElem? e, rfl⟩)⟩) (flat_dis (by rw [hL.blk]; exact nd)) x1 h1 h2 hgl).mono ?_
        rintro e w' ⟨rfl, y1, y2, y3⟩
        obtain ⟨S1, st⟩ := S.over own (w' := w') y1.os y1.tape y1.output y2 (fun b hb ho => y3 b hb (by rw [hL.blk]; exact fun hm => ho (q2.subset hm)))
        refine ⟨.bool true, c, rfl, fun d hd => ?_⟩
        exact (S1.value hd (v := .bool true) (av := .c .tt) rfl).dom_mono (fun i h => .inl h)
    · cases h
  · cases h
theorem len_flat {α β : Type} {k : Nat} {f : α → List β} (hf : ∀ x, (f x).length = k) : ∀ l : List α, (l.flatMap f).length = k * l.length
  | [] => rfl
  | x :: l => by rw [List.flatMap_cons, List.length_append, hf, len_flat hf l, List.length_cons, Nat.mul_add, Nat.mul_one, Nat.add_comm]
theorem pr_apartG : PrimOk Tryz.prog 69 p_apartG :=
  apart_prim rfl (by decide) (callFunc_enter Tryz.func69 (by kernel_rfl) rfl) (fun w base x vs bs h hn => FA.two h hn)
    (fun L l g c w0 w hL hc hr hd h0 hn hn2 hg => kApartG L l.length g c w0 w (by rw [← List.length_map (f := (·.2)), hL, len_flat (k := 2) (fun _ => rfl)]) hc hr hd h0 hn hn2 hg)
end Go.Proofs.YtifonmdcicegdaaGreat

namespace Go.Proofs.YtifonmdcicegdaaGreat
open Go Go.RowKit

def Spec.rd (S : Spec) : Spec := { S with fresh := false }
theorem RQ.read {Z Z' : Nat → Prop} {w : World} {base base' : Nat} : ∀ {t : Ty} {x : El t} {vs : List Value} {bs : List Nat}, t.nop = true → (∀ g ∈ bs, Z' g) → RQ true Z w base t x vs bs → RQ false Z' w base' t x vs []
  | .bo, _, _, _, hn, hz, h => ⟨h.rt hn hz, rfl⟩
  | .it _, _, _, _, hn, hz, h => ⟨h.rt hn hz, rfl⟩
  | .st, _, _, _, hn, hz, h => ⟨h.rt hn hz, rfl⟩
  | .oq, _, _, _, hn, hz, h => ⟨h.rt hn hz, rfl⟩
  | .un, _, _, _, _, _, h => ⟨h.1, rfl⟩
  | .fn, _, _, _, hn, _, _ => by cases hn
  | .pt _, _, _, _, hn, _, _ => by cases hn
  | .sl t, l, vs, bs, hn, hz, h => by
    have r := h.rt hn hz
    unfold RQ
    rw [if_neg (by simp)]
    exact ⟨r, rfl⟩
  | .lt t, l, vs, bs, hn, hz, h => by
    have r := h.rt hn hz
    unfold RQ
    rw [if_neg (by simp)]
    exact ⟨r, rfl⟩
  | .lf t, l, vs, bs, hn, hz, h => by
    have r := h.rt hn hz
    unfold RQ
    rw [if_neg (by simp)]
    exact ⟨r, rfl⟩
  | .pr a b, x, vs, bs, hn, hz, h => by
    simp only [Ty.nop, Bool.and_eq_true] at hn
    obtain ⟨us, us', cs, cs', e, rfl, h1, h2⟩ := h
    exact ⟨us, us', [], [], e, rfl, RQ.read hn.1 (fun g hg => hz g (by simp [hg])) h1, RQ.read hn.2 (fun g hg => hz g (by simp [hg])) h2⟩
theorem RQs.read {Z Z' : Nat → Prop} {w : World} {base base' : Nat} : ∀ {ts : List Ty} {x : Els ts} {vs : List Value} {bs : List Nat}, ts.all Ty.nop = true → (∀ g ∈ bs, Z' g) → RQs true Z w base ts x vs bs → RQs false Z' w base' ts x vs []
  | [], _, [], _, _, _, _ => rfl
  | [], _, _ :: _, _, _, _, h => h.elim
  | _ :: _, _, [], _, _, _, h => h.elim
  | t :: ts, x, v :: vs, bs, hn, hz, h => by
    rw [List.all_cons, Bool.and_eq_true] at hn
    obtain ⟨b, b', rfl, h1, h2⟩ := h
    refine ⟨[], [], rfl, ?_, RQs.read hn.2 (fun g hg => hz g (by simp [hg])) h2⟩
    unfold RQv at h1 ⊢
    split
    · rename_i ha; rw [if_pos ha] at h1; obtain ⟨us, e, h1⟩ := h1; exact ⟨us, e, RQ.read hn.1 (fun g hg => hz g (by simp [hg])) h1⟩
    · rename_i ha; rw [if_neg ha] at h1; exact RQ.read hn.1 (fun g hg => hz g (by simp [hg])) h1
theorem RQs.lt_ {Z : Nat → Prop} {w : World} {base : Nat} : ∀ {ts : List Ty} {x : Els ts} {vs : List Value} {bs : List Nat}, RQs true Z w base ts x vs bs → ∀ g ∈ bs, base ≤ g ∧ g < w.heap.size
  | [], _, [], _, h, g, hg => by cases h; cases hg
  | [], _, _ :: _, _, h, _, _ => h.elim
  | _ :: _, _, [], _, h, _, _ => h.elim
  | t :: ts, x, v :: vs, bs, h, g, hg => by
    obtain ⟨b, b', rfl, h1, h2⟩ := h
    rcases List.mem_append.1 hg with hg | hg
    · unfold RQv at h1
      split at h1
      · obtain ⟨us, _, h1⟩ := h1; exact h1.lt_ g hg
      · exact h1.lt_ g hg
    · exact RQs.lt_ h2 g hg
theorem FnOk.read {P : Program} {f : Nat} {S : Spec} (h : FnOk P f S) (hf : S.fresh = true := by rfl) (hk : S.rs.all Ty.nop = true := by rfl) : FnOk P f S.rd := by
  obtain ⟨q, ps, rs, fresh, pre, post⟩ := S
  cases hf
  refine ⟨h.1, fun Z w gv vs y x h1 h2 h3 h4 h5 => (h.2 Z w gv vs y x h1 h2 h3 h4 h5).mono ?_⟩
  rintro e w' ⟨v, us, bs, Z', rfl, t1, t2, t3, t4, t5, t6, t7, t8, t9⟩
  refine ⟨v, us, [], fun g => Z' g ∨ g ∈ bs, rfl, t1, RQs.read hk (fun g hg => .inr hg) t2, List.nodup_nil, (fun g hg => by cases hg), fun g hg => .inl (t5 g hg), fun g hg => ?_, fun g hg => ?_, t8, fun hp => ?_⟩
  · rcases hg with hg | hg
    · exact t6 g hg
    · exact .inr (RQs.lt_ t2 g hg).1
  · rcases hg with hg | hg
    · exact t7 g hg
    · exact (RQs.lt_ t2 g hg).2
  · obtain ⟨cells, et, u1, u2⟩ := t9 hp
    exact ⟨cells, et, u1, u2.zone (fun g hg => .inl hg)⟩
end Go.Proofs.YtifonmdcicegdaaGreat

namespace Go.Proofs.YtifonmdcicegdaaGreat
open Go Go.RowKit

theorem gtell_few {e : Int} {r i : Fr} (h : Few r) (k : Few i) : FewG (gtell e r i).1 := by
  unfold gtell
  split
  · exact ⟨few_zero, few_zero⟩
  · exact ⟨h, k⟩
theorem wadd_few (e : Int) (a b : Fr) : Few (wadd e a b).1 := (stp_good (fadd_good a b)).few
theorem wsub_few (e : Int) (a b : Fr) : Few (wsub e a b).1 := (stp_good (fsub_good a b)).few
theorem wquo_few (e : Int) (a b : Fr) : Few (wquo e a b).1 := (stp_good (fquo_good a b)).few
theorem gmul_few (a b : Ga) : FewG (gmul a b).1 := gtell_few (wsub_few _ _ _) (wadd_few _ _ _)
theorem gquo_few (a b : Ga) : FewG (gquo a b).1 := gtell_few (wquo_few _ _ _) (wquo_few _ _ _)
/-- a list's complex fractions -/
def fewGs (l : List Ga) : Prop := ∀ a ∈ l, FewG a
theorem fewGs.nil : fewGs [] := fun a h => by cases h
theorem fewGs.cons {a : Ga} {l : List Ga} (h : FewG a) (k : fewGs l) : fewGs (a :: l) := fun b hb => by
  rcases List.mem_cons.1 hb with rfl | hb
  · exact h
  · exact k b hb
theorem fews_G {l : List (El tG)} (h : fewGs (l.map toGa)) : fews (l.flatMap fun x => [toFr x.1, toFr x.2.1]) := fun f hf => by
  obtain ⟨x, hx, hf⟩ := List.mem_flatMap.1 hf
  have := h (toGa x) (List.mem_map.2 ⟨x, hx, rfl⟩)
  simp only [List.mem_cons, List.not_mem_nil, or_false] at hf
  rcases hf with rfl | rfl
  · exact this.1
  · exact this.2
end Go.Proofs.YtifonmdcicegdaaGreat

namespace Go.Proofs.YtifonmdcicegdaaGreat
open Go Go.RowKit

/-- rows' heads alone -/
def opq : Ty → Ty
  | .sl _ => .oq
  | .lt _ => .oq
  | .lf _ => .oq
  | .pr a b => .pr (opq a) (opq b)
  | t => t
def opqV : (t : Ty) → El t → List Value → El (opq t)
  | .sl _, _, vs => vs.headD undef
  | .lt _, _, vs => vs.headD undef
  | .lf _, _, vs => vs.headD undef
  | .pr a b, x, vs => (opqV a x.1 (vs.take a.size), opqV b x.2 (vs.drop a.size))
  | .bo, x, _ => x
  | .it _, x, _ => x
  | .st, x, _ => x
  | .pt _, x, _ => x
  | .fn, x, _ => x
  | .un, x, _ => x
  | .oq, x, _ => x
theorem oq_head {v : Value} (h : ∃ A n c, v = .slice A n c) (Z : Nat → Prop) (w : World) : RT Z w .oq ([v].headD undef) [v] := by
  rw [RT]
  exact ⟨rfl, h⟩
theorem RQ.opq {Z Z' : Nat → Prop} {w : World} {base : Nat} : ∀ {t : Ty} {x : El t} {vs : List Value} {bs : List Nat}, t.nop = true → RQ true Z w base t x vs bs → RT Z' w (opq t) (opqV t x vs) vs
  | .bo, _, _, _, _, h => h.1.flat_ rfl
  | .it _, _, _, _, _, h => h.1.flat_ rfl
  | .st, _, _, _, _, h => h.1.flat_ rfl
  | .oq, _, _, _, _, h => h.1.flat_ rfl
  | .un, x, vs, _, _, h => by
    have h1 := h.1
    subst h1
    show RT Z' w .un () []
    rw [RT]
  | .fn, _, _, _, hn, _ => by cases hn
  | .pt _, _, _, _, hn, _ => by cases hn
  | .pr a b, x, vs, _, hn, h => by
    simp only [Ty.nop, Bool.and_eq_true] at hn
    obtain ⟨us, us', cs, cs', rfl, rfl, h1, h2⟩ := h
    have hl : us.length = a.size := (h1.rt (Z' := fun _ => True) hn.1 (fun _ _ => trivial)).len
    show RT Z' w (.pr (Go.Proofs.YtifonmdcicegdaaGreat.opq a) (Go.Proofs.YtifonmdcicegdaaGreat.opq b)) (opqV a x.1 ((us ++ us').take a.size), opqV b x.2 ((us ++ us').drop a.size)) _
    rw [List.take_left' hl, List.drop_left' hl, RT]
    exact ⟨us, us', rfl, h1.opq hn.1, h2.opq hn.2⟩
  | .sl t, l, vs, bs, hn, h => by
    unfold RQ at h
    simp only [if_true] at h
    rcases h with ⟨rfl, rfl, _⟩ | ⟨g, cp, cells, bb, rfl, _⟩
    · exact oq_head ⟨_, _, _, rfl⟩ _ _
    · exact oq_head ⟨_, _, _, rfl⟩ _ _
  | .lt t, l, vs, bs, hn, h => by
    unfold RQ at h
    simp only [if_true] at h
    obtain ⟨g, cp, cells, bb, rfl, _⟩ := h
    exact oq_head ⟨_, _, _, rfl⟩ _ _
  | .lf t, l, vs, bs, hn, h => by
    unfold RQ at h
    simp only [if_true] at h
    obtain ⟨g, cp, cells, bb, rfl, _⟩ := h
    exact oq_head ⟨_, _, _, rfl⟩ _ _
/-- a flat value's cells -/
theorem RT.vcs {Z : Nat → Prop} {w : World} : ∀ {t : Ty} {x : El t} {vs : List Value}, t.flat = true → RT Z w t x vs → vs = vcs t x
  | .bo, _, _, _, h => by rw [RT] at h; exact h
  | .it _, _, _, _, h => by rw [RT] at h; exact h.1
  | .st, _, _, _, h => by rw [RT] at h; exact h.1
  | .oq, _, _, _, h => by rw [RT] at h; exact h.1
  | .un, _, _, _, h => by rw [RT] at h; exact h
  | .pr _ _, _, _, hf, h => by
    simp only [Ty.flat, Bool.and_eq_true] at hf
    rw [RT] at h
    obtain ⟨us, us', rfl, h1, h2⟩ := h
    rw [h1.vcs hf.1, h2.vcs hf.2]
    rfl
  | .sl _, _, _, hf, _ => by cases hf
  | .lt _, _, _, hf, _ => by cases hf
  | .lf _, _, _, hf, _ => by cases hf
  | .pt _, _, _, hf, _ => by cases hf
  | .fn, _, _, hf, _ => by cases hf
/-- elements by their rows' heads -/
def opqL (t : Ty) : List (El t) → List Value → List (El (opq t))
  | [], _ => []
  | x :: l, vs => opqV t x (vs.take t.size) :: opqL t l (vs.drop t.size)
theorem FQ.cons {w : World} {t : Ty} {x : El t} {l : List (El t)} {vs : List Value} {bb : List (List Nat)} (h : FQ w t (x :: l) vs bb) : ∃ b bb', bb = b :: bb' ∧ RQ true noZ w 0 t x (vs.take t.size) b ∧ FQ w t l (vs.drop t.size) bb' := by
  match bb, h with
  | [], h => have := h.bl; simp at this
  | b :: bb', h =>
    have hl := h.len
    rw [List.length_cons, Nat.add_mul, Nat.one_mul] at hl
    have h0 := h.at_ 0 (Nat.zero_lt_succ _) b rfl
    rw [Nat.zero_mul, List.drop_zero] at h0
    exact ⟨b, bb', rfl, h0, by rw [List.length_drop]; omega, by simpa using h.bl, fun j hj c hc => by
      have := h.at_ (j + 1) (Nat.succ_lt_succ hj) c (by simpa using hc)
      rw [List.drop_drop, show t.size + j * t.size = (j + 1) * t.size by rw [Nat.add_mul, Nat.one_mul, Nat.add_comm]]
      exact this⟩
/-- WHAT IS MADE OF AN ELEMENT HOLDS ITS ROWS -/
def Mov (t u : Ty) (G : El t → List (El u)) (Gq : El (opq t) → List (El (opq u))) : Prop := ∀ (w : World) (x : El t) (vs : List Value) (b : List Nat), RQ true noZ w 0 t x vs b → ∃ bb, FQ w u (G x) ((Gq (opqV t x vs)).flatMap (vcs (opq u))) bb ∧ bb.flatten = b
theorem Mov.row {t u : Ty} {G : El t → List (El u)} {Gq : El (opq t) → List (El (opq u))} (hM : Mov t u G Gq) {w : World} : ∀ {l : List (El t)} {vs : List Value} {bb : List (List Nat)}, FQ w t l vs bb → ∃ cc, FQ w u (l.flatMap G) (((opqL t l vs).flatMap Gq).flatMap (vcs (opq u))) cc ∧ cc.flatten = bb.flatten
  | [], vs, bb, h => by
    have : bb = [] := List.eq_nil_of_length_eq_zero h.bl
    subst this
    exact ⟨[], FQ.nil _ _, rfl⟩
  | x :: l, vs, bb, h => by
    obtain ⟨b, bb', rfl, h1, h2⟩ := h.cons
    obtain ⟨cc, k1, k2⟩ := hM w x _ b h1
    obtain ⟨cd, m1, m2⟩ := hM.row h2
    refine ⟨cc ++ cd, ?_, by rw [List.flatten_append, k2, m2, List.flatten_cons]⟩
    rw [List.flatMap_cons, opqL, List.flatMap_cons, List.flatMap_append]
    exact k1.append m1
end Go.Proofs.YtifonmdcicegdaaGreat

