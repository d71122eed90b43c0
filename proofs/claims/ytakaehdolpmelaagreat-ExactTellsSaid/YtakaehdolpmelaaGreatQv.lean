/- Texts of this claim, joined: B14. -/
import Derived.Test.YtakaehdolpmelaaGreatQu
set_option linter.unusedVariables false
set_option linter.unusedSimpArgs false
set_option maxRecDepth 100000
namespace Go.Proofs.YtakaehdolpmelaaGreat
open Go Go.RowKit
def opq : Ty → Ty
  | .sl _ => .oq
  | .lt _ => .oq
  | .lf _ => .oq
  | .pr a b => .pr (opq a) (opq b)
  | t => t
def opqV : (t : Ty) → El t → List Value → El (opq t)
  | .sl _, _, vs => vs.headD undef
  | .lt _, _, vs => vs.headD undef
  | .lf _, _, vs => vs.headD undef
  | .pr a b, x, vs => (opqV a x.1 (vs.take a.size), opqV b x.2 (vs.drop a.size))
  | .bo, x, _ => x
  | .it _, x, _ => x
  | .st, x, _ => x
  | .pt _, x, _ => x
  | .fn, x, _ => x
  | .un, x, _ => x
  | .oq, x, _ => x
theorem opq_size : ∀ t : Ty, (opq t).size = t.size
  | .pr a b => by show (opq a).size + (opq b).size = _; rw [opq_size a, opq_size b]; rfl
  | .sl _ => rfl
  | .lt _ => rfl
  | .lf _ => rfl
  | .bo => rfl
  | .it _ => rfl
  | .st => rfl
  | .pt _ => rfl
  | .fn => rfl
  | .un => rfl
  | .oq => rfl
theorem oq_head {v : Value} (h : ∃ A n c, v = .slice A n c) (Z : Nat → Prop) (w : World) : RT Z w .oq ([v].headD undef) [v] := by
  rw [RT]
  exact ⟨rfl, h⟩
theorem RQ.opq {Z Z' : Nat → Prop} {w : World} {base : Nat} : ∀ {t : Ty} {x : El t} {vs : List Value} {bs : List Nat}, t.nop = true → RQ true Z w base t x vs bs → RT Z' w (opq t) (opqV t x vs) vs
  | .bo, _, _, _, _, h => h.1.flat_ rfl
  | .it _, _, _, _, _, h => h.1.flat_ rfl
  | .st, _, _, _, _, h => h.1.flat_ rfl
  | .oq, _, _, _, _, h => h.1.flat_ rfl
  | .un, x, vs, _, _, h => by
    have h1 := h.1
    subst h1
    show RT Z' w .un () []
    rw [RT]
  | .fn, _, _, _, hn, _ => by cases hn
  | .pt _, _, _, _, hn, _ => by cases hn
  | .pr a b, x, vs, _, hn, h => by
    simp only [Ty.nop, Bool.and_eq_true] at hn
    obtain ⟨us, us', cs, cs', rfl, rfl, h1, h2⟩ := h
    have hl : us.length = a.size := (h1.rt (Z' := fun _ => True) hn.1 (fun _ _ => trivial)).len
    show RT Z' w (.pr (Go.Proofs.YtakaehdolpmelaaGreat.opq a) (Go.Proofs.YtakaehdolpmelaaGreat.opq b)) (opqV a x.1 ((us ++ us').take a.size), opqV b x.2 ((us ++ us').drop a.size)) _
    rw [List.take_left' hl, List.drop_left' hl, RT]
    exact ⟨us, us', rfl, h1.opq hn.1, h2.opq hn.2⟩
  | .sl t, l, vs, bs, hn, h => by
    unfold RQ at h
    simp only [if_true] at h
    rcases h with ⟨rfl, rfl, _⟩ | ⟨g, cp, cells, bb, rfl, _⟩
    · exact oq_head ⟨_, _, _, rfl⟩ _ _
    · exact oq_head ⟨_, _, _, rfl⟩ _ _
  | .lt t, l, vs, bs, hn, h => by
    unfold RQ at h
    simp only [if_true] at h
    obtain ⟨g, cp, cells, bb, rfl, _⟩ := h
    exact oq_head ⟨_, _, _, rfl⟩ _ _
  | .lf t, l, vs, bs, hn, h => by
    unfold RQ at h
    simp only [if_true] at h
    obtain ⟨g, cp, cells, bb, rfl, _⟩ := h
    exact oq_head ⟨_, _, _, rfl⟩ _ _
theorem RT.vcs {Z : Nat → Prop} {w : World} : ∀ {t : Ty} {x : El t} {vs : List Value}, t.flat = true → RT Z w t x vs → vs = vcs t x
  | .bo, _, _, _, h => by rw [RT] at h; exact h
  | .it _, _, _, _, h => by rw [RT] at h; exact h.1
  | .st, _, _, _, h => by rw [RT] at h; exact h.1
  | .oq, _, _, _, h => by rw [RT] at h; exact h.1
  | .un, _, _, _, h => by rw [RT] at h; exact h
  | .pr _ _, _, _, hf, h => by
    simp only [Ty.flat, Bool.and_eq_true] at hf
    rw [RT] at h
    obtain ⟨us, us', rfl, h1, h2⟩ := h
    rw [h1.vcs hf.1, h2.vcs hf.2]
    rfl
  | .sl _, _, _, hf, _ => by cases hf
  | .lt _, _, _, hf, _ => by cases hf
  | .lf _, _, _, hf, _ => by cases hf
  | .pt _, _, _, hf, _ => by cases hf
  | .fn, _, _, hf, _ => by cases hf
theorem RQ.szd {Z : Nat → Prop} {w : World} {base : Nat} {t : Ty} {x : El t} {vs : List Value} {bs : List Nat} (hn : t.nop = true) (h : RQ true Z w base t x vs bs) : vs.length = t.size := (h.rt (Z' := fun _ => True) hn (fun _ _ => trivial)).len
def opqL (t : Ty) : List (El t) → List Value → List (El (opq t))
  | [], _ => []
  | x :: l, vs => opqV t x (vs.take t.size) :: opqL t l (vs.drop t.size)
theorem opqL_len (t : Ty) : ∀ (l : List (El t)) (vs : List Value), (opqL t l vs).length = l.length
  | [], _ => rfl
  | x :: l, vs => by rw [opqL, List.length_cons, opqL_len t l, List.length_cons]
theorem opqL_at (t : Ty) : ∀ (l : List (El t)) (vs : List Value) (j : Nat) (h : j < (opqL t l vs).length) (h' : j < l.length), (opqL t l vs)[j] = opqV t (l[j]) ((vs.drop (j * t.size)).take t.size)
  | [], _, j, h, _ => absurd h (Nat.not_lt_zero _)
  | x :: l, vs, 0, h, h' => by simp [opqL]
  | x :: l, vs, j + 1, h, h' => by
    show (opqL t l (vs.drop t.size))[j]'_ = _
    rw [opqL_at t l (vs.drop t.size) j (by simpa [opqL] using h) (by simpa using h'), List.drop_drop, show t.size + j * t.size = (j + 1) * t.size by rw [Nat.add_mul, Nat.one_mul, Nat.add_comm]]
    rfl
theorem FQ.cons {w : World} {t : Ty} {x : El t} {l : List (El t)} {vs : List Value} {bb : List (List Nat)} (h : FQ w t (x :: l) vs bb) : ∃ b bb', bb = b :: bb' ∧ RQ true noZ w 0 t x (vs.take t.size) b ∧ FQ w t l (vs.drop t.size) bb' := by
  match bb, h with
  | [], h => have := h.bl; simp at this
  | b :: bb', h =>
    have hl := h.len
    rw [List.length_cons, Nat.add_mul, Nat.one_mul] at hl
    have h0 := h.at_ 0 (Nat.zero_lt_succ _) b rfl
    rw [Nat.zero_mul, List.drop_zero] at h0
    exact ⟨b, bb', rfl, h0, by rw [List.length_drop]; omega, by simpa using h.bl, fun j hj c hc => by
      have := h.at_ (j + 1) (Nat.succ_lt_succ hj) c (by simpa using hc)
      rw [List.drop_drop, show t.size + j * t.size = (j + 1) * t.size by rw [Nat.add_mul, Nat.one_mul, Nat.add_comm]]
      exact this⟩
def Mov (t u : Ty) (G : El t → List (El u)) (Gq : El (opq t) → List (El (opq u))) : Prop := ∀ (w : World) (x : El t) (vs : List Value) (b : List Nat), RQ true noZ w 0 t x vs b → ∃ bb, FQ w u (G x) ((Gq (opqV t x vs)).flatMap (vcs (opq u))) bb ∧ bb.flatten = b
theorem Mov.row {t u : Ty} {G : El t → List (El u)} {Gq : El (opq t) → List (El (opq u))} (hM : Mov t u G Gq) {w : World} : ∀ {l : List (El t)} {vs : List Value} {bb : List (List Nat)}, FQ w t l vs bb → ∃ cc, FQ w u (l.flatMap G) (((opqL t l vs).flatMap Gq).flatMap (vcs (opq u))) cc ∧ cc.flatten = bb.flatten
  | [], vs, bb, h => by
    have : bb = [] := List.eq_nil_of_length_eq_zero h.bl
    subst this
    exact ⟨[], FQ.nil _ _, rfl⟩
  | x :: l, vs, bb, h => by
    obtain ⟨b, bb', rfl, h1, h2⟩ := h.cons
    obtain ⟨cc, k1, k2⟩ := hM w x _ b h1
    obtain ⟨cd, m1, m2⟩ := hM.row h2
    refine ⟨cc ++ cd, ?_, by rw [List.flatten_append, k2, m2, List.flatten_cons]⟩
    rw [List.flatMap_cons, opqL, List.flatMap_cons, List.flatMap_append]
    exact k1.append m1
def p_mov (t u : Ty) (G : El t → List (El u)) : Prim := fun xs O n => match xs with
  | [.c (.ow k)] => match giveR O t k with
    | some (l, ids) => bif nodupN ids then some (some (l.length ≤ 5000), .e ⟨.c (.ow n), (n, .dp (eidS u) u (l.flatMap G) 0) :: deads ids, 1⟩) else none
    | none => none
  | _ => none
def movS (t u : Ty) (Gq : El t → List (El u)) : Spec := { q := .un, ps := [.sl t], rs := [.sl u], fresh := true, pre := fun _ x => some (x.1.length ≤ 5000), post := fun _ x => ((), (x.1.flatMap Gq, ())) }
theorem vcs_rows {t : Ty} {Z : Nat → Prop} {w : World} (hf : t.flat = true) (hn : t.nop = true) {cs : List Value} : ∀ {l : List (El t)} {k : Nat}, (∀ (j : Nat) (h : j < l.length), RT Z w t (l[j]) ((cs.drop ((k + j) * t.size)).take t.size)) → l.flatMap (vcs t) = (cs.drop (k * t.size)).take (l.length * t.size)
  | [], k, _ => by simp
  | x :: l, k, h => by
    have h0 := h 0 (Nat.zero_lt_succ _)
    rw [Nat.add_zero] at h0
    have ih := vcs_rows (cs := cs) hf hn (l := l) (k := k + 1) (fun j hj => by
      have := h (j + 1) (Nat.succ_lt_succ hj)
      rw [show k + 1 + j = k + (j + 1) by omega]
      exact this)
    have e0 := h0.vcs hf
    rw [List.flatMap_cons, ih, List.length_cons, Nat.add_mul, Nat.one_mul]
    have e1 : vcs t ((x :: l)[0]) = vcs t x := rfl
    rw [← e1, ← e0, Nat.add_mul, Nat.one_mul, Nat.add_comm (l.length * t.size), List.take_add, List.drop_drop]
theorem giveR_len {gp : Option Nat} {Z0 : Nat → Prop} {w0 w : World} {N : Nat} {D : Nat → Prop} {c : Cf} {T : Nat → Option AV} {O O' : Store} {a : Act} (S : Sim gp Z0 w0 N D c T O a.tmps w) (hO : ∀ i o, O' i = some o → O i = some o) {t : Ty} {k : Nat} {xs : List (El t)} {ids : List Nat} (h : giveR O' t k = some (xs, ids)) {en : Ent} (q1 : c.m k = some en) : en.ln ≤ en.cp ∧ en.cp ≤ maxI ∧ (en.bl = none → en.cp = 0) := by
  unfold giveR at h
  split at h
  · rename_i e u es hk
    obtain ⟨en', g, vs, k1, k0, k2, k3, k4, k5, k6, k7, k8⟩ := S.obj k _ (hO _ _ hk)
    rw [q1] at k1; cases k1
    exact ⟨by omega, by omega, fun h => by rw [k5] at h; cases h⟩
  · rename_i e u l m hk
    obtain ⟨en', r1, r2, r3, r4, r5⟩ := S.obj k _ (hO _ _ hk)
    rw [q1] at r1; cases r1
    rcases r5 with ⟨b1, b2, b3, _⟩ | ⟨g, cp, cells, bb, e1, _, _, _, _, h6, h7, _⟩
    · exact ⟨by omega, by rw [b3]; exact Nat.zero_le _, fun _ => b3⟩
    · rw [List.singleton_inj] at e1
      unfold entV at e1
      have hv := vis_le m u
      injection e1 with y1 y2 y3
      refine ⟨by omega, by omega, fun h => by rw [h] at y1; cases y1⟩
  · cases h
theorem mov_prim {P : Program} {f : Nat} {t u : Ty} {G : El t → List (El u)} {Gq : El (opq t) → List (El (opq u))} (hF : FnOk P f (movS (opq t) (opq u) Gq)) (hM : Mov t u G Gq) (ht : t.nop = true) (hu : u.nop = true) (hf : (opq u).flat = true) (htf : (opq t).flat = true) (hun : (opq u).nop = true) (he : eidS (opq u) = eidS u) (hs : 0 < u.size) (hst : 0 < t.size) : PrimOk P f (p_mov t u G) := by
  refine ⟨hF.1, fun gp Z0 w0 N D c T O O' a w xs vs n cd Gf S hO hl hv h hfr hc => ?_⟩
  unfold p_mov at h
  split at h
  · rename_i k
    split at h
    · rename_i l ids hg
      cases hnd : nodupN ids with
      | false => rw [hnd] at h; cases h
      | true =>
        rw [hnd] at h
        cases h
        have hc : l.length ≤ 5000 := hc
        match vs, hl with
        | ⟨[v]⟩, _ =>
          obtain ⟨A, cp, us, bb, rfl, q1, q2, q3, q4⟩ := giveR_sound S hO hg (hv 0 v _ rfl rfl)
          have own : ∀ i ∈ ids, ∃ o, O i = some o ∧ o.live = true ∧ ∀ cs, o ≠ .var cs := fun i hi => by
            obtain ⟨o, o1, o2, _⟩ := q3 i hi
            exact ⟨o, o1, o2, fun cs e => by subst e; exact giveR_not_var hO ht hg hi o1⟩
          have nd : bb.flatten.Nodup := (blks_nodup S (nodupN_sound hnd) (fun i hi => let ⟨o, o1, o2, _⟩ := own i hi; ⟨o, o1, o2⟩)).sublist q2
          have hown : ∀ b ∈ bb.flatten, ∃ i q f, O i = some q ∧ q.live = true ∧ c.m i = some f ∧ f.has b ∧ look (deads ids) i = some .dead := fun b hb => by
            obtain ⟨i, e, hi, he, hh⟩ := blks_mem (q2.subset hb)
            obtain ⟨o, o1, o2, _⟩ := own i hi
            exact ⟨i, o, e, o1, o2, he, hh, look_deads hi⟩
          have hcn : c.m n = none := by
            cases h : c.m n with
            | none => rfl
            | some f => exact absurd (S.dom n f h) (hfr n (Nat.le_refl _) (Nat.lt_succ_self _))
          have hcpl : l.length ≤ cp ∧ cp ≤ maxI ∧ (A = none → cp = 0) := by
            obtain ⟨en, z1, z2⟩ := hv 0 _ _ rfl rfl
            have z3 := giveR_len S hO hg z1
            have z4 : A = en.bl.map (fun g => (⟨g, 0, none⟩ : Addr)) ∧ l.length = en.ln ∧ cp = en.cp := by
              injection z2 with y1 y2 y3
              exact ⟨y1, y2, y3⟩
            obtain ⟨y1, y2, y3⟩ := z4
            rw [y2, y3]
            refine ⟨z3.1, z3.2.1, fun h => z3.2.2 ?_⟩
            rw [y1] at h
            cases hb : en.bl with
            | none => rfl
            | some b => rw [hb] at h; cases h
          obtain ⟨Z, hZ⟩ : ∃ Z : Nat → Prop, Z = fun g => g < w.heap.size := ⟨_, rfl⟩
          have arg : RVs Z w [.sl (opq t)] (opqL t l us, ()) [.slice A l.length cp] := by
            refine ⟨?_, trivial⟩
            show RT Z w (.sl (opq t)) (opqL t l us) _
            rw [RT]
            refine ⟨A, cp, by rw [opqL_len], by rw [opqL_len]; exact hcpl.1, hcpl.2.1, hcpl.2.2, fun j hj => ?_⟩
            have hj' : j < l.length := by rw [opqL_len] at hj; exact hj
            obtain ⟨g, rfl, q5⟩ := q4 (by omega)
            have hbj : j < bb.length := by rw [q1.bl]; exact hj'
            have hR := q1.at_ j hj' _ (List.getElem?_eq_getElem hbj)
            refine ⟨g, 0, (us.drop (j * t.size)).take t.size, rfl, ?_, ?_, fun i y hy => ?_⟩
            · rw [hZ]
              have hpos : 0 < us.length := by rw [q1.len]; exact Nat.mul_pos (by omega) hst
              exact World.block_lt_of_cell? w _ (q5 0 _ (List.getElem?_eq_getElem hpos))
            · rw [opqL_at t l us j hj hj']
              exact hR.opq ht
            · rw [List.getElem?_take] at hy
              split at hy
              · rw [List.getElem?_drop] at hy
                rw [opq_size, show 0 + (j * t.size + i) = 0 + (j * t.size + i) from rfl]
                exact q5 _ _ hy
              · cases hy
          have CALL := hF.2 Z w 0 [.slice A l.length cp] () (opqL t l us, ()) (fun g hg => by rw [hZ] at hg; exact hg) arg (by show (opqL t l us).length ≤ 5000; rw [opqL_len]; exact hc) (fun h => by cases h) (fun _ => rfl)
          refine CALL.mono ?_
          rintro e w' ⟨rv, uu, bs, Z', rfl, t1, t2, t3, t4, t5, t6, t7, t8, _⟩
          have t8 : w.grownBy w' none := t8
          have same : ∀ g, g < w.heap.size → w'.heap[g]? = w.heap[g]? := fun g hg => t8.block g hg (fun e => by cases e)
          obtain ⟨r, rfl, rfl⟩ : ∃ r, uu = [r] ∧ rv = r := by
            rcases t1 with ⟨r, h1, h2⟩ | ⟨h1, _⟩
            · exact ⟨r, h1, h2⟩
            · exfalso
              match uu, t2, h1 with
              | [], t2, _ => exact t2
              | [_], _, h1 => exact h1 rfl
              | _ :: _ :: _, t2, _ => obtain ⟨_, _, _, _, h⟩ := t2; exact h
          obtain ⟨b1, b2, rfl, t2, rfl⟩ := t2
          rw [List.append_nil] at t3 t4
          have t2 : RQ true Z' w' w.heap.size (.sl (opq u)) ((opqL t l us).flatMap Gq) [rv] b1 := t2
          unfold RQ at t2
          rw [if_pos rfl] at t2
          obtain ⟨cc, m1, m2⟩ := hM.row q1
          have m1' : FQ w' u (l.flatMap G) (((opqL t l us).flatMap Gq).flatMap (vcs (opq u))) cc := m1.mono (fun g hg => by
            rw [m2] at hg
            obtain ⟨i, q, f, o1, o2, o3, o4, _⟩ := hown g hg
            exact same g ((S.obj i q o1).lt o2 f g o3 o4))
          have mlen : (l.flatMap G).length = ((opqL t l us).flatMap Gq).length := by
            have := m1.len
            have h2 : ∀ (y : List (El (opq u))), (∀ x ∈ y, (vcs (opq u) x).length = u.size) → (y.flatMap (vcs (opq u))).length = y.length * u.size := by
              intro y
              induction y with
              | nil => intro _; simp
              | cons z y ih => intro hz; rw [List.flatMap_cons, List.length_append, hz z (by simp), ih (fun x hx => hz x (by simp [hx])), List.length_cons, Nat.add_mul, Nat.one_mul, Nat.add_comm]
            have h3 : ∀ x ∈ (opqL t l us).flatMap Gq, (vcs (opq u) x).length = u.size := by
              intro x hx
              rcases t2 with ⟨e0, _⟩ | ⟨g, cq, cells, bq, _, _, _, _, _, _, _, hbq, hR, _⟩
              · rw [e0] at hx; cases hx
              · obtain ⟨j, hj, rfl⟩ := List.getElem_of_mem hx
                have hRj := (hR j hj _ (List.getElem?_eq_getElem (by omega))).flat_to hf
                rw [← hRj.1.vcs hf, hRj.1.len, opq_size]
            rw [h2 _ h3] at this
            exact (Nat.eq_of_mul_eq_mul_right hs this).symm
          have fin : ∀ (en : Ent), rv = .slice (en.bl.map fun g => ⟨g, 0, none⟩) en.ln en.cp → (∀ g, en.has g → g ∈ bb.flatten ∨ w.heap.size ≤ g) → ObOk (c.add n en) w' n (.dp (eidS u) u (l.flatMap G) 0) → ∀ d, dstOk N d = true → Sim gp Z0 w0 N (fun j => D j ∨ n ≤ j ∧ j < n + 1) (c.add n en) (upT T d (.c (.ow n))) (upO O ((n, .dp (eidS u) u (l.flatMap G) 0) :: deads ids)) (a.put d rv).tmps w' := fun en hrv hh hob d hd => by
            refine app_sim S hd hcn t8 ⟨_, Cf.add_at _ _ _, hrv⟩ (fun i q h => ?_) (fun g h => by cases h) (fun g hg => ?_) hob
            · obtain ⟨rfl, hi⟩ := deads_look h
              obtain ⟨o, o1, _, o3⟩ := own i hi
              exact ⟨rfl, o, o1, o3⟩
            · rcases hh g hg with h | h
              · exact .inl (hown g h)
              · exact .inr h
          rcases t2 with ⟨e0, e1, rfl⟩ | ⟨g, cq, cells, bq, e1, rfl, hb, hcell, hsz, hle, hmx, hbq, hR, _⟩
          · have z1 : l.flatMap G = [] := List.eq_nil_of_length_eq_zero (by rw [mlen, e0]; rfl)
            refine ⟨_, _, rfl, fin ⟨none, 0, 0, []⟩ (by simpa using e1) (fun g hg => by simp [Ent.has, Ent.all] at hg) ⟨_, Cf.add_at _ _ _, List.nodup_nil, hu, rfl, .inl ⟨rfl, rfl, rfl, z1, rfl, rfl⟩⟩⟩
          · have hcells : ((opqL t l us).flatMap Gq).flatMap (vcs (opq u)) = cells.toList.take (((opqL t l us).flatMap Gq).length * u.size) := by
              have := vcs_rows (Z := Z') (w := w') (cs := cells.toList) hf hun (l := (opqL t l us).flatMap Gq) (k := 0) (fun j hj => by
                have := ((hR j hj _ (List.getElem?_eq_getElem (by omega))).flat_to hf).1
                rw [Nat.zero_add]
                exact this)
              rw [this, Nat.zero_mul, List.drop_zero, opq_size]
            rw [List.singleton_inj] at e1
            refine ⟨_, _, rfl, fin ⟨some g, (l.flatMap G).length, cq, bb.flatten⟩ (by rw [e1, mlen]; rfl) (fun b hb' => ?_) ⟨_, Cf.add_at _ _ _, ?_, hu, rfl, .inr ⟨g, cq, cells, cc, rfl, ?_, Nat.zero_le _, by rw [← he]; exact hcell, by rw [hsz, opq_size], ?_, hmx, m1'.bl, fun j hj b hb' => ?_, fun j us hj => by simp [mks] at hj⟩⟩⟩
            · rcases List.mem_append.1 hb' with h | h
              · have h : b = g := by simpa using h
                subst h; exact .inr hb
              · exact .inl h
            · refine List.nodup_cons.2 ⟨fun hg => ?_, nd⟩
              obtain ⟨i, q, f, o1, o2, o3, o4, _⟩ := hown g hg
              have := (S.obj i q o1).lt o2 f g o3 o4
              omega
            · show g :: bb.flatten = _
              rw [m2]
            · rw [mlen]; exact hle
            · have := m1'.at_ j hj b hb'
              have hj' : (j + 1) * u.size ≤ (l.flatMap G).length * u.size := Nat.mul_le_mul_right _ hj
              rw [Nat.add_mul, Nat.one_mul] at hj'
              rw [hcells, ← mlen, List.drop_take, List.take_take, Nat.min_eq_left (by omega)] at this
              exact this
    · cases h
  · cases h
end Go.Proofs.YtakaehdolpmelaaGreat
