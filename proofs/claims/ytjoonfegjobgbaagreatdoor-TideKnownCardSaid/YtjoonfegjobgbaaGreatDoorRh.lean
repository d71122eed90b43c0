/- Texts of this claim, joined: A14 A15. -/
import Derived.Test.YtjoonfegjobgbaaGreatDoorRg
set_option linter.unusedVariables false
set_option linter.unusedSimpArgs false
set_option maxRecDepth 100000
namespace Go.Proofs.YtjoonfegjobgbaaGreatDoor
open Go Go.RowKit
def Gf.ef : Gf → Ef
  | .e E => E
  | .g _ val k => k val
def PrimOk (P : Program) (f : Nat) (p : Prim) : Prop :=
  (∀ (vs : Array Value) (w : World), (callFunc f vs).run P w = .ok (.enter f vs) w) ∧
  ∀ (gp : Option Nat) (Z0 : Nat → Prop) (w0 : Base) (N : Nat) (D : Nat → Prop) (c : Cf) (T : Nat → Option AV) (O O' : Store) (a : Act) (w : World) (xs : List AV) (vs : Array Value) (n : Nat) (cd : Option Prop) (G : Gf),
    Sim gp Z0 w0 N D c T O a.tmps w → (∀ i o, O' i = some o → O i = some o) → vs.size = xs.length → (∀ (i : Nat) (v : Value) (x : AV), vs[i]? = some v → xs[i]? = some x → RA c w v x) → p xs O' n = some (cd, G) → (∀ i, n ≤ i → i < n + G.ef.k → ¬ D i) → holds cd →
    Calls P f vs w (fun e w' => ∃ v c', e = .returned v ∧ ∀ d, dstOk N d = true → Sim gp Z0 w0 N (fun j => D j ∨ n ≤ j ∧ j < n + G.ef.k) c' (upT T d G.ef.v) (upO O G.ef.ob) (a.put d v).tmps w')
section
variable {P : Program} {C : Cfg} {gp : Option Nat} {Z0 : Nat → Prop} {w0 : Base} {w w' : World} {D : Nat → Prop} {c c' : Cf} {T : Nat → Option AV} {O O' : Store} {a : Act} {o : Oper}
theorem map_some {α β : Type} {x : Option α} {f : α → β} {y : β} (h : x.map f = some y) : ∃ z, x = some z ∧ f z = y := by
  cases x with
  | none => cases h
  | some z => exact ⟨z, rfl, by simpa using h⟩
theorem bind_some {α β : Type} {x : Option α} {f : α → Option β} {y : β} (h : x.bind f = some y) : ∃ z, x = some z ∧ f z = some y := by
  cases x with
  | none => cases h
  | some z => exact ⟨z, rfl, h⟩
theorem map_some' {α : Type} {β : Type 1} {x : Option α} {f : α → β} {y : β} (h : x.map f = some y) : ∃ z, x = some z ∧ f z = y := by
  cases x with
  | none => cases h
  | some z => exact ⟨z, rfl, by simpa using h⟩
theorem args_run (S : Sim gp Z0 w0 C.N D c T O a.tmps w) {xs : Array Operand} {vs : List AV} (h : mapO (ev T) xs.toList = some vs) : (xs.map a.eval).size = vs.length ∧ ∀ (i : Nat) (v : Value) (x : AV), (xs.map a.eval)[i]? = some v → vs[i]? = some x → RA c w v x := by
  obtain ⟨h1, h2⟩ := S.evs h
  refine ⟨by simpa using h1, fun i v x k1 k2 => ?_⟩
  rw [Array.getElem?_map] at k1
  cases hx : xs[i]? with
  | none => rw [hx] at k1; cases k1
  | some y =>
    rw [hx] at k1
    cases k1
    exact h2 i y x (by simpa using hx) k2
theorem op_call (S : Sim gp Z0 w0 C.N D c T O a.tmps w) (hO : ∀ i o, O' i = some o → O i = some o) (hd : dstOk C.N o.dst = true) {n f : Nat} {xs : Array Operand} {ts : Array TypeId} (ho : o.op = .call { callee := .value (.func f), args := xs, argTypes := ts }) {p : Prim} (hp : PrimOk P f p) {vs : List AV} (hx : mapO (ev T) xs.toList = some vs) {cd : Option Prop} {G : Gf} (hn : ∀ i, n ≤ i → i < n + G.ef.k → ¬ D i) (h : p vs O' n = some (cd, G)) (hc : holds cd) : Done P gp Z0 w0 C.N D T O o a w G.ef n := by
  intro next Q hq
  obtain ⟨k1, k2⟩ := args_run S hx
  have := hp.2 gp Z0 w0 C.N D c T O O' a w vs (xs.map a.eval) n cd G S hO k1 k2 h hn hc
  have hr : (execOp a.eval o).run P w = .ok (.enter f (xs.map a.eval)) w := by
    unfold execOp
    rw [ho]
    simp only [resolve, Act.eval, Deferred.ofValue, Sem.run_bind, Sem.run_pure, Result.andThen, invoke, Array.empty_append, Array.append_empty]
    exact hp.1 _ w
  unfold Oper.wp
  rw [hr]
  show Calls P f (xs.map a.eval) w _
  refine this.mono ?_
  rintro e w' ⟨v, c', rfl, h1⟩
  exact hq v w' c' (h1 o.dst hd)
theorem op_callv (S : Sim gp Z0 w0 C.N D c T O a.tmps w) (hO : ∀ i o, O' i = some o → O i = some o) (hd : dstOk C.N o.dst = true) {n f t : Nat} {l : List Nat} {xs : Array Operand} {ts : Array TypeId} (ho : o.op = .call { callee := .value (.tmp t), args := xs, argTypes := ts }) (ht : ev T (.tmp t) = some (.c (.fv f l))) {p : Prim} (hp : PrimOk P f p) {vs : List AV} (hx : mapO (ev T) xs.toList = some vs) {cd : Option Prop} {G : Gf} (hn : ∀ i, n ≤ i → i < n + G.ef.k → ¬ D i) (h : p (vs ++ l.map fun i => .c (.pv i 0)) O' n = some (cd, G)) (hc : holds cd) : Done P gp Z0 w0 C.N D T O o a w G.ef n := by
  intro next Q hq
  obtain ⟨k1, k2⟩ := args_run S hx
  obtain ⟨us, e1, e2, e3⟩ : ∃ us : Array Value, a.eval (.tmp t) = .func (.func f) #[] us ∧ us.size = l.length ∧ ∀ (k i : Nat), l[k]? = some i → ∃ e g, c.m i = some e ∧ e.bl = some g ∧ us[k]? = some (.pointer (some ⟨g, 0, none⟩)) := S.ev ht
  have sz : (xs.map a.eval ++ us).size = (vs ++ l.map fun i => AV.c (.pv i 0)).length := by
    rw [Array.size_append, List.length_append, List.length_map, k1, e2]
  have := hp.2 gp Z0 w0 C.N D c T O O' a w (vs ++ l.map fun i => AV.c (.pv i 0)) (xs.map a.eval ++ us) n cd G S hO sz (fun i v x q1 q2 => by
    by_cases hi : i < vs.length
    · rw [Array.getElem?_append_left (by omega)] at q1
      rw [List.getElem?_append_left hi] at q2
      exact k2 i v x q1 q2
    · rw [Array.getElem?_append_right (by omega), k1] at q1
      rw [List.getElem?_append_right (by omega), List.getElem?_map] at q2
      cases hl : l[i - vs.length]? with
      | none => rw [hl] at q2; cases q2
      | some j =>
        rw [hl] at q2
        cases q2
        obtain ⟨e, g, r1, r2, r3⟩ := e3 _ j hl
        rw [q1] at r3
        cases r3
        exact ⟨e, g, r1, r2, rfl⟩) h hn hc
  have hr : (execOp a.eval o).run P w = .ok (.enter f (xs.map a.eval ++ us)) w := by
    unfold execOp
    rw [ho]
    simp only [resolve, e1, Deferred.ofValue, Sem.run_bind, Sem.run_pure, Result.andThen, invoke, Array.empty_append]
    exact hp.1 _ w
  unfold Oper.wp
  rw [hr]
  show Calls P f (xs.map a.eval ++ us) w _
  refine this.mono ?_
  rintro e w' ⟨v, c', rfl, h1⟩
  exact hq v w' c' (h1 o.dst hd)
theorem op_makeFunc (S : Sim gp Z0 w0 C.N D c T O a.tmps w) (hd : dstOk C.N o.dst = true) {n f : Nat} {first caps : Array Operand} (ho : o.op = .makeFunc (.func f) first caps) (hf : first = #[]) {az : List AV} {ids : List Nat} (h1 : mapO (ev T) caps.toList = some az) (h2 : mapO pvId az = some ids) : Done P gp Z0 w0 C.N D T O o a w { v := .c (.fv f ids) } n := by
  obtain ⟨k1, k2⟩ := args_run S h1
  obtain ⟨m1, m2⟩ := mapO_at h2
  subst hf
  refine Done.value S hd (v := .func (.func f) #[] (caps.map a.eval)) (by
    unfold execOp
    rw [ho]
    show (do pure (Next.value (← Instr.makeFunc (.func f) ((#[] : Array Operand).map a.eval) (caps.map a.eval))) : Sem Next).run P w = _
    rw [show (#[] : Array Operand).map a.eval = #[] by simp]
    rfl) ⟨caps.map a.eval, rfl, by rw [k1, m1], fun k i hk => ?_⟩
  obtain ⟨x, q1, q2⟩ := m2 k i hk
  have hk' : k < (caps.map a.eval).size := by rw [k1]; exact (List.getElem?_eq_some_iff.1 q1).1
  unfold pvId at q2
  split at q2
  · cases q2
    obtain ⟨e, g, r1, r2, r3⟩ := k2 k _ _ (Array.getElem?_eq_getElem hk') q1
    exact ⟨e, g, r1, r2, by rw [Array.getElem?_eq_getElem hk', r3]⟩
  · cases q2
theorem op_len (S : Sim gp Z0 w0 C.N D c T O a.tmps w) (hd : dstOk C.N o.dst = true) {n t : Nat} {x : Operand} {ts : Array TypeId} (ho : o.op = .call { callee := .builtin .len, args := #[x], argTypes := ts }) (ht : ts[0]? = some t) {d : TypeDesc} (hu : P.underlying t = some d) {k : Nat} (hk : (∃ s, d = .string ∧ a.eval x = .string s ∧ s.size = k) ∨ ∃ e A cp, d = .slice e ∧ a.eval x = .slice A k cp) (hm : k ≤ maxI) : Done P gp Z0 w0 C.N D T O o a w { v := .c (.sc (.int .i64 k)) } n := by
  refine Done.value S hd (v := .int .i64 k) ?_ ⟨rfl, i64_rng ⟨by omega, by simp only [maxI] at hm; omega⟩⟩
  unfold execOp
  rw [ho]
  simp only [resolve, Sem.run_bind, Sem.run_pure, Result.andThen, invoke, builtin, Builtin.len_, ht, List.map_toArray, List.map_cons, List.map_nil, List.getElem?_toArray, List.getElem?_cons_zero, run_und hu]
  rcases hk with ⟨s, rfl, hx, rfl⟩ | ⟨e, A, cp, rfl, hx⟩
  · rw [hx]; rfl
  · rw [hx]; rfl
theorem cond_none {b : Bool} {α : Type 1} {x : Option α} {y : α} (h : (bif b then x else none) = some y) : b = true ∧ x = some y := by
  cases b with
  | true => exact ⟨rfl, h⟩
  | false => cases h
theorem lenM_eq (m : Nat) (u : Ty) (l : List (El u)) : lenM m u l = ((l.length + vis m u : Nat) : Int) := by
  unfold lenM
  split
  · rfl
  · rfl
  · rw [Int.natCast_add]
theorem deepOf_form {e : Nat} {u u' : Ty} {l : List (El u')} {m : Nat} {rest : List Nat} {sc : Ce} (h : deepOf C O' e u sc = some ⟨u', l, m, rest⟩) : unl u' = u ∧ True := by
  unfold deepOf at h
  split at h
  · split at h
    · obtain ⟨hb, h⟩ := cond_some h
      simp only [Bool.and_eq_true, decide_eq_true_eq] at hb
      injection h with h1
      subst h1
      exact ⟨hb.1, trivial⟩
    · cases h
  · split at h
    · obtain ⟨hb, h⟩ := cond_some h
      simp only [Bool.and_eq_true, decide_eq_true_eq] at hb
      injection h with h1
      subst h1
      exact ⟨hb.2, trivial⟩
    · split at h
      · obtain ⟨hb, h⟩ := cond_of h
        simp only [Bool.and_eq_true, decide_eq_true_eq] at hb
        split at h
        · obtain ⟨_, h⟩ := cond_some h
          injection h with h1
          subst h1
          exact ⟨hb.1.1, trivial⟩
        · cases h
      · cases h
    · cases h
  · cases h
theorem slice_run (hT : tyB P C.ty C.ty = true) {t e : Nat} {y : Ty} {x : Operand} {lo hi : Option Operand} (S : Sim gp Z0 w0 C.N D c T O a.tmps w) (ho : o.op = .slice t x lo hi none) (hy : C.el t = some (e, y)) {A : Option Addr} {ln cp : Nat} (k1 : a.eval x = .slice A ln cp) {p q : Int} (hp : optInt (ev T) 0 lo = some p) (hq : optInt (ev T) ln hi = some q) (hc : 0 ≤ p ∧ p ≤ q ∧ q ≤ cp) :
    (execOp a.eval o).run P w = .ok (.value (.slice (if cp = p.toNat then A else A.map (·.add (p.toNat * y.size))) (q.toNat - p.toNat) (cp - p.toNat))) w := by
  obtain ⟨h1, e', h2⟩ := elOk_of hT hy
  have hlo : (lo.map a.eval = none ∧ p = 0) ∨ ∃ k, lo.map a.eval = some (.int k p) := by
    rcases optInt_sound S hp with ⟨rfl, rfl⟩ | ⟨z, k, rfl, hz⟩
    · exact .inl ⟨rfl, rfl⟩
    · exact .inr ⟨k, by simp [hz]⟩
  have hhi : (hi.map a.eval = none ∧ q = ln) ∨ ∃ k, hi.map a.eval = some (.int k q) := by
    rcases optInt_sound S hq with ⟨rfl, rfl⟩ | ⟨z, k, rfl, hz⟩
    · exact .inl ⟨rfl, rfl⟩
    · exact .inr ⟨k, by simp [hz]⟩
  have hb := sliceBounds_run (P := P) true ln cp hlo hhi hc w
  unfold execOp
  rw [ho]
  refine op_value_of ?_
  simp only [Instr.sliceAt, k1, Sem.run_bind, run_und h1, Result.andThen, Instr.slice, Option.map_none, hb, h2.run_size w]
  rfl
theorem op_subL (S : Sim gp Z0 w0 C.N D c T O a.tmps w) (hT : tyB P C.ty C.ty = true) (hd : dstOk C.N o.dst = true) {n t e : Nat} {y u : Ty} {x : Operand} {lo hi : Option Operand} (ho : o.op = .slice t x lo hi none) (hy : C.el t = some (e, y)) (_ : unl u = y) {l : List (El u)} (hx : ev T x = some (.c (.lt u l))) {p q : Int} (hp : optInt (ev T) 0 lo = some p) (hq : optInt (ev T) l.length hi = some q)
    (hc : p = 0 ∧ q = l.length + (mkv u).length) : Done P gp Z0 w0 C.N D T O o a w { v := .c (.lf u l) } n := by
  have hr : RT c.Z w (.lt u) l [a.eval x] := S.ev hx
  obtain ⟨g, of, cp, k1, k2, k3, k4, k5, k6⟩ := hr.lt_row
  simp at k1
  obtain ⟨rfl, rfl⟩ := hc
  rw [mks_len4] at k2
  have hrun := slice_run hT S ho hy k1 hp hq ⟨by omega, by omega, by omega⟩
  refine Done.value S hd hrun ?_
  show RT c.Z w (.lf u) l [_]
  rw [RT]
  refine ⟨g, of, cp, ?_, by rw [mks_len3]; exact k2, k3, k4, k5, by rw [mks3]; exact k6⟩
  have e1 : (if cp = (0 : Int).toNat then (some ⟨g, of, none⟩ : Option Addr) else (some ⟨g, of, none⟩ : Option Addr).map (·.add ((0 : Int).toNat * y.size))) = some ⟨g, of, none⟩ := by
    split
    · rfl
    · simp [add_plain]
  rw [e1, mks_len3]
  congr 2
theorem op_subI (S : Sim gp Z0 w0 C.N D c T O a.tmps w) (hT : tyB P C.ty C.ty = true) (hd : dstOk C.N o.dst = true) {n t e : Nat} {y u : Ty} {x : Operand} {lo hi : Option Operand} (ho : o.op = .slice t x lo hi none) (hy : C.el t = some (e, y)) (hs : y.size = u.size) {i : Nat} {l : List (El u)} {m : Nat} {Zx : Nat → Prop} (hx : ev T x = some (.c (.ow i))) (hr : ∃ e, c.m i = some e ∧ RowV Zx w u l m e) {p q : Int} (hp : optInt (ev T) 0 lo = some p) (hq : optInt (ev T) (lenM m u l) hi = some q)
    (hc : 0 ≤ p ∧ p ≤ q ∧ q ≤ lenM m u l) : Done P gp Z0 w0 C.N D T O o a w { v := .c (.os i u.size p.toNat (q.toNat - p.toNat)) } n := by
  obtain ⟨en, q1, q2⟩ := hr
  obtain ⟨en', r1, r2⟩ := S.ev hx
  rw [q1] at r1; cases r1
  rw [lenM_eq, ← q2.ln] at hq hc
  have hle : en.ln ≤ en.cp ∧ en.ln ≤ maxI := by
    have h1 := q2.ln
    have h2 := vis_le m u
    rcases q2.r with ⟨_, b2, rfl, rfl⟩ | ⟨g, b1, b2, b3, b4, _⟩
    · have : en.ln = 0 := h1
      omega
    · omega
  have hrun := slice_run hT S ho hy r2 hp hq ⟨hc.1, hc.2.1, by omega⟩
  refine Done.value S hd hrun ⟨en, _, q1, by omega, rfl, fun ha => ?_, by omega⟩
  rw [if_neg (by omega), hs]
  cases en.bl with
  | none => rfl
  | some g => simp [add_plain]
theorem op_subH (S : Sim gp Z0 w0 C.N D c T O a.tmps w) (hT : tyB P C.ty C.ty = true) (hd : dstOk C.N o.dst = true) {n t e : Nat} (hn : ¬ D n) {y u : Ty} {x : Operand} {lo hi : Option Operand} (ho : o.op = .slice t x lo hi none) (hy : C.el t = some (e, y)) (hs : y.size = u.size) {i : Nat} {l : List (El u)} (hx : ev T x = some (.c (.ow i))) (hi' : O i = some (.dp e u l 3)) {p q : Int} (hp : optInt (ev T) 0 lo = some p) (hq : optInt (ev T) (lenM 3 u l) hi = some q)
    (hc : p = 0 ∧ q = l.length) : Done P gp Z0 w0 C.N D T O o a w { v := .c (.ow n), ob := [(n, .dp e u l 4), (i, .dead)], k := 1 } n := by
  obtain ⟨en, q1, q2⟩ := S.ev hx
  obtain ⟨en', r1, r2, r3, r4, r5⟩ := S.obj i _ hi'
  rw [q1] at r1; cases r1
  rcases r5 with ⟨_, _, _, _, b, _⟩ | hrow
  · cases b
  obtain ⟨g, cp, cells, bb, p1, p2, p3, p4, p5, p6, p7, p8, p9, p10⟩ := hrow
  have hbl : en.bl = some g ∧ en.ln = l.length + vis 3 u ∧ en.cp = cp := by
    unfold entV at p1
    simp only [List.cons.injEq, Value.slice.injEq, and_true] at p1
    obtain ⟨a1, a2, a3⟩ := p1
    refine ⟨?_, a2, a3⟩
    cases hb : en.bl with
    | none => rw [hb] at a1; cases a1
    | some g' => rw [hb] at a1; cases a1; rfl
  obtain ⟨hbl, hln, rfl⟩ := hbl
  obtain ⟨rfl, rfl⟩ := hc
  have hv3 := vis_le 3 u
  rw [lenM_eq, ← hln] at hq
  have hrun := slice_run hT S ho hy q2 hp hq ⟨by omega, by omega, by omega⟩
  have hcn : c.m n = none := by
    cases h : c.m n with
    | none => rfl
    | some f => exact absurd (S.dom n f h) hn
  have e1 : (if en.cp = (0 : Int).toNat then en.bl.map (fun g => (⟨g, 0, none⟩ : Addr)) else (en.bl.map (fun g => (⟨g, 0, none⟩ : Addr))).map (·.add ((0 : Int).toNat * y.size))) = some ⟨g, 0, none⟩ := by
    rw [hbl]
    split
    · rfl
    · simp [add_plain]
  rw [e1] at hrun
  have e2 : ((l.length : Int).toNat - (0 : Int).toNat) = l.length := by omega
  have e3 : en.cp - (0 : Int).toNat = en.cp := by omega
  rw [e2, e3] at hrun
  have T1 := app_sim (w' := w) (old := none) (rest := [(i, .dead)]) (v := .slice (some ⟨g, 0, none⟩) l.length en.cp) (p := .dp e u l 4) S hd hcn (en := ⟨some g, l.length, en.cp, en.ds⟩) (World.grownBy.refl w _) ⟨_, Cf.add_at _ _ _, rfl⟩ (fun k q h => ?_) (fun g h => by cases h) (fun k hk => ?_) ?_
  · intro next Q hq
    unfold Oper.wp
    rw [hrun]
    exact hq _ w _ T1
  · rw [look_one] at h
    split at h <;> cases h
    rename_i e0
    subst e0
    exact ⟨rfl, _, hi', fun cs h => by cases h⟩
  · refine .inl ⟨i, _, en, hi', rfl, q1, ?_, by rw [look_one, if_pos rfl]⟩
    have hk : k ∈ (some g).toList ++ en.ds := hk
    unfold Ent.has Ent.all
    rw [hbl]
    exact hk
  · have hall : (⟨some g, l.length, en.cp, en.ds⟩ : Ent).all = en.all := by unfold Ent.all; rw [hbl]
    refine ⟨_, Cf.add_at _ _ _, by rw [hall]; exact r2, r3, r4, .inr ⟨g, en.cp, cells, bb, rfl, by rw [hall]; exact p2, Nat.zero_le _, p4, p5, by rw [← mks3]; exact p6, p7, p8, p9, by rw [← mks3]; exact p10⟩⟩
set_option maxHeartbeats 2000000 in
theorem op_sound (hT : tyB P C.ty C.ty = true) (hP : ∀ f p, look C.pr f = some p → PrimOk P f p) (S : Sim gp Z0 w0 C.N D c T O a.tmps w) (hO : ∀ i o, O' i = some o → O i = some o) (hd : dstOk C.N o.dst = true) {n : Nat} {cd : Option Prop} {G : Gf} (hn : ∀ i, n ≤ i → i < n + G.ef.k → ¬ D i) (h : opF C o (ev T) O' n = some (cd, G)) (hc : holds cd) : Done P gp Z0 w0 C.N D T O o a w G.ef n := by
  unfold opF at h
  split at h
  · -- move
    rename_i x ho
    obtain ⟨v, h1, h2⟩ := map_some' h
    cases h2
    exact Done.value S hd (by unfold execOp; rw [ho]; rfl) (S.ev h1)
  · rename_i x ho
    obtain ⟨v, h1, h2⟩ := map_some' h
    cases h2
    exact Done.value S hd (by unfold execOp; rw [ho]; rfl) (S.ev h1)
  · -- pick
    rename_i q x y ho
    split at h
    · rename_i hq
      obtain ⟨v, h1, h2⟩ := map_some' h
      cases h2
      have hb : a.eval q = .bool true := S.ev hq
      exact Done.value S hd (v := a.eval x) (by unfold execOp; rw [ho]; simp only [hb, asBool, Sem.run_bind, Sem.run_pure, Result.andThen, if_true]) (S.ev h1)
    · rename_i hq
      obtain ⟨v, h1, h2⟩ := map_some' h
      cases h2
      have hb : a.eval q = .bool false := S.ev hq
      exact Done.value S hd (v := a.eval y) (by unfold execOp; rw [ho]; simp only [hb, asBool, Sem.run_bind, Sem.run_pure, Result.andThen, Bool.false_eq_true, if_false]) (S.ev h1)
    · cases h
  · -- alloc
    rename_i t ho
    obtain ⟨y, h1, h2⟩ := map_some' h
    cases h2
    obtain ⟨e, _, h3⟩ := tyOk_of hT h1
    exact op_alloc S hd (hn n (Nat.le_refl _) (Nat.lt_succ_self n)) h3 ho
  · -- box
    rename_i t x ho
    split at h
    · rename_i y cs h1 h2
      obtain ⟨v, h3, h4⟩ := bind_some h2
      cases hb : Nat.beq cs.length y.size with
      | false => rw [hb] at h; cases h
      | true => rw [hb] at h; cases h; exact op_box S hd (hn n (Nat.le_refl _) (Nat.lt_succ_self n)) ho h3 h4
    · cases h
  · -- build
    rename_i t ps ho
    split at h
    · rename_i y h1
      cases ha : y.agg with
      | false => rw [ha] at h; cases h
      | true =>
        rw [ha] at h
        obtain ⟨cs, h2, h3⟩ := map_some' h
        cases h3
        exact op_build S hT hd ho h1 ha h2
    · cases h
  · -- buildSlice
    rename_i t len ps ho
    split at h
    · rename_i e y h1
      cases hb : (Nat.ble (len * y.size) 16777216 && Nat.ble len 16777216) with
      | false => rw [hb] at h; cases h
      | true =>
        rw [hb] at h
        simp only [Bool.and_eq_true] at hb
        have b1 := Nat.le_of_ble_eq_true hb.1
        have b2 := Nat.le_of_ble_eq_true hb.2
        have b3 : len ≤ maxI := Nat.le_trans b2 (by decide)
        simp only [Bool.not_true, cond_false] at h
        split at h
        · rename_i cs h2
          split at h
          · rename_i l h3
            cases h
            cases hp : (cs.all plainC && (look C.dp e).isNone) with
            | false => rw [hp] at h3; cases h3
            | true => rw [hp] at h3; exact op_buildSlice S hT hd (hn n (Nat.le_refl _) (Nat.lt_succ_self n)) ho h1 b1 b3 h2 (.inl ⟨l, h3, rfl⟩)
          · cases h
            exact op_buildSlice S hT hd (hn n (Nat.le_refl _) (Nat.lt_succ_self n)) ho h1 b1 b3 h2 (.inr rfl)
        · cases h
    · cases h
  · -- load
    rename_i t x ho
    split at h
    · rename_i y h1
      obtain ⟨e, _, h2⟩ := tyOk_of hT h1
      split at h
      · rename_i i off hx
        split at h
        · rename_i cs hi
          obtain ⟨v, h3, h4⟩ := map_some' h
          cases h4
          obtain ⟨ds, h5, h6⟩ := bind_some h3
          obtain ⟨e1, g, q1, q2, q3⟩ := S.ev hx
          obtain ⟨e2, g', vs, et, r1, r2, r0, r3, r4⟩ := S.obj i _ (hO _ _ hi)
          rw [q1] at r1; cases r1
          rw [q2] at r2; cases r2
          obtain ⟨k1, k2⟩ := r4.sub h5
          refine op_load S hd h2 ho q3 k1 (by rw [List.length_take, List.length_drop]; omega) (fun j u hj => ?_) h6
          rw [List.getElem?_take] at hj
          split at hj
          · rw [List.getElem?_drop] at hj; rw [cell_of r3]; simpa using hj
          · cases hj
        · cases h
      · rename_i i u' j off hx
        split at h
        · rename_i e1 u l m hi
          split at h
          · rename_i huu
            subst huu
            obtain ⟨hm, h⟩ := cond_none h
            have hv0 : vis m u = 0 := by
              rw [Bool.or_eq_true] at hm
              rcases hm with h | h <;> (rw [Nat.eq_of_beq_eq_true h]; rfl)
            obtain ⟨v, h3, h4⟩ := map_some' h
            cases h4
            obtain ⟨ds, h5, h6⟩ := bind_some h3
            obtain ⟨e1, g, q1, q2, q3, q4⟩ := S.ev hx
            obtain ⟨e2, r1, r0, r2, r3⟩ := S.obj i _ (hO _ _ hi)
            rw [q1] at r1; cases r1
            rcases r3 with ⟨b1, _⟩ | ⟨g', vs, b1, b2, b3, b4, b5, b6, b7⟩
            · rw [q2] at b1; cases b1
            · rw [q2] at b1; cases b1
              have hj : j < l.length := by omega
              obtain ⟨us, c1, c2⟩ := b6 j hj
              have hg : getL l j (dfl u) = l[j] := by unfold getL; rw [List.getD_eq_getElem?_getD, List.getElem?_eq_getElem hj]; rfl
              rw [hg] at h5
              obtain ⟨k1, k2⟩ := (c1.cel (c := c)).sub h5
              refine op_load S hd h2 ho q4 k1 (by rw [List.length_take, List.length_drop]; omega) (fun k z hk => ?_) h6
              rw [List.getElem?_take] at hk
              split at hk
              · rw [List.getElem?_drop] at hk
                have := c2 _ z hk
                rw [Nat.zero_add] at this
                rw [show j * u.size + off + k = j * u.size + (off + k) by omega]
                exact this
              · cases hk
          · cases h
        · cases h
      · rename_i cs hx
        obtain ⟨v, h3, h4⟩ := map_some' h
        cases h4
        obtain ⟨ds, h5, h6⟩ := bind_some h3
        obtain ⟨g, of, vs, q1, q2, q3, q4⟩ := S.ev hx
        obtain ⟨k1, k2⟩ := q3.sub h5
        refine op_load S hd h2 ho q1 k1 (by rw [List.length_take, List.length_drop]; omega) (fun k z hk => ?_) h6
        rw [List.getElem?_take] at hk
        split at hk
        · rw [List.getElem?_drop, Nat.zero_add] at hk; exact q4 _ z hk
        · cases hk
      · cases h
    · cases h
  · -- store
    rename_i t x z ho
    split at h
    · rename_i y xs h1 h2
      obtain ⟨e, _, h3⟩ := tyOk_of hT h1
      obtain ⟨v, h4, h5⟩ := bind_some h2
      cases hb : Nat.beq xs.length y.size with
      | false => rw [hb] at h; cases h
      | true =>
        rw [hb] at h
        simp only [cond_true] at h
        split at h
        · rename_i i off hx
          split at h
          · rename_i cs hi
            cases hb2 : (Nat.ble (off + xs.length) cs.length && noUd xs) with
            | false => rw [hb2] at h; cases h
            | true =>
              rw [hb2] at h
              cases h
              simp only [Bool.and_eq_true] at hb2
              exact op_store S hd h3 ho hx (hO _ _ hi) h4 h5 (Nat.eq_of_beq_eq_true hb) (Nat.le_of_ble_eq_true hb2.1) hb2.2
          · cases h
        · rename_i i u' j off hx
          split at h
          · rename_i et u l hi
            split at h
            · rename_i huu
              subst huu
              cases hb2 : (Nat.ble (off + xs.length) u.size && noUd xs) with
              | false => rw [hb2] at h; cases h
              | true =>
                rw [hb2] at h
                simp only [cond_true] at h
                split at h
                · rename_i q hq
                  cases h
                  simp only [Bool.and_eq_true] at hb2
                  exact op_storeE S hd h3 ho hx (hO _ _ hi) h4 h5 (Nat.eq_of_beq_eq_true hb) (Nat.le_of_ble_eq_true hb2.1) hb2.2 hq
                · cases h
            · cases h
          · cases h
        · cases h
    · cases h
  · -- nilCheck
    rename_i x ho
    have key : ∀ v, (∃ ad, v = .pointer (some ad)) ∨ (∃ f vs, v = .func (.func f) #[] vs) → a.eval x = v → (execOp a.eval o).run P w = .ok (.value v) w := fun v hv he => by
      unfold execOp
      rw [ho]
      rcases hv with ⟨ad, rfl⟩ | ⟨f, vs, rfl⟩
      · simp only [he]; rfl
      · simp only [he]; rfl
    split at h
    · rename_i i off hx
      cases h
      have hr := S.ev hx
      obtain ⟨e1, g, q1, q2, q3⟩ := hr
      exact Done.value S hd (key _ (.inl ⟨_, q3⟩) rfl) (S.ev hx)
    · rename_i i t j off hx
      cases h
      have hr := S.ev hx
      obtain ⟨e1, g, q1, q2, q3, q4⟩ := hr
      exact Done.value S hd (key _ (.inl ⟨_, q4⟩) rfl) (S.ev hx)
    · rename_i cs hx
      cases h
      have hr := S.ev hx
      obtain ⟨g, of, vs, q1, _⟩ := hr
      exact Done.value S hd (key _ (.inl ⟨_, q1⟩) rfl) (S.ev hx)
    · rename_i f l hx
      cases h
      have hr := S.ev hx
      obtain ⟨vs, q1, _⟩ := hr
      exact Done.value S hd (key _ (.inr ⟨_, _, q1⟩) rfl) (S.ev hx)
    · cases h
  · -- binOp
    rename_i op t x y yt ho
    split at h
    · rename_i p q hx hy
      have rx : RC c w (a.eval x) p := S.ev hx
      have ry : RC c w (a.eval y) q := S.ev hy
      have fin : ∀ (r : Ce), p ≠ .ud ∧ p ≠ .bad → (∃ z, (binOp op t (a.eval x) (a.eval y)).run P w = .ok z w ∧ RC c w z r) → Done P gp Z0 w0 C.N D T O o a w { v := .c r } n := fun r ⟨hp, hp2⟩ ⟨z, h1, h2⟩ => by
        have one := RC.one hp rx
        refine Done.value S hd (v := z) ?_ h2
        unfold execOp
        rw [ho]
        refine op_value_of ?_
        rw [Sem.run_bind, eqGuard_run op t x y (fun cs e => by rw [e] at one; cases one) (fun e => by
          rw [e] at rx
          cases p <;> first
            | (cases rx; done)
            | exact absurd rfl hp
            | exact absurd rfl hp2
            | (obtain ⟨h1, h2⟩ := rx; subst h1; exact h2)
            | (have rx' : RT c.Z w (.lt _) _ _ := rx; rw [RT] at rx'; obtain ⟨g, o', cp, k, _⟩ := rx'; simp at k; done)
            | (have rx' : RT c.Z w (.lf _) _ _ := rx; rw [RT] at rx'; obtain ⟨g, o', cp, k, _⟩ := rx'; simp at k; done)
            | (obtain ⟨h1, A, n', k, h2⟩ := rx; rw [← h1] at h2; cases h2; done)
            | (have rx' : RT c.Z w _ _ _ := rx; rw [RT] at rx'; obtain ⟨A, cp, k, _⟩ := rx'; simp at k; done)
            | (obtain ⟨e, _, k⟩ := rx; cases k; done)
            | (obtain ⟨e, A, _, _, k, _⟩ := rx; cases k; done)
            | (obtain ⟨e, g, _, _, k⟩ := rx; cases k; done)
            | (obtain ⟨e, g, _, _, _, k⟩ := rx; cases k; done)
            | (obtain ⟨vs, k, _⟩ := rx; cases k; done)) w]
        exact h1
      split at h
      · rename_i r h1
        cases h
        exact fin _ ⟨fun e => by subst e; simp [binS] at h1, fun e => by subst e; simp [binS] at h1⟩ (binS_sound rx ry (cd := r.1) (r := r.2) h1 hc)
      · split at h
        · rename_i r h1
          cases h
          exact fin _ ⟨fun e => by subst e; simp [shiftS] at h1, fun e => by subst e; simp [shiftS] at h1⟩ (shiftS_sound rx ry (cd := r.1) (r := r.2) h1 hc)
        · split at h
          · rename_i hbo
            obtain ⟨r, h1, h2⟩ := map_some' h
            cases h2
            obtain ⟨e, _, h3⟩ := tyOk_of hT hbo
            exact fin _ ⟨fun e => by subst e; simp [binB, boolOf] at h1, fun e => by subst e; simp [binB, boolOf] at h1⟩ (binB_sound h3 rfl rx ry (cd := r.1) (r := r.2) h1)
          · cases h
    · rename_i cs ds hx hy
      split at h
      · rename_i y' ht
        obtain ⟨hs, h⟩ := cond_none h
        split at h
        · rename_i p q hp hq
          split at h
          · cases h; exact op_eq S hT hd ho ht hs hx hy hp hq (.inl ⟨rfl, rfl⟩)
          · cases h; exact op_eq S hT hd ho ht hs hx hy hp hq (.inr ⟨rfl, rfl⟩)
          · cases h
        · cases h
      · cases h
    · cases h
  · -- unOp
    rename_i op t x ho
    split at h
    · rename_i p hx
      obtain ⟨r, h1, h2⟩ := map_some' h
      cases h2
      have rx : RC c w (a.eval x) p := S.ev hx
      obtain ⟨z, k1, k2⟩ := unS_sound (P := P) rx (cd := r.1) (r := r.2) h1 hc
      refine Done.value S hd (v := z) ?_ k2
      unfold execOp
      rw [ho]
      exact op_value_of k1
    · cases h
  · -- convert
    rename_i s t x ho
    split at h
    · rename_i k1 k k' m h1 h2 hx
      obtain ⟨e, _, h3⟩ := tyOk_of hT h1
      obtain ⟨e', _, h4⟩ := tyOk_of hT h2
      obtain ⟨ds, u1, u2⟩ := h3.und
      obtain ⟨dt, u3, u4⟩ := h4.und
      have e1 : dt = .int k := by
        cases dt <;> simp [dscB] at u4
        rw [u4]
      subst e1
      obtain ⟨hv, hr⟩ : a.eval x = .int k' m ∧ okv (.int k' m) := S.ev hx
      have hds : ∃ kk, ds = .int kk := by cases ds <;> simp [dscB] at u2; exact ⟨_, rfl⟩
      obtain ⟨kk, rfl⟩ := hds
      have run : (execOp a.eval o).run P w = .ok (.value (.int k (k.wrap m))) w := by
        unfold execOp
        rw [ho]
        refine op_value_of ?_
        unfold convert
        simp only [Sem.run_bind, run_und u1, run_und u3, Result.andThen, hv]
        rfl
      split at h
      · rename_i hk
        subst hk
        cases h
        rw [wrap_id hr.1 hr.2] at run
        exact Done.value S hd run ⟨rfl, hr⟩
      · cases h
        exact Done.value S hd run ⟨rfl, wrap_rng _ _⟩
    · rename_i b h1 h2 hx
      obtain ⟨e, _, h3⟩ := tyOk_of hT h1
      obtain ⟨e', _, h4⟩ := tyOk_of hT h2
      obtain ⟨ds, u1, u2⟩ := h3.und
      obtain ⟨dt, u3, u4⟩ := h4.und
      have e1 : dt = .string := by cases dt <;> simp [dscB] at u4; rfl
      have e2 : ds = .string := by cases ds <;> simp [dscB] at u2; rfl
      subst e1 e2
      obtain ⟨hv, hr⟩ : a.eval x = .string b ∧ okv (.string b) := S.ev hx
      cases h
      refine Done.value S hd (v := .string b) ?_ ⟨rfl, hr⟩
      unfold execOp
      rw [ho]
      refine op_value_of ?_
      unfold convert
      simp only [Sem.run_bind, run_und u1, run_und u3, Result.andThen, hv]
      rfl
    · cases h
  · -- slice
    rename_i t x lo hi ho
    split at h
    · rename_i s hx
      split at h
      · rename_i ht
        split at h
        · rename_i p q hp hq
          cases h
          exact op_substr S hT hd ho ht hx hp hq hc
        · cases h
      · cases h
    · rename_i u l hx
      split at h
      · rename_i e y h1
        split at h
        · rename_i huy
          subst huy
          split at h
          · rename_i p q hp hq
            cases h
            exact op_sub S hT hd ho h1 hx hp hq hc
          · cases h
        · cases h
      · cases h
    · rename_i u l hx
      split at h
      · rename_i e y h1
        split at h
        · rename_i huy
          split at h
          · rename_i p q hp hq
            cases h
            exact op_subL S hT hd ho h1 huy hx hp hq hc
          · cases h
        · cases h
      · cases h
    · rename_i i hx
      split at h
      · rename_i e y h1
        split at h
        · rename_i e' u l m hi
          obtain ⟨hb, h⟩ := cond_none h
          simp only [Bool.and_eq_true, decide_eq_true_eq] at hb
          have hs : y.size = u.size := by rw [← hb.1, unl_size]
          split at h
          · rename_i p q hp hq
            cases hh : (C.ho && Nat.beq m 3) with
            | true =>
              rw [hh] at h
              cases h
              simp only [Bool.and_eq_true] at hh
              have h3 := Nat.eq_of_beq_eq_true hh.2
              subst h3
              have he := Nat.eq_of_beq_eq_true hb.2
              subst he
              exact op_subH S hT hd (hn n (Nat.le_refl _) (Nat.lt_succ_self n)) ho h1 hs hx (hO _ _ hi) hp hq hc
            | false =>
              rw [hh] at h
              cases h
              exact op_subI S hT hd ho h1 hs hx (ObOk.row (O := O') (fun i o h => S.obj i o (hO i o h)) (.inr (.inr ⟨_, hi⟩))) hp hq hc
          · cases h
        · rename_i e' u l hi
          obtain ⟨hb, h⟩ := cond_none h
          simp only [Bool.and_eq_true, decide_eq_true_eq] at hb
          have hs : y.size = u.size := by rw [hb.1]
          split at h
          · rename_i p q hp hq
            cases h
            exact op_subI S hT hd ho h1 hs hx (ObOk.row (O := O') (fun i o h => S.obj i o (hO i o h)) (.inl ⟨_, hi⟩)) hp hq hc
          · cases h
        · cases h
      · cases h
    · cases h
  · -- fieldAddr
    rename_i t x f ho
    split at h
    · rename_i y h1
      split at h
      · rename_i of u h2
        cases hb : Nat.beq u.size 0 with
        | true => rw [hb] at h; cases h
        | false =>
          rw [hb] at h
          simp only [cond_false] at h
          have hu : u.size ≠ 0 := fun e => by rw [e] at hb; cases hb
          split at h
          · rename_i i off hx
            cases h
            obtain ⟨e1, g, q1, q2, q3⟩ := S.ev hx
            exact op_fieldAddr S hT hd ho h1 h2 hu q3 ⟨e1, g, q1, q2, rfl⟩
          · rename_i i u' j off hx
            cases h
            obtain ⟨e1, g, q1, q2, q3, q4⟩ := S.ev hx
            refine op_fieldAddr S hT hd ho h1 h2 hu q4 ⟨e1, g, q1, q2, q3, ?_⟩
            rw [Nat.add_assoc]
          · rename_i cs hx
            cases h
            obtain ⟨g, off, vs, q1, q2, q3, q4⟩ := S.ev hx
            refine op_fieldAddr S hT hd ho h1 h2 hu q1 ⟨g, off + of, vs.drop of, rfl, q2, q3.drop of, fun k z hk => ?_⟩
            rw [List.getElem?_drop] at hk
            rw [Nat.add_assoc]
            exact q4 _ z hk
          · cases h
      · cases h
    · cases h
  · -- field
    rename_i t x f ho
    split at h
    · rename_i y h1
      split at h
      · rename_i of u cs h2 hx
        obtain ⟨v, h3, h4⟩ := map_some' h
        cases h4
        obtain ⟨ds, h5, h6⟩ := bind_some h3
        exact op_field S hT hd ho h1 h2 hx h5 h6
      · cases h
    · cases h
  · -- indexAddr
    rename_i t x i ho
    have row : ∀ {e : Nat} {y u : Ty} {l : List (El u)} {j : Int} {g of ln cp : Nat}, C.el t = some (e, y) → y.size = u.size → a.eval x = .slice (some ⟨g, of, none⟩) ln cp → l.length ≤ ln → c.Z g → RW c.Z w u l g of → (ev T i).bind intOf_ = some j → (0 ≤ j ∧ j < l.length) → Done P gp Z0 w0 C.N D T O o a w { v := .pe (cel u (getL l j.toNat (dfl u))) } n := fun {e y u l j g of ln cp} h1 hs hx hln hz hr hi hc => by
      obtain ⟨vi, i1, i2⟩ := bind_some hi
      obtain ⟨k, ik⟩ := intOf_sound (S.ev i1) i2
      have hj : j.toNat < l.length := by omega
      have hg : getL l j.toNat (dfl u) = l[j.toNat] := by unfold getL; rw [List.getD_eq_getElem?_getD, List.getElem?_eq_getElem hj]; rfl
      obtain ⟨us, q3, q4⟩ := hr j.toNat hj
      refine op_indexAddr S hT hd ho h1 hx ik ⟨hc.1, by omega⟩ ⟨g, of + j.toNat * y.size, us, rfl, hz, ?_, fun k z hk => ?_⟩
      · rw [hg]; exact q3.cel
      · rw [hs, Nat.add_assoc]; exact q4 k z hk
    have okS : ∀ {u y : Ty}, (u = y ∨ unl u = y) → y.size = u.size := fun h => by
      rcases h with rfl | rfl
      · rfl
      · exact unl_size _
    split at h
    · rename_i e y u l j h1 hx hi
      split at h
      · rename_i huy
        cases h
        have hc' : 0 ≤ j ∧ j < l.length := hc
        have hr : RT c.Z w (.sl u) l [a.eval x] := S.ev hx
        rw [RT] at hr
        obtain ⟨A, cp, k1, k2, k3, k4, k5⟩ := hr
        simp at k1
        obtain ⟨g, of, us, q1, q2, _, _⟩ := k5 0 (by omega)
        subst q1
        refine row h1 (okS huy) k1 (Nat.le_refl _) q2 (fun jj hj => ?_) hi hc'
        obtain ⟨g', of', us', e1, e2, e3, e4⟩ := k5 jj hj
        cases e1
        exact ⟨us', e3, e4⟩
      · cases h
    · rename_i e y u l j h1 hx hi
      split at h
      · rename_i huy
        cases h
        have hr : RT c.Z w (.lt u) l [a.eval x] := S.ev hx
        obtain ⟨g, of, cp, k1, k2, k3, k4, k5, _⟩ := hr.lt_row
        simp at k1
        exact row h1 (okS (.inr huy)) k1 (Nat.le_refl _) k4 k5 hi hc
      · cases h
    · rename_i e y u l j h1 hx hi
      split at h
      · rename_i huy
        have hr : RT c.Z w (.lf u) l [a.eval x] := S.ev hx
        obtain ⟨g, of, cp, k1, k2, k3, k4, k5, k6⟩ := hr.lf_row
        simp at k1
        cases hmk : (C.mj.contains (o.dst.getD 0) && mkU (unl u)) with
        | false =>
          rw [hmk] at h
          cases h
          exact row h1 (okS (.inr huy)) k1 (Nat.le_add_right _ _) k4 k5 hi hc
        | true =>
          rw [hmk] at h
          cases h
          have hc : (l.length : Int) ≤ j ∧ j < l.length + ((mkv u).length : Nat) := hc
          obtain ⟨vi, i1, i2⟩ := bind_some hi
          obtain ⟨k, ik⟩ := intOf_sound (S.ev i1) i2
          obtain ⟨m, hm⟩ : ∃ m, m = j.toNat - l.length := ⟨_, rfl⟩
          have hml : m < (mkv u).length := by omega
          have hjm : j.toNat = l.length + m := by omega
          have hh : (mkv u).headD (dfl (unl u)) = (mkv u)[m] := (mkU_all (by simp only [Bool.and_eq_true] at hmk; exact hmk.2) _ (List.getElem_mem hml)).symm
          have l3 := marks_len u
          have hg : (mks 3 u)[m]? = some (vcs (unl u) (mkv u)[m]) := by
            show (((mkv u).take 3).map (vcs (unl u)))[m]? = _
            rw [List.take_of_length_le l3, List.getElem?_map, List.getElem?_eq_getElem hml]
            rfl
          have hln : (mks 3 u).length = (mkv u).length := mks_len3 u
          refine op_indexAddr S hT hd ho h1 k1 ik ⟨by omega, by rw [hln]; omega⟩ ⟨g, of + j.toNat * y.size, vcs (unl u) (mkv u)[m], rfl, k4, ?_, fun k z hk => ?_⟩
          · rw [hh]
            exact (mkOk.rt (marks_ok u _ (List.getElem_mem hml))).cel
          · have := k6 m _ hg k z hk
            rw [okS (.inr huy), hjm, Nat.add_mul]
            rw [← this]
            congr 2
            omega
      · cases h
    · rename_i e y k j h1 hx hi
      split at h
      · rename_i e2 u l m hk
        split at h
        · rename_i huy
          subst huy
          cases h
          obtain ⟨vi, i1, i2⟩ := bind_some hi
          obtain ⟨kk, ik⟩ := intOf_sound (S.ev i1) i2
          obtain ⟨e1, q1, q2⟩ := S.ev hx
          have hc' : 0 ≤ j ∧ j < l.length := hc
          obtain ⟨e3, r1, r0, r2, r3⟩ := S.obj k _ (hO _ _ hk)
          rw [q1] at r1; cases r1
          rcases r3 with ⟨_, _, rfl, _⟩ | ⟨g, vs, b1, b2, b3, b4, b5, b6⟩
          · simp at hc'; omega
          · rw [b1] at q2
            refine op_indexAddr S hT hd ho h1 q2 ik (by rw [r2]; exact ⟨hc'.1, by omega⟩) ⟨e1, g, q1, b1, by omega, ?_⟩
            rw [Nat.zero_add, Nat.add_zero]
        · cases h
      · rename_i u l m hk
        split at h
        · rename_i huy
          cases h
          have hc' : 0 ≤ j ∧ j < l.length := hc
          obtain ⟨e1, q1, q2⟩ := S.ev hx
          obtain ⟨e3, r1, r2, r3⟩ := S.obj k _ (hO _ _ hk)
          rw [q1] at r1; cases r1
          rcases r3 with ⟨_, _, rfl, _⟩ | ⟨g, b1, b2, b4, b5, b6, _⟩
          · simp at hc'; omega
          · rw [b1] at q2
            exact row h1 (okS huy) q2 (by omega) b2 b6 hi hc'
        · cases h
      · cases h
    · cases h
  · -- index
    rename_i t x i ho
    split at h
    · rename_i s j hx hi
      split at h
      · rename_i ht
        cases h
        obtain ⟨vi, i1, i2⟩ := bind_some hi
        obtain ⟨kk, ik⟩ := intOf_sound (S.ev i1) i2
        exact op_index S hT hd ho ht hx ik hc
      · cases h
    · cases h
  · -- extract
    rename_i x i ho
    split at h
    · rename_i vs hx
      split at h
      · rename_i p hp
        obtain ⟨v, h1, h2⟩ := map_some' h
        cases h2
        obtain ⟨us, q1, q2, q3⟩ := S.ev hx
        have hi : i < us.size := by rw [q2]; exact (List.getElem?_eq_some_iff.1 hp).1
        have hr := q3 i us[i] p (by simp [hi]) hp
        refine Done.value S hd (v := us[i]) ?_ ?_
        · unfold execOp
          rw [ho]
          refine op_value_of ?_
          simp only [Instr.extract, q1]
          rw [Array.getElem?_eq_getElem hi]
          rfl
        · obtain ⟨b, cs⟩ := p
          unfold RP at hr
          unfold mkA at h1
          cases b with
          | true => simp only [if_true, cond] at hr h1; cases h1; exact hr
          | false =>
            simp only [Bool.false_eq_true, if_false, cond] at hr h1
            obtain ⟨x', rfl, hx'⟩ := hr
            cases h1
            exact hx'
      · cases h
    · cases h
  · -- len
    rename_i xs ts ho
    have hargs : ∀ {y}, mapO (ev T) xs.toList = some [y] → ∃ z, xs = #[z] ∧ ev T z = some y := fun {y} hy => by
      obtain ⟨h1, h2⟩ := mapO_at hy
      obtain ⟨z, k1, k2⟩ := h2 0 y rfl
      have : xs.toList = [z] := by
        match hx : xs.toList, h1 with
        | [z'], _ => rw [hx] at k1; cases k1; rfl
      exact ⟨z, by rw [← Array.toArray_toList (xs := xs), this], k2⟩
    have hty : ∀ {y}, (ts.toList.head?).bind C.t = some y → ∃ t e, ts[0]? = some t ∧ TyOk P C.ty t y e := fun {y} hy => by
      obtain ⟨t, h1, h2⟩ := bind_some hy
      obtain ⟨e, _, h3⟩ := tyOk_of hT h2
      exact ⟨t, e, by rw [← Array.getElem?_toList, ← List.head?_eq_getElem?]; exact h1, h3⟩
    have sl : ∀ {t y e}, TyOk P C.ty t (.sl y) e → ∃ e', P.underlying t = some (.slice e') := fun {t y e} hy => by
      obtain ⟨d, h1, h2⟩ := hy.und
      cases d <;> simp [dscB] at h2
      exact ⟨_, h1⟩
    split at h
    · rename_i s h1 h2
      cases h
      obtain ⟨z, rfl, hz⟩ := hargs h2
      obtain ⟨t, e, k1, k2⟩ := hty h1
      obtain ⟨d, u1, u2⟩ := k2.und
      have e1 : d = .string := by cases d <;> simp [dscB] at u2; rfl
      subst e1
      obtain ⟨q1, q2⟩ : a.eval z = .string s ∧ okv (.string s) := S.ev hz
      exact op_len S hd ho k1 u1 (.inl ⟨s, rfl, q1, rfl⟩) q2
    · rename_i y h1 h2
      cases h
      obtain ⟨z, rfl, hz⟩ := hargs h2
      obtain ⟨t, e, k1, k2⟩ := hty h1
      obtain ⟨e', u1⟩ := sl k2
      exact op_len S hd ho k1 u1 (k := 0) (.inr ⟨_, none, 0, rfl, S.ev hz⟩) (by decide)
    · rename_i y u l h1 h2
      cases h
      obtain ⟨z, rfl, hz⟩ := hargs h2
      obtain ⟨t, e, k1, k2⟩ := hty h1
      obtain ⟨e', u1⟩ := sl k2
      have hr : RT c.Z w (.sl u) l [a.eval z] := S.ev hz
      rw [RT] at hr
      obtain ⟨A, cp, q1, q2, q3, _⟩ := hr
      simp at q1
      exact op_len S hd ho k1 u1 (.inr ⟨_, A, cp, rfl, q1⟩) (Nat.le_trans q2 q3)
    · rename_i y u l h1 h2
      cases h
      obtain ⟨z, rfl, hz⟩ := hargs h2
      obtain ⟨t, e, k1, k2⟩ := hty h1
      obtain ⟨e', u1⟩ := sl k2
      have hr : RT c.Z w (.lt u) l [a.eval z] := S.ev hz
      obtain ⟨g, of, cp, q1, q2, q3, _⟩ := hr.lt_row
      simp at q1
      exact op_len S hd ho k1 u1 (.inr ⟨_, _, cp, rfl, q1⟩) (by omega)
    · rename_i y u l h1 h2
      cases h
      obtain ⟨z, rfl, hz⟩ := hargs h2
      obtain ⟨t, e, k1, k2⟩ := hty h1
      obtain ⟨e', u1⟩ := sl k2
      have hr : RT c.Z w (.lf u) l [a.eval z] := S.ev hz
      obtain ⟨g, of, cp, q1, q2, q3, _⟩ := hr.lf_row
      simp at q1
      rw [mks_len3] at q1 q2
      have := op_len (n := n) S hd ho k1 u1 (.inr ⟨_, _, cp, rfl, q1⟩) (Nat.le_trans q2 q3)
      rw [Int.natCast_add] at this
      exact this
    · rename_i y i s a' n' h1 h2
      cases h
      obtain ⟨z, rfl, hz⟩ := hargs h2
      obtain ⟨t, e, k1, k2⟩ := hty h1
      obtain ⟨e', u1⟩ := sl k2
      obtain ⟨e1, A, q1, q2, q3, q4, q5⟩ := S.ev hz
      exact op_len S hd ho k1 u1 (.inr ⟨_, _, _, rfl, q3⟩) q5
    · rename_i y i h1 h2
      obtain ⟨z, rfl, hz⟩ := hargs h2
      obtain ⟨t, e, k1, k2⟩ := hty h1
      obtain ⟨e', u1⟩ := sl k2
      obtain ⟨e1, q1, q2⟩ := S.ev hz
      have row : ∀ {u : Ty} {l : List (El u)} {m : Nat}, ((∃ et, O' i = some (.ty et u l m)) ∨ O' i = some (.fz u l m) ∨ ∃ et, O' i = some (.dp et u l m)) → Done P gp Z0 w0 C.N D T O o a w { v := .c (.sc (.int .i64 (lenM m u l))) } n := fun {u l m} hk => by
        obtain ⟨e3, r1, r2⟩ := ObOk.row (O := O') (fun i o h => S.obj i o (hO i o h)) hk
        rw [q1] at r1; cases r1
        rw [lenM_eq, ← r2.ln]
        refine op_len S hd ho k1 u1 (.inr ⟨_, _, _, rfl, q2⟩) ?_
        have h1 := r2.ln
        have h2 := vis_le m u
        rcases r2.r with ⟨_, _, rfl, rfl⟩ | ⟨g, b1, b2, b3, b4, _⟩
        · rw [h1]; exact Nat.zero_le _
        · omega
      split at h
      · rename_i hi; cases h; exact row (.inl ⟨_, hi⟩)
      · rename_i e2 u es hi
        cases h
        obtain ⟨e3, g, vs, r1, r0, r2, r3, r4, _⟩ := S.obj i _ (hO _ _ hi)
        rw [q1] at r1; cases r1
        rw [r2] at q2
        exact op_len S hd ho k1 u1 (.inr ⟨_, _, _, rfl, q2⟩) r4
      · rename_i hi; cases h; exact row (.inr (.inl hi))
      · rename_i hi; cases h; exact row (.inr (.inr ⟨_, hi⟩))
      · cases h
    · cases h
  · -- max
    rename_i xs ts ho
    split at h
    · rename_i k a' k' b' h1
      split at h
      · rename_i hk
        subst hk
        cases h
        obtain ⟨k1, k2⟩ := mapO_at h1
        obtain ⟨zs, y1, y2⟩ := k2 0 _ rfl
        obtain ⟨zx, y3, y4⟩ := k2 1 _ rfl
        have hxs : xs = #[zs, zx] := by
          have : xs.toList = [zs, zx] := by
            match hx : xs.toList, k1 with
            | [p, q], _ => rw [hx] at y1 y3; cases y1; cases y3; rfl
          rw [← Array.toArray_toList (xs := xs), this]
        subst hxs
        exact op_max S hd y2 y4 (.inl ⟨ho, rfl⟩)
      · cases h
    · cases h
  · -- min
    rename_i xs ts ho
    split at h
    · rename_i k a' k' b' h1
      split at h
      · rename_i hk
        subst hk
        cases h
        obtain ⟨k1, k2⟩ := mapO_at h1
        obtain ⟨zs, y1, y2⟩ := k2 0 _ rfl
        obtain ⟨zx, y3, y4⟩ := k2 1 _ rfl
        have hxs : xs = #[zs, zx] := by
          have : xs.toList = [zs, zx] := by
            match hx : xs.toList, k1 with
            | [p, q], _ => rw [hx] at y1 y3; cases y1; cases y3; rfl
          rw [← Array.toArray_toList (xs := xs), this]
        subst hxs
        exact op_max S hd y2 y4 (.inr ⟨ho, rfl⟩)
      · cases h
    · cases h
  · -- append
    rename_i xs ts ho
    split at h
    · rename_i t t' s x h1 h2
      cases hb : Nat.beq t t' with
      | false => rw [hb] at h; cases h
      | true =>
        rw [hb] at h
        have htt := Nat.eq_of_beq_eq_true hb
        subst htt
        simp only [cond_true] at h
        have hts : ts = #[t, t] := by rw [← Array.toArray_toList (xs := ts), h1]
        obtain ⟨k1, k2⟩ := mapO_at h2
        obtain ⟨zs, y1, y2⟩ := k2 0 (.c s) rfl
        obtain ⟨zx, y3, y4⟩ := k2 1 (.c x) rfl
        have hxs : xs = #[zs, zx] := by
          have : xs.toList = [zs, zx] := by
            match hx : xs.toList, k1 with
            | [p, q], _ => rw [hx] at y1 y3; cases y1; cases y3; rfl
          rw [← Array.toArray_toList (xs := xs), this]
        subst hts hxs
        split at h
        · rename_i e u h3
          cases hu : Nat.beq u.size 0 with
          | true => rw [hu] at h; cases h
          | false =>
            rw [hu] at h
            have hu' : u.size ≠ 0 := fun e => by rw [e] at hu; cases hu
            simp only [cond_false] at h
            have hn0 : 1 ≤ G.ef.k → ¬ D n := fun hk => hn n (Nat.le_refl _) (by omega)
            split at h
            · rename_i u' l m rest hdp
              unfold appD at h
              split at h
              · rename_i k
                split at h
                · rename_i news ids hgv
                  obtain ⟨hnd, h⟩ := cond_none h
                  cases h
                  split at hgv
                  · exact op_appD S hT hO hd (hn0 (Nat.le_refl _)) hu' ho h3 y2 y4 hdp hgv hnd hc
                  · cases hgv
                · split at h
                  · rename_i e2 t2 cs hk
                    cases ht2 : Nat.beq t2.size u'.size with
                    | false => rw [ht2] at h; cases h
                    | true =>
                      rw [ht2] at h
                      simp only [Bool.not_true, cond_false] at h
                      split at h
                      · rename_i ps hps
                        cases h
                        have hs : t2.size = u.size := by
                          rw [Nat.eq_of_beq_eq_true ht2]
                          obtain ⟨q, _⟩ := deepOf_form hdp
                          rw [← q, unl_size]
                        have hc' : m < 3 ∧ m < (mkv u').length ∧ (l.length : Nat) + 4 ≤ 1073741824 ∧ conj ps := hc
                        exact op_appM S hT hO hd (hn0 (Nat.le_refl _)) hu' ho h3 y2 y4 hdp hk hps hc' hs
                      · cases h
                  · cases h
              · cases h
            · unfold appS at h
              split at h
              · rename_i fz m h4
                split at h
                · cases h
                  have := op_append S hT hO hd (hn0 (Nat.le_refl _)) hu' ho h3 y2 y4 h4 (rest := []) (l := []) (.inl ⟨rfl, rfl, rfl⟩) (by have h9 : m.length ≤ 1073741824 := hc; simpa using h9)
                  simp only [List.nil_append] at this
                  exact this
                · rename_i i _
                  split at h
                  · rename_i e2 u2 l hi
                    split at h
                    · rename_i l' hcs
                      obtain ⟨rfl, rfl⟩ := cast_eq hcs
                      cases hb2 : (Nat.beq e e2 && (look fz i).isNone) with
                      | false => rw [hb2] at h; cases h
                      | true =>
                        rw [hb2] at h
                        cases h
                        simp only [Bool.and_eq_true] at hb2
                        have he := Nat.eq_of_beq_eq_true hb2.1
                        subst he
                        exact op_append S hT hO hd (hn0 (Nat.le_refl _)) hu' ho h3 y2 y4 h4 (rest := [(i, .dead)]) (.inr ⟨i, rfl, hi, rfl, by simpa using hb2.2⟩) hc
                    · cases h
                  · cases h
                · cases h
              · cases h
        · cases h
    · cases h
  · -- call
    rename_i f xs ts ho
    split at h
    · rename_i p vs h1 h2
      exact op_call S hO hd ho (hP f p h1) h2 hn h hc
    · cases h
  · -- call of a function's value
    rename_i t xs ts ho
    split at h
    · rename_i f l vs h1 h2
      split at h
      · rename_i p h3
        exact op_callv S hO hd ho h1 (hP f p h3) h2 hn h hc
      · cases h
    · cases h
  · -- makeFunc
    rename_i f first caps ho
    cases hf : first.isEmpty with
    | false => rw [hf] at h; cases h
    | true =>
      rw [hf] at h
      simp only [cond_true] at h
      split at h
      · rename_i az h1
        split at h
        · rename_i ids h2
          cases h
          exact op_makeFunc S hd ho (Array.isEmpty_iff.1 hf) h1 h2
        · cases h
      · cases h
  · cases h
end
section
variable {C : Cfg} {o : Oper} {e e' : Operand → Option AV} {O O' : Store} {n : Nat}
theorem mapO_congr {α β : Type} {f g : α → Option β} : ∀ {l : List α}, (∀ x ∈ l, f x = g x) → mapO f l = mapO g l
  | [], _ => rfl
  | x :: xs, h => by
    unfold mapO
    rw [h x (by simp), mapO_congr (fun y hy => h y (by simp [hy]))]
theorem parts_congr {pl : Nat → Option (Nat × Nat)} : ∀ {ps : List (Nat × Operand)} {cs : List Ce}, (∀ p ∈ ps, e p.2 = e' p.2) → parts e pl ps cs = parts e' pl ps cs
  | [], _, _ => rfl
  | (i, x) :: ps, cs, h => by
    have h1 : e x = e' x := h (i, x) (by simp)
    have h2 : ∀ cs, parts e pl ps cs = parts e' pl ps cs := fun cs => parts_congr (fun y hy => h y (by simp [hy]))
    simp only [parts, h1, h2]
theorem optInt_congr {d : Int} {x : Option Operand} (h : ∀ y, x = some y → e y = e' y) : optInt e d x = optInt e' d x := by
  cases x with
  | none => rfl
  | some y => simp only [optInt, h y rfl]
set_option maxHeartbeats 1000000 in
theorem opF_congr (h : ∀ x ∈ o.op.operands.toList, e x = e' x) : opF C o e O n = opF C o e' O n := by
  unfold opF
  split
  · rename_i x ho; rw [ho] at h; rw [h x (by simp [Op.operands])]
  · rename_i x ho; rw [ho] at h; rw [h x (by simp [Op.operands])]
  · rename_i q x y ho; rw [ho] at h; rw [h q (by simp [Op.operands]), h x (by simp [Op.operands]), h y (by simp [Op.operands])]
  · rfl
  · rename_i t x ho; rw [ho] at h; rw [h x (by simp [Op.operands])]
  · rename_i t ps ho
    rw [ho] at h
    have hp : ∀ p ∈ ps.toList, e p.2 = e' p.2 := fun p hp => h p.2 (by simp only [Op.operands, List.toList_toArray]; exact List.mem_map_of_mem hp)
    simp only [parts_congr hp]
  · rename_i t len ps ho
    rw [ho] at h
    have hp : ∀ p ∈ ps.toList, e p.2 = e' p.2 := fun p hp => h p.2 (by simp only [Op.operands, List.toList_toArray]; exact List.mem_map_of_mem hp)
    simp only [parts_congr hp]
  · rename_i t x ho; rw [ho] at h; rw [h x (by simp [Op.operands])]
  · rename_i t x y ho; rw [ho] at h; rw [h x (by simp [Op.operands]), h y (by simp [Op.operands])]
  · rename_i x ho; rw [ho] at h; rw [h x (by simp [Op.operands])]
  · rename_i op t x y yt ho; rw [ho] at h; rw [h x (by simp [Op.operands]), h y (by simp [Op.operands])]
  · rename_i op t x ho; rw [ho] at h; rw [h x (by simp [Op.operands])]
  · rename_i s t x ho; rw [ho] at h; rw [h x (by simp [Op.operands])]
  · rename_i t x lo hi ho
    rw [ho] at h
    have h1 : ∀ d, optInt e d lo = optInt e' d lo := fun d => optInt_congr (fun y hy => h y (by subst hy; simp [Op.operands]))
    have h2 : ∀ d, optInt e d hi = optInt e' d hi := fun d => optInt_congr (fun y hy => h y (by subst hy; simp [Op.operands]))
    simp only [h1, h2]
    rw [h x (by simp [Op.operands])]
  · rename_i t x f ho; rw [ho] at h; rw [h x (by simp [Op.operands])]
  · rename_i t x f ho; rw [ho] at h; rw [h x (by simp [Op.operands])]
  · rename_i t x i ho; rw [ho] at h; rw [h x (by simp [Op.operands]), h i (by simp [Op.operands])]
  · rename_i t x i ho; rw [ho] at h; rw [h x (by simp [Op.operands]), h i (by simp [Op.operands])]
  · rename_i x i ho; rw [ho] at h; rw [h x (by simp [Op.operands])]
  · rename_i xs ts ho
    rw [ho] at h
    have hp : mapO e xs.toList = mapO e' xs.toList := mapO_congr (fun x hx => h x (by simp [Op.operands, Call.operands]; simpa using hx))
    rw [hp]
  · rename_i xs ts ho
    rw [ho] at h
    have hp : mapO e xs.toList = mapO e' xs.toList := mapO_congr (fun x hx => h x (by simp [Op.operands, Call.operands]; simpa using hx))
    rw [hp]
  · rename_i xs ts ho
    rw [ho] at h
    have hp : mapO e xs.toList = mapO e' xs.toList := mapO_congr (fun x hx => h x (by simp [Op.operands, Call.operands]; simpa using hx))
    rw [hp]
  · rename_i xs ts ho
    rw [ho] at h
    have hp : mapO e xs.toList = mapO e' xs.toList := mapO_congr (fun x hx => h x (by simp [Op.operands, Call.operands]; simpa using hx))
    rw [hp]
  · rename_i f xs ts ho
    rw [ho] at h
    have hp : mapO e xs.toList = mapO e' xs.toList := mapO_congr (fun x hx => h x (by simp [Op.operands, Call.operands]; right; simpa using hx))
    rw [hp]
  · rename_i t xs ts ho
    rw [ho] at h
    have ht : e (.tmp t) = e' (.tmp t) := h _ (by simp [Op.operands, Call.operands])
    have hp : mapO e xs.toList = mapO e' xs.toList := mapO_congr (fun x hx => h x (by simp [Op.operands, Call.operands]; right; simpa using hx))
    rw [ht, hp]
  · rename_i f first caps ho
    rw [ho] at h
    have hp : mapO e caps.toList = mapO e' caps.toList := mapO_congr (fun x hx => h x (by simp [Op.operands]; first | (right; simpa using hx) | simpa using hx))
    rw [hp]
  · rfl
theorem flatMap_congr' {α β : Type} {f g : α → List β} {l : List α} (h : ∀ x ∈ l, f x = g x) : l.flatMap f = l.flatMap g := by
  induction l with
  | nil => rfl
  | cons x xs ih => rw [List.flatMap_cons, List.flatMap_cons, h x (by simp), ih (fun y hy => h y (by simp [hy]))]
theorem rds_congr (h : ∀ x ∈ o.op.operands.toList, e x = e' x) (k : ∀ i ∈ rds o e O, O i = O' i) : rds o e O = rds o e' O' := by
  unfold rds at k ⊢
  split
  · rename_i t x ho; rw [ho] at h; rw [h x (by simp [Op.operands])]
  · rename_i t x y ho; rw [ho] at h; rw [h x (by simp [Op.operands]), h y (by simp [Op.operands])]
  · rename_i t x lo hi mx ho; rw [ho] at h; rw [h x (by simp [Op.operands])]
  · rename_i t x i ho; rw [ho] at h; rw [h x (by simp [Op.operands])]
  · rfl
  · rename_i c ho
    rw [ho] at h k
    simp only [] at k
    have h1 : c.operands.toList.flatMap (fun x => ((e x).map idsA).getD []) = c.operands.toList.flatMap (fun x => ((e' x).map idsA).getD []) := flatMap_congr' (fun x hx => by rw [h x (by simpa [Op.operands] using hx)])
    simp only [← h1]
    congr 1
    exact flatMap_congr' (fun i hi => by rw [k i (List.mem_append.2 (.inl hi))])
  · rfl
theorem opA_congr (h : ∀ x ∈ o.op.operands.toList, e x = e' x) (k : ∀ i ∈ rds o e O, O i = O' i) : opA C o e O n = opA C o e' O' n := by
  unfold opA
  rw [opF_congr h, rds_congr h k]
  congr 1
  funext i
  cases hc : (rds o e' O').contains i with
  | false => rfl
  | true =>
    rw [← rds_congr h k] at hc
    exact k i (by simpa using hc)
end
end Go.Proofs.YtjoonfegjobgbaaGreatDoor
