/- Texts of this claim, joined: A24 P4 P6 P7 P8 N1 N2 N3. -/
import Derived.Test.YtjoonfegjobgbaaGreatDoorRj
set_option linter.unusedVariables false
set_option linter.unusedSimpArgs false
set_option maxRecDepth 100000
namespace Go.Proofs.YtjoonfegjobgbaaGreatDoor
open Go Go.RowKit
def wfE : (t : Ty) → El t → Prop
  | .bo, _ => True
  | .it k, x => k.min ≤ x ∧ x ≤ k.max
  | .st, x => x.size ≤ maxI
  | .sl t, l => l.length ≤ maxI ∧ ∀ x ∈ l, wfE t x
  | .pt _, _ => True
  | .fn, _ => True
  | .lt t, l => l.length ≤ maxI ∧ ∀ x ∈ l, wfE t x
  | .lf t, l => l.length ≤ maxI ∧ ∀ x ∈ l, wfE t x
  | .oq, _ => True
  | .pr a b, x => wfE a x.1 ∧ wfE b x.2
  | .un, _ => True
def wfEs : (ts : List Ty) → Els ts → Prop
  | [], _ => True
  | t :: ts, x => wfE t x.1 ∧ wfEs ts x.2
theorem RT.wf {Z : Nat → Prop} {w : World} : ∀ {t : Ty} {x : El t} {vs : List Value}, RT Z w t x vs → wfE t x
  | .bo, _, _, _ => trivial
  | .it _, _, _, h => by rw [RT] at h; exact h.2
  | .st, _, _, h => by rw [RT] at h; exact h.2
  | .sl t, l, _, h => by
    rw [RT] at h
    obtain ⟨A, c, _, h2, h3, _, h5⟩ := h
    refine ⟨Nat.le_trans h2 h3, fun x hx => ?_⟩
    obtain ⟨j, hj, rfl⟩ := List.getElem_of_mem hx
    obtain ⟨g, o, us, _, _, e3, _⟩ := h5 j hj
    exact e3.wf
  | .pt _, _, _, _ => trivial
  | .fn, _, _, _ => trivial
  | .lt t, l, _, h => by
    obtain ⟨g, o, c, _, h2, h3, _, h5, _⟩ := h.lt_row
    refine ⟨by omega, fun x hx => ?_⟩
    obtain ⟨j, hj, rfl⟩ := List.getElem_of_mem hx
    obtain ⟨us, k, _⟩ := h5 j hj
    exact k.wf
  | .lf t, l, _, h => by
    obtain ⟨g, o, c, _, h2, h3, _, h5, _⟩ := h.lf_row
    refine ⟨by omega, fun x hx => ?_⟩
    obtain ⟨j, hj, rfl⟩ := List.getElem_of_mem hx
    obtain ⟨us, k, _⟩ := h5 j hj
    exact k.wf
  | .oq, _, _, _ => trivial
  | .pr _ _, _, _, h => by
    rw [RT] at h
    obtain ⟨us, us', _, h1, h2⟩ := h
    exact ⟨h1.wf, h2.wf⟩
  | .un, _, _, _ => trivial
theorem RV.wf {Z : Nat → Prop} {w : World} {t : Ty} {x : El t} {v : Value} (h : RV Z w t x v) : wfE t x := by
  unfold RV at h
  split at h
  · obtain ⟨us, _, h⟩ := h; exact h.wf
  · exact h.wf
theorem RVs.wf {Z : Nat → Prop} {w : World} : ∀ {ts : List Ty} {x : Els ts} {vs : List Value}, RVs Z w ts x vs → wfEs ts x
  | [], _, _, _ => trivial
  | _ :: _, _, [], h => h.elim
  | _ :: _, _, _ :: _, h => ⟨h.1.wf, RVs.wf h.2⟩
theorem argT_sound {c : Cf} {w : World} : ∀ {ts : List Ty} {x : Els ts} {vs : List Value} {n : Nat} {tm : Array Value}, RVs c.Z w ts x vs → (∀ i v, vs[i]? = some v → tm[n + i]? = some v) → ∀ t v, look (argT n ts x) t = some v → n ≤ t ∧ ∃ u, tm[t]? = some u ∧ RA c w u v
  | [], _, _, _, _, _, _, _, _, h => by cases h
  | _ :: _, _, [], _, _, h, _, _, _, _ => h.elim
  | t :: ts, x, v :: vs, n, tm, h, hv, i, u, hl => by
    unfold argT look at hl
    cases hb : Nat.beq n i with
    | false =>
      rw [hb] at hl
      obtain ⟨h1, h2⟩ := argT_sound (n := n + 1) (tm := tm) h.2 (fun i v hi => by rw [Nat.add_assoc, Nat.add_comm 1]; exact hv (i + 1) v (by simpa using hi)) i u hl
      exact ⟨by omega, h2⟩
    | true =>
      rw [hb] at hl
      have hi := Nat.eq_of_beq_eq_true hb
      subst hi
      refine ⟨Nat.le_refl _, v, hv 0 v rfl, ?_⟩
      simp only [cond_true, Option.some.injEq] at hl
      have hr := h.1
      unfold RV at hr
      split at hr
      · rename_i ha
        obtain ⟨us, rfl, hr⟩ := hr
        have hc := hr.cel
        have e : u = .ag (cel t x.1) := by
          rw [← hl]
          split
          · rename_i z hz; rw [ha, hz]; rfl
          · rfl
        subst e
        exact ⟨us, rfl, hc⟩
      · rename_i ha
        have hc := hr.cel
        obtain ⟨hlen, _⟩ := hc
        match hz : cel t x.1, hlen with
        | [z], _ =>
          rw [hz] at hl
          simp only [show t.agg = false by simpa using ha, cond_false] at hl
          subst hl
          have hc := hr.cel
          rw [hz] at hc
          obtain ⟨v', e, hv'⟩ := hc.single
          cases e
          exact hv'
theorem callFunc_enter {P : Program} {f : FuncId} {fn : Func} {c : Code} (hf : P.funcs[f]? = some fn) (hname : (fn.name == "runtime.NumGoroutine") = false) (hb : fn.body = some c) (args : Array Value) (w : World) :
    (callFunc f args).run P w = .ok (.enter f args) w := by
  have h1 : fn.name ≠ "runtime.NumGoroutine" := by simpa using hname
  simp [callFunc, hf, h1, hb]
theorem retQ_exit {C : Cfg} {S : Spec} {rvs : List ResultVar} {y : El S.q} {x : Els S.ps} {e : Exit} {tm : TM} {ob : OB} {n : Nat} (h : retQ C S rvs y x e tm ob n) : (e = .normal ∨ e = .ret) ∧ ∃ vs a, resV C (look tm) (look ob) rvs = some vs ∧ frsOk (look ob) S.fresh S.rs vs = true ∧ retV (look ob) S.fresh S.rs vs = some a ∧ a = (S.post y x).2 ∧ (S.ptr = true → ∃ cs, look ob 0 = some (.var cs) ∧ toE (fun _ => none) S.q cs = some (S.post y x).1) := by
  have key : ∀ {e : Exit}, (match resV C (look tm) (look ob) rvs with
    | some vs => match frsOk (look ob) S.fresh S.rs vs, retV (look ob) S.fresh S.rs vs with
      | true, some a => match S.ptr with
        | false => a = (S.post y x).2
        | true => match look ob 0 with
          | some (.var cs) => match toE (fun _ => none) S.q cs with
            | some b => (b, a) = S.post y x
            | none => False
          | _ => False
      | _, _ => False
    | none => False) → ∃ vs a, resV C (look tm) (look ob) rvs = some vs ∧ frsOk (look ob) S.fresh S.rs vs = true ∧ retV (look ob) S.fresh S.rs vs = some a ∧ a = (S.post y x).2 ∧ (S.ptr = true → ∃ cs, look ob 0 = some (.var cs) ∧ toE (fun _ => none) S.q cs = some (S.post y x).1) := by
    intro e h
    split at h
    · rename_i vs hvs
      split at h
      · rename_i a h1 h2
        refine ⟨vs, a, hvs, h1, h2, ?_⟩
        split at h
        · rename_i hp; exact ⟨h, fun e => by rw [hp] at e; cases e⟩
        · rename_i hp
          split at h
          · rename_i cs hcs
            split at h
            · rename_i b hb
              rw [← h]
              exact ⟨rfl, fun _ => ⟨cs, hcs, hb⟩⟩
            · exact h.elim
          · exact h.elim
      · exact h.elim
    · exact h.elim
  cases e with
  | normal => exact ⟨.inl rfl, key (e := .normal) h⟩
  | ret => exact ⟨.inr rfl, key (e := .ret) h⟩
  | panic c => exact h.elim
  | exit i => exact h.elim
  | goto i => exact h.elim
  | outgrown => exact h.elim
theorem RQ.mk_read {c : Cf} {w : World} {base : Nat} {O : Store} (hO : ∀ i o, O i = some o → ObOk c w i o) (hz : ∀ g, Zall c O g → c.Z g) (hn : ∀ i cs, O i ≠ some (.var cs)) : ∀ {t : Ty} {cs : List Ce} {x : El t} {vs : List Value}, toR O t cs = some x → RL c w vs cs → RQ false c.Z w base t x vs []
  | .bo, cs, x, vs, h, hv => ⟨(toE_sound hO .bo cs vs x hv h).zone hz, rfl⟩
  | .it k, cs, x, vs, h, hv => ⟨(toE_sound hO (.it k) cs vs x hv h).zone hz, rfl⟩
  | .st, cs, x, vs, h, hv => ⟨(toE_sound hO .st cs vs x hv h).zone hz, rfl⟩
  | .un, cs, x, vs, h, hv => by
    have := toE_sound hO .un cs vs x hv h
    rw [RT] at this
    exact ⟨this, rfl⟩
  | .fn, cs, x, vs, h, hv => by cases h
  | .lt t, cs, x, vs, h, hv => by
    unfold RQ
    rw [if_neg (by simp)]
    exact ⟨(toE_sound hO (.lt t) cs vs x hv h).zone hz, rfl⟩
  | .lf t, cs, x, vs, h, hv => by
    unfold RQ
    rw [if_neg (by simp)]
    exact ⟨(toE_sound hO (.lf t) cs vs x hv h).zone hz, rfl⟩
  | .oq, cs, x, vs, h, hv => ⟨(toE_sound hO .oq cs vs x hv h).zone hz, rfl⟩
  | .pt t, cs, x, vs, h, hv => by
    have h : toP O t cs = some x := h
    unfold toP at h
    split at h
    · split at h
      · rename_i hi; exact absurd hi (hn _ _)
      · cases h
    · cases h
  | .sl t, cs, x, vs, h, hv => by
    unfold RQ
    rw [if_neg (by simp)]
    exact ⟨(toE_sound hO (.sl t) cs vs x hv h).zone hz, rfl⟩
  | .pr a b, cs, x, vs, h, hv => by
    unfold toR at h
    split at h
    · rename_i y z h1 h2
      cases h
      exact ⟨_, _, [], [], (List.take_append_drop a.size vs).symm, rfl, RQ.mk_read hO hz hn h1 (hv.take _), RQ.mk_read hO hz hn h2 (hv.drop _)⟩
    · cases h
theorem RQs.mk_read {c : Cf} {w : World} {base : Nat} {O : Store} (hO : ∀ i o, O i = some o → ObOk c w i o) (hz : ∀ g, Zall c O g → c.Z g) (hn : ∀ i cs, O i ≠ some (.var cs)) : ∀ {ts : List Ty} {ps : List (Bool × List Ce)} {x : Els ts} {us : List Value}, toRs O ts ps = some x → us.length = ps.length → (∀ (i : Nat) (v : Value) (p : Bool × List Ce), us[i]? = some v → ps[i]? = some p → RP c w v p) → RQs false c.Z w base ts x us []
  | [], [], x, [], h, _, _ => rfl
  | [], [], _, _ :: _, _, h, _ => by simp at h
  | [], _ :: _, _, _, h, _, _ => by simp [toRs] at h
  | _ :: _, [], _, _, h, _, _ => by simp [toRs] at h
  | _ :: _, _ :: _, _, [], _, h, _ => by simp at h
  | t :: ts, (b, cs) :: ps, x, v :: us, k, hl, hv => by
    unfold toRs at k
    split at k
    · rename_i x1 x2 k1 k2
      cases k
      cases hb : (b == t.agg) with
      | false => simp only [hb] at k1; cases k1
      | true =>
        simp only [hb, cond_true] at k1
        have hb' : b = t.agg := by simpa using hb
        have hr := hv 0 v (b, cs) rfl rfl
        unfold RP at hr
        simp only [] at hr
        refine ⟨[], [], rfl, ?_, RQs.mk_read hO hz hn k2 (by simpa using hl) (fun i u p e1 e2 => hv (i + 1) u p (by simpa using e1) (by simpa using e2))⟩
        unfold RQv
        rw [← hb']
        split
        · rename_i h1; rw [if_pos h1] at hr; obtain ⟨us, e, h⟩ := hr; exact ⟨us, e, RQ.mk_read hO hz hn k1 h⟩
        · rename_i h1; rw [if_neg h1] at hr; obtain ⟨z, rfl, h⟩ := hr; exact RQ.mk_read hO hz hn k1 (RL.one h)
    · cases k
theorem fnOk_of {P : Program} {C : Cfg} {S : Spec} {f : Nat} {fn : Func} {code : Code} (iv : El S.q → Els S.ps → Nat → Option Inv) (hf : P.funcs[f]? = some fn) (hb : fn.body = some code) (hname : (fn.name == "runtime.NumGoroutine") = false) (hT : tyB P C.ty C.ty = true) (hP : ∀ f p, look C.pr f = some p → PrimOk P f p) (hm : P.follows .mixedOrders = true) (hN : C.N ≤ fn.ntmps) (hh : C.hp = S.ptr)
    (h : ∀ y x, (S.ptr = false → y = dfl S.q) → wfE S.q y → wfEs S.ps x → holds (S.pre y x) → aw C (iv y x) code 0 (retQ C S fn.results.toList y x) (startT S x) (startO S y) 1) : FnOk P f S := by
  refine ⟨callFunc_enter hf hname hb, fun Z w gv vs y x hZ hv hc hp1 hp2 => ?_⟩
  let gp : Option Nat := if S.ptr = true then some gv else none
  let c : Cf := ⟨fun i => if i = 0 ∧ S.ptr = true then some ⟨some gv, 0, 0, []⟩ else none, Z⟩
  refine calls_of_wp hf hb ?_
  obtain ⟨tm, htm⟩ : ∃ tm, tm = (if S.ptr = true then (.pointer (some ⟨gv, 0, none⟩) :: vs).toArray else vs.toArray) ++ Array.replicate (fn.ntmps - (if S.ptr = true then (.pointer (some ⟨gv, 0, none⟩) :: vs).toArray else vs.toArray).size) undef := ⟨_, rfl⟩
  rw [← htm]
  have hsz : C.N ≤ tm.size := by rw [htm, Array.size_append, Array.size_replicate]; omega
  have wq : wfE S.q y := by
    cases hp : S.ptr with
    | true => obtain ⟨_, _, _, _, hr⟩ := hp1 hp; exact hr.wf
    | false =>
      rw [hp2 hp]
      have : S.q = .un := by
        unfold Spec.ptr at hp
        split at hp
        · assumption
        · cases hp
      rw [this]
      trivial
  have S0 : Sim gp Z (Base.of w) C.N (fun i => i < 1) c (look (startT S x)) (look (startO S y)) tm w := by
    cases hp : S.ptr with
    | false =>
      have hT0 : startT S x = argT 0 S.ps x := by unfold startT; rw [hp]
      have hO0 : startO S y = [] := by unfold startO; rw [hp]
      have hm0 : ∀ i, c.m i = none := fun i => if_neg (fun h => by rw [hp] at h; cases h.2)
      rw [hT0, hO0]
      refine ⟨fun t v ht => (argT_sound (c := c) (w := w) (n := 0) (tm := tm) hv (fun i v hi => ?_) t v ht).2, fun i o h => (by cases h), fun i j o p e f g h => (by cases h), fun i o e g h => (by cases h), hZ.lt, fun i o e g h => (by cases h), fun i e h => (by rw [hm0] at h; cases h), World.grownBy.refl w _, fun g h => .inl h, hsz, fun k hk => ?_, fun g h => h, hZ.gl⟩
      · rw [htm, hp, if_neg (by simp), Nat.zero_add, Array.getElem?_append_left (by simpa using (List.getElem?_eq_some_iff.1 hi).1)]
        simpa using hi
      · have : gp = none := if_neg (by simp [hp])
        rw [this] at hk; cases hk
    | true =>
      have hT0 : startT S x = (0, .c (.pv 0 0)) :: argT 1 S.ps x := by unfold startT; rw [hp]
      have hO0 : startO S y = [(0, .var (cel S.q y))] := by unfold startO; rw [hp]
      have hm0 : c.m 0 = some ⟨some gv, 0, 0, []⟩ := if_pos ⟨rfl, hp⟩
      have hm1 : ∀ i e, c.m i = some e → i = 0 ∧ e = ⟨some gv, 0, 0, []⟩ := fun i e h => by
        have h' : (if i = 0 ∧ S.ptr = true then some (⟨some gv, 0, 0, []⟩ : Ent) else none) = some e := h
        split at h'
        · rename_i h0; cases h'; exact ⟨h0.1, rfl⟩
        · cases h'
      obtain ⟨hz, cells, et, q1, q2⟩ := hp1 hp
      have hgp : gp = some gv := if_pos hp
      have lk : ∀ i o, look (startO S y) i = some o → i = 0 ∧ o = .var (cel S.q y) := fun i o h => by
        rw [hO0, look_one] at h
        split at h
        · rename_i h0; cases h; exact ⟨h0, rfl⟩
        · cases h
      refine ⟨fun t v ht => ?_, fun i o h => ?_, fun i j o p e f g h1 h2 _ _ h3 => absurd ((lk i o h1).1.trans (lk j p h2).1.symm) h3, fun i o e g h1 h2 h3 h4 => ?_, hZ.lt, fun i o e g h1 h2 h3 h4 => ?_, fun i e h => by rw [(hm1 i e h).1]; exact Nat.lt_succ_self 0, World.grownBy.refl w _, fun g h => .inl h, hsz, fun k hk => ?_, fun g h => h, hZ.gl⟩
      · rw [hT0] at ht
        have htm' : tm = (.pointer (some ⟨gv, 0, none⟩) :: vs).toArray ++ Array.replicate (fn.ntmps - (.pointer (some ⟨gv, 0, none⟩) :: vs).toArray.size) undef := by rw [htm, if_pos hp]
        have at_ : ∀ i v, (Value.pointer (some ⟨gv, 0, none⟩) :: vs)[i]? = some v → tm[i]? = some v := fun i v hi => by
          rw [htm', Array.getElem?_append_left (by simpa using (List.getElem?_eq_some_iff.1 hi).1)]
          simpa using hi
        unfold look at ht
        cases hb0 : Nat.beq 0 t with
        | true =>
          rw [hb0] at ht
          have h0 := Nat.eq_of_beq_eq_true hb0
          subst h0
          cases ht
          exact ⟨_, at_ 0 _ rfl, _, gv, hm0, rfl, rfl⟩
        | false =>
          rw [hb0] at ht
          exact (argT_sound (c := c) (w := w) (n := 1) (tm := tm) hv (fun i v hi => at_ (1 + i) v (by rw [Nat.add_comm]; simpa using hi)) t v ht).2
      · obtain ⟨rfl, rfl⟩ := lk i o h
        exact ⟨_, gv, cells, et, hm0, rfl, rfl, q1, q2.cel⟩
      · obtain ⟨_, rfl⟩ := hm1 i e h3
        have h4 : some gv = some g := (Ent.has_one rfl).1 h4
        cases h4
        exact hz
      · obtain ⟨_, rfl⟩ := hm1 i e h3
        have h4 : some gv = some g := (Ent.has_one rfl).1 h4
        exact .inr (hgp.trans h4)
      · rw [hgp] at hk
        cases hk
        exact ⟨_, _, by rw [hO0]; rfl, hm0, rfl⟩
  have hgp : gp ≠ none → C.hp = true := fun hne => by
    rw [hh]
    cases hp : S.ptr with
    | true => rfl
    | false => exact absurd (if_neg (by simp [hp])) hne
  refine wp_mono (aw_sound (a := { tmps := tm, defers := [] }) hT hP hm hgp code (h y x hp2 wq hv.wf hc) S0 rfl) ?_
  rintro e a' w' ⟨hd', tm', ob', n', c', S1, hq⟩
  obtain ⟨he, ps, r, r1, r2, r3, r4, r5⟩ := retQ_exit hq
  obtain ⟨us, u1, u2, u3⟩ := resV_run hT S1 r1
  obtain ⟨v, v1, v2⟩ := results_run (fn := fn) (a := a') u1
  have fin : ∃ us bs Z', told_ us v ∧ RQs S.fresh Z' w' w.heap.size S.rs (S.post y x).2 us bs ∧ bs.Nodup ∧ (∀ g ∈ bs, ¬ Z' g) ∧
      (∀ g, Z g → Z' g) ∧ (∀ g, Z' g → Z g ∨ w.heap.size ≤ g) ∧ (∀ g, Z' g → g < w'.heap.size) ∧ w.grownBy w' (if S.ptr = true then some gv else none) ∧
      (S.ptr = true → ∃ cells et, w'.heap[gv]? = some (.cells cells et (0, 0)) ∧ RT Z' w' S.q (S.post y x).1 cells.toList) := by
    have last : ∀ {c2 : Cf} {O2 : Store}, Sim gp Z (Base.of w) C.N (fun i => i < n') c2 (look tm') O2 a'.tmps w' → (∀ cs, look ob' 0 = some (.var cs) → O2 0 = some (.var cs)) → (S.ptr = true → ∃ cells et, w'.heap[gv]? = some (.cells cells et (0, 0)) ∧ RT c2.Z w' S.q (S.post y x).1 cells.toList) := fun {c2 O2} S2 hO2 hp => by
      obtain ⟨cs, h1, h2⟩ := r5 hp
      obtain ⟨cs', e, k1, k2, k3⟩ := S2.gpv gv (if_pos hp)
      rw [hO2 cs h1] at k1
      cases k1
      obtain ⟨e', g', cells, et, l1, l2, _, l3, l4⟩ := S2.obj 0 _ (hO2 cs h1)
      rw [k2] at l1; cases l1
      rw [k3] at l2; cases l2
      exact ⟨cells, et, l3, (toE_sound (O := fun _ => none) (fun i o h => by cases h) S.q cs _ _ l4 h2).zone (fun g hg => by
        rcases hg with hg | ⟨_, _, _, h, _⟩
        · exact hg
        · cases h)⟩
    cases hfr : S.fresh with
    | true =>
      rw [hfr] at r2 r3
      unfold frsOk at r2
      simp only [cond_true] at r2
      split at r2
      · rename_i l hl
        have r3' : toRs (look ob') S.rs ps = some r := r3
        obtain ⟨q1, q2⟩ := frsEs_sound S1 hl r3' u2 u3
        rw [r4] at q1
        refine ⟨us, blks c' l, c'.Z, v2, q1, blks_nodup S1 (nodupN_sound r2) q2, fun g hg hz => ?_, S1.z0, S1.zz, S1.zl, S1.gr, last S1 (fun _ h => h)⟩
        obtain ⟨i, e, hi, e1, e2⟩ := blks_mem hg
        obtain ⟨o, o1, o2⟩ := q2 i hi
        exact S1.zo i o e g o1 o2 e1 e2 hz
      · cases r2
    | false =>
      rw [hfr] at r3
      unfold retV at r3
      simp only [] at r3
      split at r3
      · rename_i fz hfz
        have hfz' := fz_look (O := look ob') (fun _ _ h => h) (frz_sound hfz)
        obtain ⟨c2, le2, m2, S2⟩ := S1.freeze hfz'
        obtain ⟨z1, z2⟩ := onlyFz_zone (fun _ _ h => h) hfz' S2
        have q := RQs.mk_read (base := w.heap.size) z1 z2 (fun i cs h => by
          unfold onlyFz at h
          cases hl : look fz i with
          | some p =>
            rw [hl] at h
            cases h
            obtain ⟨_, _, _, e⟩ := (hfz' i _ hl).fz
            cases e
          | none =>
            rw [hl] at h
            simp only [] at h
            split at h <;> cases h) r3 u2 (fun i v p e1 e2 => (u3 i v p e1 e2).mono le2 (Stay.refl _ _))
        rw [r4] at q
        refine ⟨us, [], c2.Z, v2, q, List.nodup_nil, fun g hg => by simp at hg, S2.z0, S2.zz, S2.zl, S2.gr, last S2 (fun cs h => ?_)⟩
        unfold upO
        cases hl : look fz 0 with
        | none => exact h
        | some p =>
          obtain ⟨o, e, _, e2⟩ := (hfz' 0 _ hl).some
          have e : look ob' 0 = some o := e
          rw [h] at e; cases e
          exact absurd rfl (e2 cs)
      · cases r3
  obtain ⟨us, bs, Z', k1, k⟩ := fin
  rcases he with rfl | rfl
  · exact ⟨hd', v, v1, v, us, bs, Z', rfl, k1, k⟩
  · exact ⟨hd', v, v1, v, us, bs, Z', rfl, k1, k⟩
end Go.Proofs.YtjoonfegjobgbaaGreatDoor
namespace Go.Proofs.YtjoonfegjobgbaaGreatDoor
structure Fr where
  neg : Bool
  num : List Int
  den : List Int
  deriving DecidableEq
def Fr.zero : Fr := ⟨false, [], []⟩
structure Fr.Wf (a : Fr) : Prop where
  num : Go.Proofs.YtjoonfegjobgbaaGreatDoor.Wf a.num
  den : Go.Proofs.YtjoonfegjobgbaaGreatDoor.Wf a.den
def enc (q : Rat) : Fr := ⟨decide (q.num < 0), wd q.num.natAbs, wd q.den⟩
def lng (q : Rat) : Bool := decide (2048 < (wd q.num.natAbs).length ∨ 2048 < (wd q.den).length)
def tell (q : Rat) : Fr × Int := if lng q = true then (Fr.zero, 3) else (enc q, 0)
def sg (neg : Bool) (m : Nat) : Int := if neg = true then -(m : Int) else m
def Fr.q (a : Fr) : Rat := mkRat (sg a.neg (val a.num).toNat) (val a.den).toNat
def fchk (a : Fr) : Int :=
  if 2048 < a.num.length then 3 else if 2048 < a.den.length then 3 else if chk a.num ≠ 0 then 11 else if chk a.den ≠ 0 then 11 else if a.den.length = 0 then 11
  else if a.num.length = 0 ∧ a.neg = true then 11 else if Nat.gcd (val a.num).toNat (val a.den).toNat ≠ 1 then 11 else 0
theorem enc_wf (q : Rat) : (enc q).Wf := ⟨wf_wd _, wf_wd _⟩
theorem Fr.zero_wf : Fr.zero.Wf := ⟨wf_nil, wf_nil⟩
theorem sg_natAbs (b : Bool) (m : Nat) : (sg b m).natAbs = m := by unfold sg; split <;> omega
theorem sg_num (q : Rat) : sg (decide (q.num < 0)) q.num.natAbs = q.num := by
  unfold sg
  by_cases h : q.num < 0
  · rw [if_pos (decide_eq_true h)]; omega
  · rw [if_neg (by simpa using h)]; omega
theorem sg_zero (b : Bool) : sg b 0 = 0 := by unfold sg; split <;> omega
theorem dec_enc (q : Rat) : (enc q).q = q := by
  unfold Fr.q enc
  simp only [val_wd, Int.toNat_natCast, sg_num]
  exact Rat.mkRat_self q
theorem enc_mk (b : Bool) (m n : Nat) (hn : n ≠ 0) : enc (mkRat (sg b m) n) = ⟨b && decide (m ≠ 0), wd (m / Nat.gcd m n), wd (n / Nat.gcd m n)⟩ := by
  have hg : 0 < Nat.gcd m n := Nat.gcd_pos_of_pos_right m (by omega)
  have hden : (mkRat (sg b m) n).den = n / Nat.gcd m n := by rw [Rat.den_mkRat, if_neg hn, sg_natAbs, Nat.gcd_comm]
  have hnum : (mkRat (sg b m) n).num = sg b (m / Nat.gcd m n) := by
    rw [Rat.num_mkRat, if_neg hn, sg_natAbs, Nat.gcd_comm n m]
    unfold sg
    split
    · rw [Int.neg_ediv_of_dvd (Int.natCast_dvd_natCast.2 (Nat.gcd_dvd_left m n)), Int.natCast_ediv]
    · rw [Int.natCast_ediv]
  have hz : m / Nat.gcd m n = 0 ↔ m = 0 := by
    constructor
    · intro h
      have := Nat.div_mul_cancel (Nat.gcd_dvd_left m n)
      rw [h, Nat.zero_mul] at this
      exact this.symm
    · intro h; rw [h, Nat.zero_div]
  unfold enc
  rw [hden, hnum, sg_natAbs]
  congr 1
  generalize m / Nat.gcd m n = t at hz
  unfold sg
  cases b with
  | false => rw [if_neg (by simp), decide_eq_false (by omega)]; rfl
  | true =>
    rw [if_pos rfl, Bool.true_and]
    by_cases hm : m = 0
    · have := hz.2 hm
      rw [decide_eq_false (by omega), decide_eq_false (by omega)]
    · have := mt hz.1 hm
      rw [decide_eq_true (by omega), decide_eq_true (by omega)]
theorem not_lng {q : Rat} (h : ¬ lng q = true) : (wd q.num.natAbs).length ≤ 2048 ∧ (wd q.den).length ≤ 2048 := by
  unfold lng at h
  simp at h
  omega
theorem lng_of {q : Rat} (h1 : (wd q.num.natAbs).length ≤ 2048) (h2 : (wd q.den).length ≤ 2048) : ¬ lng q = true := by
  unfold lng
  simp
  omega
theorem gcd_enc (q : Rat) : Nat.gcd q.num.natAbs q.den = 1 := q.reduced
theorem fchk_enc (q : Rat) (h : ¬ lng q = true) : fchk (enc q) = 0 := by
  obtain ⟨h1, h2⟩ := not_lng h
  have e1 : (enc q).num = wd q.num.natAbs := rfl
  have e2 : (enc q).den = wd q.den := rfl
  have e3 : (enc q).neg = decide (q.num < 0) := rfl
  unfold fchk
  rw [e1, e2, e3, if_neg (by omega), if_neg (by omega), if_neg (by rw [chk_wd _ (by omega)]; simp), if_neg (by rw [chk_wd _ (by omega)]; simp), if_neg (fun e => q.den_nz (wd_len_zero.1 e)), if_neg, if_neg]
  · rw [val_wd, val_wd, Int.toNat_natCast, Int.toNat_natCast, gcd_enc]; simp
  · rintro ⟨e1, e2⟩
    have := wd_len_zero.1 e1
    have := of_decide_eq_true e2
    omega
theorem chk_ok {xs : List Int} (hw : Wf xs) (h : chk xs = 0) : xs = wd (val xs).toNat ∧ xs.length ≤ 8192 := by
  unfold chk at h
  by_cases h1 : 8192 < xs.length
  · rw [if_pos h1] at h; omega
  · rw [if_neg h1] at h
    refine ⟨(wd_val hw fun hne => ?_).symm, by omega⟩
    by_cases h2 : xs ≠ [] ∧ nth xs (xs.length - 1) = 0
    · rw [if_pos h2] at h; omega
    · exact fun e => h2 ⟨hne, e⟩
theorem fchk_ok {a : Fr} (hw : a.Wf) (h : fchk a = 0) : ∃ q, a = enc q ∧ ¬ lng q = true := by
  unfold fchk at h
  by_cases h1 : 2048 < a.num.length
  · rw [if_pos h1] at h; omega
  rw [if_neg h1] at h
  by_cases h2 : 2048 < a.den.length
  · rw [if_pos h2] at h; omega
  rw [if_neg h2] at h
  by_cases h3 : chk a.num ≠ 0
  · rw [if_pos h3] at h; omega
  rw [if_neg h3] at h
  by_cases h4 : chk a.den ≠ 0
  · rw [if_pos h4] at h; omega
  rw [if_neg h4] at h
  by_cases h5 : a.den.length = 0
  · rw [if_pos h5] at h; omega
  rw [if_neg h5] at h
  by_cases h6 : a.num.length = 0 ∧ a.neg = true
  · rw [if_pos h6] at h; omega
  rw [if_neg h6] at h
  by_cases h7 : Nat.gcd (val a.num).toNat (val a.den).toNat ≠ 1
  · rw [if_pos h7] at h; omega
  have hg : Nat.gcd (val a.num).toNat (val a.den).toNat = 1 := by omega
  obtain ⟨e1, l1⟩ := chk_ok hw.num (by omega)
  obtain ⟨e2, l2⟩ := chk_ok hw.den (by omega)
  have hd : (val a.den).toNat ≠ 0 := fun e => h5 (by rw [e2, e, wd_zero]; rfl)
  have he : enc (mkRat (sg a.neg (val a.num).toNat) (val a.den).toNat) = a := by
    rw [enc_mk _ _ _ hd, hg, Nat.div_one, Nat.div_one, ← e1, ← e2]
    have : (a.neg && decide ((val a.num).toNat ≠ 0)) = a.neg := by
      cases hn : a.neg with
      | false => rfl
      | true =>
        have : (val a.num).toNat ≠ 0 := fun e => h6 ⟨by rw [e1, e, wd_zero]; rfl, hn⟩
        simp [this]
    rw [this]
  refine ⟨_, he.symm, lng_of ?_ ?_⟩
  · have := congrArg (·.num.length) he
    simp only [enc] at this
    omega
  · have := congrArg (·.den.length) he
    simp only [enc] at this
    omega
def both (a b : Fr) (r : Rat → Rat → Fr × Int) : Fr × Int := if fchk a ≠ 0 then (Fr.zero, fchk a) else if fchk b ≠ 0 then (Fr.zero, fchk b) else r a.q b.q
def fadd (a b : Fr) : Fr × Int := both a b fun p q => tell (p + q)
def fsub (a b : Fr) : Fr × Int := both a b fun p q => tell (p - q)
def fmul (a b : Fr) : Fr × Int := both a b fun p q => tell (p * q)
def fquo (a b : Fr) : Fr × Int := both a b fun p q => if q = 0 then (Fr.zero, 7) else tell (p / q)
def fneg (a : Fr) : Fr × Int := if fchk a ≠ 0 then (Fr.zero, fchk a) else (enc (-a.q), 0)
theorem both_left {a b : Fr} {r} (h : fchk a ≠ 0) : both a b r = (Fr.zero, fchk a) := if_pos h
theorem both_right {a b : Fr} {r} (h : fchk a = 0) (k : fchk b ≠ 0) : both a b r = (Fr.zero, fchk b) := by unfold both; rw [if_neg (by omega), if_pos k]
theorem both_ok {p q : Rat} {r} (h : ¬ lng p = true) (k : ¬ lng q = true) : both (enc p) (enc q) r = r p q := by
  unfold both
  rw [if_neg (by rw [fchk_enc p h]; simp), if_neg (by rw [fchk_enc q k]; simp), dec_enc, dec_enc]
theorem tell_wf (q : Rat) : (tell q).1.Wf := by unfold tell; split; exact Fr.zero_wf; exact enc_wf q
theorem add_same (p q : Rat) (h : decide (p.num < 0) = decide (q.num < 0)) :
    mkRat (sg (decide (p.num < 0)) (p.num.natAbs * q.den + q.num.natAbs * p.den)) (p.den * q.den) = p + q := by
  rw [Rat.add_def']
  congr 1
  unfold sg
  by_cases hp : p.num < 0
  · have hq : q.num < 0 := by rw [decide_eq_true hp] at h; exact of_decide_eq_true h.symm
    rw [if_pos (decide_eq_true hp), Int.natCast_add, Int.natCast_mul, Int.natCast_mul, Int.ofNat_natAbs_of_nonpos (by omega), Int.ofNat_natAbs_of_nonpos (by omega), Int.neg_mul, Int.neg_mul]
    omega
  · have hq : ¬ q.num < 0 := by rw [decide_eq_false hp] at h; exact of_decide_eq_false h.symm
    rw [if_neg (by simpa using hp), Int.natCast_add, Int.natCast_mul, Int.natCast_mul, Int.natAbs_of_nonneg (by omega), Int.natAbs_of_nonneg (by omega)]
theorem add_less (p q : Rat) (h : decide (p.num < 0) ≠ decide (q.num < 0)) (hl : p.num.natAbs * q.den < q.num.natAbs * p.den) :
    mkRat (sg (decide (q.num < 0)) (q.num.natAbs * p.den - p.num.natAbs * q.den)) (p.den * q.den) = p + q := by
  rw [Rat.add_def']
  congr 1
  unfold sg
  rw [Int.natCast_sub (by omega), Int.natCast_mul, Int.natCast_mul]
  by_cases hq : q.num < 0
  · have hp : ¬ p.num < 0 := fun hp => h (by rw [decide_eq_true hp, decide_eq_true hq])
    rw [if_pos (decide_eq_true hq), Int.ofNat_natAbs_of_nonpos (a := q.num) (by omega), Int.natAbs_of_nonneg (a := p.num) (by omega), Int.neg_mul]
    omega
  · have hp : p.num < 0 := by
      rcases Int.lt_or_le p.num 0 with hp | hp
      · exact hp
      · exact absurd (by rw [decide_eq_false (show ¬ p.num < 0 by omega), decide_eq_false hq]) h
    rw [if_neg (by simpa using hq), Int.natAbs_of_nonneg (a := q.num) (by omega), Int.ofNat_natAbs_of_nonpos (a := p.num) (by omega), Int.neg_mul]
    omega
theorem add_more (p q : Rat) (h : decide (p.num < 0) ≠ decide (q.num < 0)) (hl : q.num.natAbs * p.den ≤ p.num.natAbs * q.den) :
    mkRat (sg (decide (p.num < 0)) (p.num.natAbs * q.den - q.num.natAbs * p.den)) (p.den * q.den) = p + q := by
  rw [Rat.add_def']
  congr 1
  unfold sg
  rw [Int.natCast_sub hl, Int.natCast_mul, Int.natCast_mul]
  by_cases hp : p.num < 0
  · have hq : ¬ q.num < 0 := fun hq => h (by rw [decide_eq_true hp, decide_eq_true hq])
    rw [if_pos (decide_eq_true hp), Int.ofNat_natAbs_of_nonpos (a := p.num) (by omega), Int.natAbs_of_nonneg (a := q.num) (by omega), Int.neg_mul]
    omega
  · have hq : q.num < 0 := by
      rcases Int.lt_or_le q.num 0 with hq | hq
      · exact hq
      · exact absurd (by rw [decide_eq_false (show ¬ q.num < 0 by omega), decide_eq_false hp]) h
    rw [if_neg (by simpa using hp), Int.natAbs_of_nonneg (a := p.num) (by omega), Int.ofNat_natAbs_of_nonpos (a := q.num) (by omega), Int.neg_mul]
    omega
theorem sg_mul (a b : Bool) (m n : Nat) : sg (a != b) (m * n) = sg a m * sg b n := by
  unfold sg
  cases a <;> cases b <;> simp [Int.natCast_mul, Int.neg_mul, Int.mul_neg]
theorem mul_made (p q : Rat) : mkRat (sg (decide (p.num < 0) != decide (q.num < 0)) (p.num.natAbs * q.num.natAbs)) (p.den * q.den) = p * q := by
  rw [Rat.mul_def', sg_mul, sg_num, sg_num]
theorem quo_made (p q : Rat) (hq : q ≠ 0) : mkRat (sg (decide (p.num < 0) != decide (q.num < 0)) (p.num.natAbs * q.den)) (p.den * q.num.natAbs) = p / q := by
  rw [Rat.div_def, Rat.mul_def', Rat.num_inv, Rat.den_inv]
  have hn : q.num ≠ 0 := fun e => hq (Rat.num_eq_zero.1 e)
  rw [if_neg hn]
  congr 1
  rw [sg_mul, sg_num]
  congr 1
  unfold sg
  by_cases h : q.num < 0
  · rw [if_pos (decide_eq_true h), Int.sign_eq_neg_one_of_neg h]; omega
  · rw [if_neg (by simpa using h), Int.sign_eq_one_of_pos (by omega)]; omega
theorem enc_neg (q : Rat) : enc (-q) = ⟨!(decide (q.num < 0)) && decide (0 < (wd q.num.natAbs).length), wd q.num.natAbs, wd q.den⟩ := by
  unfold enc
  rw [Rat.neg_num, Rat.neg_den, Int.natAbs_neg]
  congr 1
  by_cases h : q.num < 0
  · rw [decide_eq_true h, decide_eq_false (by omega)]; rfl
  · rw [decide_eq_false h]
    by_cases h0 : q.num = 0
    · rw [h0]; rw [show Int.natAbs 0 = 0 from rfl, wd_zero]; rfl
    · have hl : 0 < (wd q.num.natAbs).length := by
        have : (wd q.num.natAbs).length ≠ 0 := fun e => by have := wd_len_zero.1 e; omega
        omega
      rw [decide_eq_true hl, decide_eq_true (by omega)]; rfl
theorem enc_zero : enc 0 = ⟨false, [], [1]⟩ := by
  unfold enc
  have h1 : wd 1 = [1] := by rw [wd_pos 1 (by omega)]; rw [show 1 / 4294967296 = 0 from rfl, wd_zero]; rfl
  rw [Rat.zero_num, Rat.zero_den, show Int.natAbs 0 = 0 from rfl, wd_zero, h1]
  rfl
theorem wd_one : wd 1 = [1] := by rw [wd_pos 1 (by omega)]; rw [show 1 / 4294967296 = 0 from rfl, wd_zero]; rfl
def fchk2 (a b : Fr) : Int := if fchk a ≠ 0 then fchk a else fchk b
def fsign (a : Fr) : Int := if fchk a ≠ 0 then 0 else if a.num.length = 0 then 0 else if a.neg = true then -1 else 1
theorem fchk2_ok {a b : Fr} (ha : a.Wf) (hb : b.Wf) (h : fchk2 a b = 0) : ∃ p q, a = enc p ∧ b = enc q ∧ ¬ lng p = true ∧ ¬ lng q = true := by
  unfold fchk2 at h
  by_cases h1 : fchk a ≠ 0
  · rw [if_pos h1] at h; exact absurd h h1
  · rw [if_neg h1] at h
    obtain ⟨p, hp, lp⟩ := fchk_ok ha (by omega)
    obtain ⟨q, hq, lq⟩ := fchk_ok hb h
    exact ⟨p, q, hp, hq, lp, lq⟩
theorem both_bad {a b : Fr} {r} (h : fchk2 a b ≠ 0) : both a b r = (Fr.zero, fchk2 a b) := by
  unfold fchk2 at h ⊢
  by_cases h1 : fchk a ≠ 0
  · rw [if_pos h1, both_left h1]
  · rw [if_neg h1] at h ⊢; exact both_right (by omega) h
structure Ga where
  re : Fr
  im : Fr
  deriving DecidableEq
def Ga.zero : Ga := ⟨Fr.zero, Fr.zero⟩
structure Ga.Wf (a : Ga) : Prop where
  re : a.re.Wf
  im : a.im.Wf
def gchk (a : Ga) : Int := fchk2 a.re a.im
def gchk2 (a b : Ga) : Int := if gchk a ≠ 0 then gchk a else gchk b
def stp (e : Int) (t : Fr × Int) : Fr × Int := if e ≠ 0 then (Fr.zero, e) else t
def gtell (e : Int) (r i : Fr) : Ga × Int := if e ≠ 0 then (Ga.zero, e) else (⟨r, i⟩, 0)
def wadd (e : Int) (a b : Fr) : Fr × Int := stp e (fadd a b)
def wsub (e : Int) (a b : Fr) : Fr × Int := stp e (fsub a b)
def wmul (e : Int) (a b : Fr) : Fr × Int := stp e (fmul a b)
def wquo (e : Int) (a b : Fr) : Fr × Int := stp e (fquo a b)
def wprod (e : Int) (a b : Ga) : Fr × Fr × Int :=
  let x := wmul e a.re b.re
  let y := wmul x.2 a.im b.im
  let r := wsub y.2 x.1 y.1
  let u := wmul r.2 a.re b.im
  let v := wmul u.2 a.im b.re
  let i := wadd v.2 u.1 v.1
  (r.1, i.1, i.2)
def wnorm (e : Int) (a : Ga) : Fr × Int :=
  let x := wmul e a.re a.re
  let y := wmul x.2 a.im a.im
  wadd y.2 x.1 y.1
def gadd (a b : Ga) : Ga × Int :=
  let r := wadd (gchk2 a b) a.re b.re
  let i := wadd r.2 a.im b.im
  gtell i.2 r.1 i.1
def gmul (a b : Ga) : Ga × Int :=
  let p := wprod (gchk2 a b) a b
  gtell p.2.2 p.1 p.2.1
def gzero (a : Ga) : Bool := decide (gchk a = 0 ∧ a.re.num.length = 0 ∧ a.im.num.length = 0)
def gquo (a b : Ga) : Ga × Int :=
  let e := if gchk2 a b ≠ 0 then gchk2 a b else if gzero b = true then 7 else 0
  let n := wnorm e b
  let p := wprod n.2 a ⟨b.re, (fneg b.im).1⟩
  let r := wquo p.2.2 p.1 n.1
  let i := wquo r.2 p.2.1 n.1
  gtell i.2 r.1 i.1
def gscale (s : Fr) (a : Ga) : Ga × Int :=
  let r := wmul (if fchk s ≠ 0 then fchk s else gchk a) s a.re
  let i := wmul r.2 s a.im
  gtell i.2 r.1 i.1
def gconj (a : Ga) : Ga × Int := if gchk a ≠ 0 then (Ga.zero, gchk a) else (⟨a.re, (fneg a.im).1⟩, 0)
def gnorm (a : Ga) : Fr × Int :=
  let n := wnorm (gchk a) a
  if n.2 ≠ 0 then (Fr.zero, n.2) else n
def gsame (a b : Ga) : Bool := decide (gchk2 a b = 0 ∧ a = b)
theorem stp_ok {t : Fr × Int} : stp 0 t = t := if_neg (by simp)
def Good (t : Fr × Int) : Prop := (t.2 = 0 → ∃ q, t.1 = enc q ∧ ¬ lng q = true) ∧ (t.2 ≠ 0 → t.1 = Fr.zero)
theorem tell_good (q : Rat) : Good (tell q) := by
  unfold tell
  by_cases h : lng q = true
  · rw [if_pos h]; exact ⟨fun e => by simp at e, fun _ => rfl⟩
  · rw [if_neg h]; exact ⟨fun _ => ⟨q, rfl, h⟩, fun e => absurd rfl e⟩
theorem both_goodP {a b : Fr} {r} (h : ∀ p q, Good (r p q)) : Good (both a b r) := by
  unfold both
  by_cases h1 : fchk a ≠ 0
  · rw [if_pos h1]; exact ⟨fun e => absurd e h1, fun _ => rfl⟩
  · rw [if_neg h1]
    by_cases h2 : fchk b ≠ 0
    · rw [if_pos h2]; exact ⟨fun e => absurd e h2, fun _ => rfl⟩
    · rw [if_neg h2]; exact h _ _
theorem fadd_good (a b : Fr) : Good (fadd a b) := both_goodP fun _ _ => tell_good _
theorem fsub_good (a b : Fr) : Good (fsub a b) := both_goodP fun _ _ => tell_good _
theorem fmul_good (a b : Fr) : Good (fmul a b) := both_goodP fun _ _ => tell_good _
theorem fquo_good (a b : Fr) : Good (fquo a b) := both_goodP fun _ q => by
  by_cases h : q = 0
  · simp only [if_pos h]; exact ⟨fun e => by simp at e, fun _ => rfl⟩
  · simp only [if_neg h]; exact tell_good _
theorem Good.wf {t : Fr × Int} (h : Good t) : t.1.Wf := by
  by_cases e : t.2 = 0
  · obtain ⟨q, hq, _⟩ := h.1 e; rw [hq]; exact enc_wf q
  · rw [h.2 e]; exact Fr.zero_wf
theorem stp_good {e : Int} {t : Fr × Int} (h : Good t) : Good (stp e t) := by
  unfold stp
  by_cases h1 : e ≠ 0
  · rw [if_pos h1]; exact ⟨fun e2 => absurd e2 h1, fun _ => rfl⟩
  · rw [if_neg h1]; exact h
theorem gchk_bad1 {a : Ga} (h : fchk a.re ≠ 0) : gchk a = fchk a.re := if_pos h
theorem gchk_bad2 {a : Ga} (h : fchk a.re = 0) : gchk a = fchk a.im := if_neg (by omega)
theorem gchk2_bad1 {a b : Ga} (h : gchk a ≠ 0) : gchk2 a b = gchk a := if_pos h
theorem gchk2_bad2 {a b : Ga} (h : gchk a = 0) : gchk2 a b = gchk b := if_neg (by omega)
theorem gchk2_zero {a b : Ga} (h : gchk2 a b = 0) : gchk a = 0 ∧ gchk b = 0 := by
  by_cases h1 : gchk a ≠ 0
  · rw [gchk2_bad1 h1] at h; exact absurd h h1
  · have h2 : gchk a = 0 := by simpa using h1
    rw [gchk2_bad2 h2] at h; exact ⟨h2, h⟩
theorem gchk2_mk {a b : Ga} (h : gchk a = 0) (k : gchk b = 0) : gchk2 a b = 0 := by rw [gchk2_bad2 h, k]
theorem gchk_zero {a : Ga} (h : gchk a = 0) : fchk a.re = 0 ∧ fchk a.im = 0 := by
  by_cases h1 : fchk a.re ≠ 0
  · rw [gchk_bad1 h1] at h; exact absurd h h1
  · have h2 : fchk a.re = 0 := by simpa using h1
    rw [gchk_bad2 h2] at h; exact ⟨h2, h⟩
theorem gchk_mk {a : Ga} (h : fchk a.re = 0) (k : fchk a.im = 0) : gchk a = 0 := by rw [gchk_bad2 h, k]
theorem gchk_enc {p q : Rat} (h : ¬ lng p = true) (k : ¬ lng q = true) : gchk ⟨enc p, enc q⟩ = 0 := gchk_mk (fchk_enc p h) (fchk_enc q k)
theorem gchk_ok {a : Ga} (wa : a.Wf) (h : gchk a = 0) : ∃ p q, a = ⟨enc p, enc q⟩ ∧ ¬ lng p = true ∧ ¬ lng q = true := by
  obtain ⟨h1, h2⟩ := gchk_zero h
  obtain ⟨p, e, lp⟩ := fchk_ok wa.re h1
  obtain ⟨q, f, lq⟩ := fchk_ok wa.im h2
  exact ⟨p, q, by rw [← e, ← f], lp, lq⟩
def wpair (e : Int) (a b c d : Fr) (less : Bool) : Fr × Int :=
  let x := wmul e a b
  let y := wmul x.2 c d
  if less then wsub y.2 x.1 y.1 else wadd y.2 x.1 y.1
theorem wprod_pair (e : Int) (a b : Ga) : wprod e a b = ((wpair e a.re b.re a.im b.im true).1, (wpair (wpair e a.re b.re a.im b.im true).2 a.re b.im a.im b.re false).1, (wpair (wpair e a.re b.re a.im b.im true).2 a.re b.im a.im b.re false).2) := rfl
theorem wnorm_pair (e : Int) (a : Ga) : wnorm e a = wpair e a.re a.re a.im a.im false := rfl
theorem wpair_3 {a b c d : Fr} (h : (fmul a b).2 = 0) (k : (fmul c d).2 = 0) : wpair 0 a b c d true = fsub (fmul a b).1 (fmul c d).1 := by
  simp [wpair, wmul, wsub, stp, h, k]
theorem wpair_4 {a b c d : Fr} (h : (fmul a b).2 = 0) (k : (fmul c d).2 = 0) : wpair 0 a b c d false = fadd (fmul a b).1 (fmul c d).1 := by
  simp [wpair, wmul, wadd, stp, h, k]
theorem wpair_good (e : Int) (a b c d : Fr) (l : Bool) : Good (wpair e a b c d l) := by
  cases l
  · exact stp_good (fadd_good _ _)
  · exact stp_good (fsub_good _ _)
section
variable {a b : Ga}
theorem gmul_4 (h : gchk2 a b = 0) (k : (wpair 0 a.re b.re a.im b.im true).2 = 0) (m : (wpair 0 a.re b.im a.im b.re false).2 = 0) : gmul a b = (⟨(wpair 0 a.re b.re a.im b.im true).1, (wpair 0 a.re b.im a.im b.re false).1⟩, 0) := by
  simp [gmul, wprod_pair, h, k, gtell, m]
theorem gnorm_2 (h : gchk a = 0) : gnorm a = wpair 0 a.re a.re a.im a.im false := by
  have hg := wpair_good 0 a.re a.re a.im a.im false
  unfold gnorm
  rw [wnorm_pair, h]
  by_cases k : (wpair 0 a.re a.re a.im a.im false).2 ≠ 0
  · simp only [if_pos k]; rw [← hg.2 k]
  · simp only [if_neg k]
theorem gscale_5 {s : Fr} (h : fchk s = 0) (k : gchk a = 0) (m : (fmul s a.re).2 = 0) (n : (fmul s a.im).2 = 0) : gscale s a = (⟨(fmul s a.re).1, (fmul s a.im).1⟩, 0) := by simp [gscale, wmul, stp, gtell, h, k, m, n]
theorem gconj_2 (h : gchk a = 0) : gconj a = (⟨a.re, (fneg a.im).1⟩, 0) := if_neg (by omega)
end
theorem lng_negQ (q : Rat) : lng (-q) = lng q := by unfold lng; simp
theorem fneg_enc {q : Rat} (h : ¬ lng q = true) : fneg (enc q) = (enc (-q), 0) := by
  unfold fneg
  rw [if_neg (by rw [fchk_enc q h]; decide), dec_enc]
theorem gconj_enc {p q : Rat} (h : ¬ lng p = true) (k : ¬ lng q = true) : gconj ⟨enc p, enc q⟩ = (⟨enc p, enc (-q)⟩, 0) := by
  rw [gconj_2 (gchk_enc h k), fneg_enc k]
theorem fadd_enc {p q : Rat} (h : ¬ lng p = true) (k : ¬ lng q = true) : fadd (enc p) (enc q) = tell (p + q) := both_ok h k
theorem fsub_enc {p q : Rat} (h : ¬ lng p = true) (k : ¬ lng q = true) : fsub (enc p) (enc q) = tell (p - q) := both_ok h k
theorem tell_ok {q : Rat} (h : ¬ lng q = true) : tell q = (enc q, 0) := if_neg h
theorem fadd_nought {a : Fr} (wa : a.Wf) (h : fchk a = 0) : fadd a (enc 0) = (a, 0) := by
  obtain ⟨q, rfl, lq⟩ := fchk_ok wa h
  rw [fadd_enc lq (lng_of (by rw [show (0 : Rat).num.natAbs = 0 from rfl, wd_zero]; decide) (by rw [show (0 : Rat).den = 1 from rfl, wd_one]; decide)), Rat.add_zero, tell_ok lq]
theorem gconj_chk {b : Ga} (wb : b.Wf) (h : gchk b = 0) : gchk ⟨b.re, (fneg b.im).1⟩ = 0 := by
  obtain ⟨r, s, rfl, lr, ls⟩ := gchk_ok wb h
  rw [fneg_enc ls]
  exact gchk_enc lr (by rw [lng_negQ]; exact ls)
theorem gmul_parts {a b : Ga} (h : gchk2 a b = 0) (m : (gmul a b).2 = 0) : (wprod 0 a b).2.2 = 0 ∧ (gmul a b).1 = ⟨(wprod 0 a b).1, (wprod 0 a b).2.1⟩ := by
  simp only [gmul, h] at m ⊢
  unfold gtell at m ⊢
  by_cases q : (wprod 0 a b).2.2 ≠ 0
  · simp [q] at m
  · exact ⟨by simpa using q, by simp [q]⟩
theorem gquo_5 {a b : Ga} (h : gchk2 a b = 0) (k : gzero b = false) (n : (gnorm b).2 = 0) (wb : b.Wf) (m : (gmul a (gconj b).1).2 = 0) :
    gquo a b = gtell (wquo (fquo (gmul a (gconj b).1).1.re (gnorm b).1).2 (gmul a (gconj b).1).1.im (gnorm b).1).2 (fquo (gmul a (gconj b).1).1.re (gnorm b).1).1 (wquo (fquo (gmul a (gconj b).1).1.re (gnorm b).1).2 (gmul a (gconj b).1).1.im (gnorm b).1).1 := by
  obtain ⟨ha, hb⟩ := gchk2_zero h
  have hc := gchk2_mk ha (gconj_chk wb hb)
  rw [gconj_2 hb] at m ⊢
  rw [gnorm_2 hb] at n ⊢
  obtain ⟨q1, q2⟩ := gmul_parts hc m
  rw [q2]
  simp only [gquo, h, k, wnorm_pair]
  simp only [ne_eq, not_true_eq_false, if_false, Bool.false_eq_true, n, q1]
  rw [show ∀ x y, wquo 0 x y = fquo x y from fun x y => stp_ok]
theorem gquo_7 {a b : Ga} (h : gchk2 a b = 0) (k : gzero b = false) (n : (gnorm b).2 = 0) (wb : b.Wf) (m : (gmul a (gconj b).1).2 = 0) (x : (fquo (gmul a (gconj b).1).1.re (gnorm b).1).2 = 0) : gquo a b = gtell (fquo (gmul a (gconj b).1).1.im (gnorm b).1).2 (fquo (gmul a (gconj b).1).1.re (gnorm b).1).1 (fquo (gmul a (gconj b).1).1.im (gnorm b).1).1 := by
  rw [gquo_5 h k n wb m, x]
  simp [wquo, stp]
end Go.Proofs.YtjoonfegjobgbaaGreatDoor
namespace Go.Proofs.YtjoonfegjobgbaaGreatDoor
open Go Go.RowKit
set_option maxHeartbeats 400000 in
theorem cut_any (A : Option Addr) (xs : List Int) (c : Nat) (w : World) (h : Rd w A c xs) :
    Calls Tryz.prog 137 #[.slice A xs.length c] w fun e w' => e = .returned (.slice A (tl xs xs.length) c) ∧ w = w' := by
  have hl := h.lim
  have hc := h.cap
  have HA := Lib.hid h.at_
  clear h
  go_enter Tryz.func137, Tryz.ntmps137
  go_wp2
  go_loop [3] (fun i => ∃ k : Nat, k ≤ xs.length ∧ tl xs k = tl xs xs.length ∧ i = .int .i64 k) (fun i => (intOf i).toNat)
  case atStart => exact ⟨xs.length, by omega, rfl, rfl⟩
  case round =>
    obtain ⟨k, hk, hj, rfl⟩ := hrel
    cases k with
    | zero =>
      have HJ := Lib.hid hj
      clear hj
      go_wp2
      go_ret
      exact ⟨by rw [← HJ.out]; rfl, rfl⟩
    | succ k =>
      obtain ⟨a, rfl, hcell⟩ := HA.out k (by omega)
      by_cases hz : nth xs k = 0
      · have HJ := Lib.hid ((tl_zero xs k hz).symm.trans hj)
        clear hj
        rw [hz] at hcell
        clear hz
        go_wp2
        go_round
        case rel => exact ⟨k, by omega, HJ.out, by go_num⟩
        case measure => simp [intOf]
      · have HJ := Lib.hid ((tl_here xs k hz).symm.trans hj)
        clear hj
        have hz' : (nth xs k == 0) = false := by simpa using hz
        clear hz
        go_wp2
        go_ret
        exact ⟨by rw [← HJ.out]; rfl, rfl⟩
set_option maxHeartbeats 400000 in
theorem check_any (A : Option Addr) (xs : List Int) (c : Nat) (w : World) (h : Rd w A c xs) :
    Calls Tryz.prog 86 #[.slice A xs.length c] w fun e w' => e = .returned (.int .i64 (chk xs)) ∧ w = w' := by
  have hl := h.lim
  have hc := h.cap
  have HA := Lib.hid h.at_
  clear h
  by_cases h1 : 8192 < xs.length
  · have HE := Lib.hid (show chk xs = 3 by unfold chk; rw [if_pos h1])
    go_enter Tryz.func86, Tryz.ntmps86
    go_wp2
    go_ret
    exact ⟨by rw [HE.out]; rfl, rfl⟩
  · by_cases h0 : xs.length = 0
    · have HE := Lib.hid (show chk xs = 0 by unfold chk; rw [if_neg h1, if_neg]; rintro ⟨h2, _⟩; exact h2 (List.eq_nil_of_length_eq_zero h0))
      have hn : ((xs.length : Int) > 0) = False := by rw [h0]; simp
      have hn' : ¬ (0 < xs.length) := by omega
      clear h0
      go_enter Tryz.func86, Tryz.ntmps86
      go_wp2
      go_ret
      exact ⟨by rw [HE.out]; rfl, rfl⟩
    · obtain ⟨k, hk⟩ := Nat.exists_eq_succ_of_ne_zero h0
      obtain ⟨a, rfl, hcell⟩ := HA.out k (by omega)
      have hp : 0 < xs.length := by omega
      have hi : ((xs.length : Int) - 1).toNat = k := by omega
      by_cases hz : nth xs k = 0
      · have HE := Lib.hid (show chk xs = 11 by
          unfold chk; rw [if_neg h1, if_pos ⟨fun e => by simp [e] at hp, by rw [hk]; exact hz⟩])
        rw [hz] at hcell
        clear hz hk h0
        go_enter Tryz.func86, Tryz.ntmps86
        go_wp2
        go_ret
        exact ⟨by rw [HE.out]; rfl, rfl⟩
      · have HE := Lib.hid (show chk xs = 0 by
          unfold chk; rw [if_neg h1, if_neg]; rintro ⟨_, h2⟩; rw [hk] at h2; exact hz h2)
        have hz' : (nth xs k == 0) = false := by simpa using hz
        clear hz hk h0
        go_enter Tryz.func86, Tryz.ntmps86
        go_wp2
        go_ret
        exact ⟨by rw [HE.out]; rfl, rfl⟩
set_option maxHeartbeats 400000 in
theorem checked_any (A B : Option Addr) (xs ys : List Int) (c d : Nat) (w : World) (h : Rd w A c xs) (k : Rd w B d ys) :
    Calls Tryz.prog 138 #[.slice A xs.length c, .slice B ys.length d] w fun e w' => e = .returned (.int .i64 (chk2 xs ys)) ∧ w = w' := by
  have H := Lib.hid h
  have K := Lib.hid k
  clear h k
  by_cases hz : chk xs = 0
  · have HE := Lib.hid (show chk2 xs ys = chk ys from if_pos hz)
    have Hz := Lib.hid hz
    clear hz
    go_enter Tryz.func138, Tryz.ntmps138
    go_wp2_with fail
    refine (check_any _ _ _ _ H.out).mono ?_; rintro e w' ⟨rfl, rfl⟩
    rw [Hz.out]
    go_wp2_with fail
    refine (check_any _ _ _ _ K.out).mono ?_; rintro e w' ⟨rfl, rfl⟩
    go_wp2_with fail
    go_ret
    exact ⟨by rw [HE.out]; rfl, rfl⟩
  · have HE := Lib.hid (show chk2 xs ys = chk xs from if_neg hz)
    have hz' : (chk xs != 0) = true := by simpa using hz
    clear hz
    go_enter Tryz.func138, Tryz.ntmps138
    go_wp2_with fail
    refine (check_any _ _ _ _ H.out).mono ?_; rintro e w' ⟨rfl, rfl⟩
    go_wp2_with fail
    go_ret
    exact ⟨by rw [HE.out]; rfl, rfl⟩
theorem checked_ok (A B : Option Addr) (m n : Nat) (c d : Nat) (w : World) (h : Rd w A c (wd m)) (k : Rd w B d (wd n)) (hm : (wd m).length ≤ 8192) (hn : (wd n).length ≤ 8192) :
    Calls Tryz.prog 138 #[.slice A (wd m).length c, .slice B (wd n).length d] w fun e w' => e = .returned (.int .i64 0) ∧ w = w' := by
  have := checked_any A B _ _ c d w h k
  rw [show chk2 (wd m) (wd n) = 0 by unfold chk2; rw [chk_wd m hm, chk_wd n hn]; rfl] at this
  exact this
theorem cut_own (A : Option Addr) (xs : List Int) (c base l : Nat) (w : World) (h : Own w base A c xs) (hl : xs.length = l) (hw : Wf xs) (n : Nat) (hv : val xs = n) :
    Calls Tryz.prog 137 #[.slice A l c] w fun e w' => e = .returned (.slice A (wd n).length c) ∧ Own w base A c (wd n) ∧ w = w' := by
  have ht : xs.take (tl xs xs.length) = wd n := by rw [tl_all hw, hv]; rfl
  have ht2 : tl xs xs.length = (wd n).length := by
    rw [← ht, List.length_take]; have := tl_le xs xs.length; omega
  have HO : Own w base A c (wd n) := by rw [← ht]; exact h.take _
  subst hl
  refine (cut_any _ _ _ _ h.rd).mono ?_
  rintro e w' ⟨rfl, rfl⟩
  exact ⟨by rw [ht2], HO, rfl⟩
set_option maxHeartbeats 400000 in
theorem told_ok (A : Option Addr) (xs : List Int) (c base l : Nat) (w : World) (h : Own w base A c xs) (hl : xs.length = l) (hw : Wf xs) (n : Nat) (hv : val xs = n) (hn : (wd n).length ≤ 8192) :
    Calls Tryz.prog 143 #[.slice A l c] w fun e w' => e = .returned (.tuple #[.slice A (wd n).length c, .int .i64 0]) ∧ Own w base A c (wd n) ∧ w = w' := by
  have H := Lib.hid (cut_own A xs c base l w h hl hw n hv)
  clear h hw hv hl
  go_enter Tryz.func143, Tryz.ntmps143
  go_wp2_with fail
  refine H.out.mono ?_; rintro e w' ⟨rfl, HO, rfl⟩
  have HO2 := Lib.hid HO
  clear HO
  go_wp2_with fail
  go_ret2
  exact ⟨rfl, HO2.out, rfl⟩
theorem V_below {xs ys : List Int} (hx : Wf xs) (hy : Wf ys) (k : Nat) (h : nth xs k < nth ys k) : V xs (k + 1) < V ys (k + 1) := by
  rw [V_succ, V_succ]
  have a := V_lt hx k
  have b := V_nonneg hy k
  have c : (nth xs k + 1) * pw k ≤ nth ys k * pw k := Int.mul_le_mul_of_nonneg_right (by omega) (Int.le_of_lt (pw_pos k))
  rw [Int.add_mul] at c
  omega
set_option maxHeartbeats 1000000 in
theorem compare_any (A B : Option Addr) (m n : Nat) (c d : Nat) (w : World) (ha : Rd w A c (wd m)) (hb : Rd w B d (wd n)) :
    Calls Tryz.prog 84 #[.slice A (wd m).length c, .slice B (wd n).length d] w fun e w' => e = .returned (.int .i64 (cmp m n)) ∧ Ext w w' := by
  have la := ha.lim
  have lb := hb.lim
  have HA := Lib.hid ha
  have HB := Lib.hid hb
  have Hm := Lib.hid (tl_wd m)
  have Hn := Lib.hid (tl_wd n)
  clear ha hb
  by_cases hne : (wd m).length = (wd n).length
  · have HNE := Lib.hid hne
    have hbe : (((wd m).length : Int) != ((wd n).length : Int)) = false := by simp [hne]
    clear hne
    go_enter Tryz.func84, Tryz.ntmps84
    go_wp2_with fail
    refine (cut_any _ _ _ _ HA.out).mono ?_; rintro e w' ⟨rfl, rfl⟩
    rw [Hm.out]
    go_wp2_with fail
    refine (cut_any _ _ _ _ HB.out).mono ?_; rintro e w' ⟨rfl, rfl⟩
    rw [Hn.out]
    go_wp2_with fail
    go_loopw [5] (fun i wr => ∃ k : Nat, k ≤ (wd m).length ∧ Hid (V (wd m) k + V (wd n) (wd m).length = V (wd n) k + V (wd m) (wd m).length) ∧ i = .int .i64 ((k : Int) - 1) ∧ Hid (Ext w wr)) (fun i _ => (intOf i + 1).toNat)
    case atStart => exact ⟨(wd m).length, by omega, by show _ = _; omega, rfl, Ext.refl _⟩
    case round =>
      obtain ⟨k, hk, hv, rfl, HX⟩ := hrel
      cases k with
      | zero =>
        have HE := Lib.hid (show cmp m n = 0 by
          apply cmp_eq
          have h1 := val_wd m
          have h2 := val_wd n
          have h3 := hv.out
          unfold val at h1 h2
          rw [← HNE.out] at h2
          rw [V_zero, V_zero] at h3
          omega)
        go_wp2_with fail
        go_ret
        exact ⟨by rw [HE.out]; rfl, HX.out⟩
      | succ k =>
        have e1 : (((k + 1 : Nat) : Int) - 1) = (k : Int) := by omega
        rw [e1]
        clear e1
        obtain ⟨a, rfl, hca⟩ := (HA.out.ext HX.out).at_ k (by omega)
        obtain ⟨b, rfl, hcb⟩ := (HB.out.ext HX.out).at_ k (by have := HNE.out; omega)
        have hkn : k < (wd n).length := by have := HNE.out; omega
        by_cases h1 : nth (wd m) k < nth (wd n) k
        · have HE := Lib.hid (show cmp m n = -1 by
            apply cmp_lt
            have h2 := V_below (wf_wd m) (wf_wd n) k h1
            have h3 := hv.out
            have h4 := val_wd m
            have h5 := val_wd n
            unfold val at h4 h5
            rw [← HNE.out] at h5
            omega)
          go_wp2_with fail
          go_quiet (fail)
          go_wp2_with fail
          go_ret
          exact ⟨by rw [HE.out]; rfl, HX.out.drewN _⟩
        · by_cases h2 : nth (wd n) k < nth (wd m) k
          · have HE := Lib.hid (show cmp m n = 1 by
              apply cmp_gt
              have h2 := V_below (wf_wd n) (wf_wd m) k h2
              have h3 := hv.out
              have h4 := val_wd m
              have h5 := val_wd n
              unfold val at h4 h5
              rw [← HNE.out] at h5
              omega)
            go_wp2_with fail
            go_quiet (fail)
            go_wp2_with fail
            go_quiet (fail)
            go_wp2_with fail
            go_ret
            exact ⟨by rw [HE.out]; rfl, (HX.out.drewN _).drewN _⟩
          · have HV := Lib.hid (show V (wd m) k + V (wd n) (wd m).length = V (wd n) k + V (wd m) (wd m).length by
              have h3 := hv.out
              rw [V_succ, V_succ, show nth (wd m) k = nth (wd n) k by omega] at h3
              omega)
            go_wp2_with fail
            go_quiet (fail)
            go_wp2_with fail
            go_quiet (fail)
            go_wp2_with fail
            go_roundw
            case rel => exact ⟨k, by omega, HV.out, by go_num, HX.out.drewN _⟩
            case measure => simp [intOf]
  · have hbe : (((wd m).length : Int) != ((wd n).length : Int)) = true := by simp; omega
    by_cases hlt : (wd m).length < (wd n).length
    · have HE := Lib.hid (cmp_lt (wd_len_lt hlt))
      clear hne
      go_enter Tryz.func84, Tryz.ntmps84
      go_wp2_with fail
      refine (cut_any _ _ _ _ HA.out).mono ?_; rintro e w' ⟨rfl, rfl⟩
      rw [Hm.out]
      go_wp2_with fail
      refine (cut_any _ _ _ _ HB.out).mono ?_; rintro e w' ⟨rfl, rfl⟩
      rw [Hn.out]
      go_wp2_with fail
      go_ret
      exact ⟨by rw [HE.out]; rfl, Ext.refl _⟩
    · have HE := Lib.hid (cmp_gt (wd_len_lt (show (wd n).length < (wd m).length by omega)))
      clear hne
      go_enter Tryz.func84, Tryz.ntmps84
      go_wp2_with fail
      refine (cut_any _ _ _ _ HA.out).mono ?_; rintro e w' ⟨rfl, rfl⟩
      rw [Hm.out]
      go_wp2_with fail
      refine (cut_any _ _ _ _ HB.out).mono ?_; rintro e w' ⟨rfl, rfl⟩
      rw [Hn.out]
      go_wp2_with fail
      go_ret
      exact ⟨by rw [HE.out]; rfl, Ext.refl _⟩
theorem add_step (us : List Int) (k : Nat) (t : Int) (hk : k < us.length) :
    V (us.set k (t % 4294967296)) (k + 1) + t / 4294967296 * pw (k + 1) = V us k + t * pw k := by
  rw [V_succ, V_set_ge _ _ _ _ (Nat.le_refl _), nth_set_self _ _ _ hk, pw_succ]
  have h : t * pw k = (t % 4294967296) * pw k + (t / 4294967296) * (4294967296 * pw k) := by
    rw [← Int.mul_assoc, ← Int.add_mul]
    congr 1
    omega
  omega
theorem add_round (us xs ys : List Int) (k : Nat) (t : Int) (hk : k < us.length) (hv : V us k + t * pw k = V xs k + V ys k) :
    V (us.set k ((t + nth xs k + nth ys k) % 4294967296)) (k + 1) + (t + nth xs k + nth ys k) / 4294967296 * pw (k + 1) = V xs (k + 1) + V ys (k + 1) := by
  rw [add_step us k _ hk, V_succ, V_succ, Int.add_mul, Int.add_mul]
  omega
theorem add_end (us : List Int) (p q l : Nat) (t : Int) (hp : (wd p).length = l) (hq : (wd q).length ≤ l) (hul : us.length = l + 1) (hv : V us l + t * pw l = V (wd p) l + V (wd q) l) :
    val (us.set l t) = ((p + q : Nat) : Int) := by
  have e1 := val_wd p
  have e2 := val_wd q
  rw [← V_out _ l (by omega)] at e1 e2
  unfold val
  rw [List.length_set, hul, V_succ, V_set_ge _ _ _ _ (Nat.le_refl _), nth_set_self _ _ _ (by omega)]
  omega
set_option maxHeartbeats 1000000 in
theorem add_any (A B : Option Addr) (m n : Nat) (c d : Nat) (w : World) (ha : Rd w A c (wd m)) (hb : Rd w B d (wd n)) (lm : (wd m).length ≤ 8191) (ln : (wd n).length ≤ 8191) :
    Calls Tryz.prog 89 #[.slice A (wd m).length c, .slice B (wd n).length d] w fun e w' => ∃ A' c', e = .returned (.tuple #[.slice A' (wd (m + n)).length c', .int .i64 0]) ∧ Own w' w.heap.size A' c' (wd (m + n)) ∧ Ext w w' := by
  have HA := Lib.hid ha
  have HB := Lib.hid hb
  clear ha hb
  have hls : (wd (m + n)).length ≤ 8192 := by have := wd_len_add m n; omega
  by_cases hlt : (wd m).length < (wd n).length
  case' pos =>
    rw [Nat.add_comm] at hls ⊢
    obtain ⟨p, rfl⟩ : ∃ p, p = n := ⟨_, rfl⟩
    obtain ⟨q, rfl⟩ : ∃ q, q = m := ⟨_, rfl⟩
    have HP := HB
    have HQ := HA
    have hqp : (wd q).length ≤ (wd p).length := by omega
    have lp : (wd p).length ≤ 8191 := ln
  case' neg =>
    obtain ⟨p, rfl⟩ : ∃ p, p = m := ⟨_, rfl⟩
    obtain ⟨q, rfl⟩ : ∃ q, q = n := ⟨_, rfl⟩
    have HP := HA
    have HQ := HB
    have hqp : (wd q).length ≤ (wd p).length := by omega
    have lp : (wd p).length ≤ 8191 := lm
  all_goals
    go_enter Tryz.func89, Tryz.ntmps89
    go_wp2_with fail
    refine (checked_ok _ _ _ _ _ _ _ HA.out HB.out (by omega) (by omega)).mono ?_; rintro e w' ⟨rfl, rfl⟩
    clear HA HB
    go_wp2_with (at_make; refine wpList_mk rfl _ _ rfl ((wd p).length + 1) _ _ rfl rfl (by omega) (by omega) (by omega) ?_; intro w1 hO hG)
    have HO := Lib.hid hO
    have HG := Lib.hid hG
    clear hO hG hlt
    go_loopw [8, 30] (fun cy i wr => ∃ (k : Nat) (us : List Int) (t : Int), k ≤ (wd p).length ∧ us.length = (wd p).length + 1 ∧ Hid (Wf us) ∧ 0 ≤ t ∧ t ≤ 1 ∧ Hid (V us k + t * pw k = V (wd p) k + V (wd q) k) ∧ cy = .int .u64 t ∧ i = .int .i64 k ∧ Hid (Own wr w.heap.size (some ⟨w.heap.size, 0, none⟩) ((wd p).length + 1) us) ∧ Hid (Ext w wr)) (fun _ i _ => (wd p).length - (intOf i).toNat)
    case atStart => exact ⟨0, _, 0, by omega, List.length_replicate, wf_zeros _, by omega, by omega, by show _ = _; simp [V_zero], rfl, rfl, HO, HG⟩
    case round =>
      clear HO HG
      obtain ⟨k, us, t, hk, hul, hw, ht0, ht1, hv, rfl, rfl, HO, HX⟩ := hrel
      have HUL := Lib.hid hul
      clear hul
      by_cases hkm : k < (wd p).length
      · obtain ⟨a, rfl, hca⟩ := (HP.out.ext HX.out).at_ k hkm
        have hco := HO.out.cell k (by have := HUL.out; omega)
        have hfo := HO.out.free k
        have ba := nth_wf (wf_wd p) k
        have bb := nth_wf (wf_wd q) k
        have HV := Lib.hid (add_round us (wd p) (wd q) k t (by have := HUL.out; omega) hv.out)
        by_cases hkn : k < (wd q).length
        · obtain ⟨b, rfl, hcb⟩ := (HQ.out.ext HX.out).at_ k hkn
          obtain ⟨x, hx⟩ : ∃ x, x = nth (wd p) k := ⟨_, rfl⟩
          obtain ⟨y, hy⟩ : ∃ y, y = nth (wd q) k := ⟨_, rfl⟩
          rw [← hx] at hca ba HV
          rw [← hy] at bb hcb HV
          clear hx hy
          go_wp2_with fail
          go_roundw
          case rel => exact ⟨k + 1, _, _, by omega, by rw [List.length_set]; exact HUL.out, wf_set hw.out _ _ (by omega) (by omega), by omega, by omega, HV.out, rfl, by go_num, (HO.out.set k _).1, HX.out.setCell (Nat.le_refl _) _⟩
          case measure => simp [intOf]; omega
        · rw [nth_out (wd q) k (by omega), Int.add_zero] at HV
          obtain ⟨x, hx⟩ : ∃ x, x = nth (wd p) k := ⟨_, rfl⟩
          rw [← hx] at hca ba HV
          clear hx bb
          go_wp2_with fail
          go_roundw
          case rel => exact ⟨k + 1, _, _, by omega, by rw [List.length_set]; exact HUL.out, wf_set hw.out _ _ (by omega) (by omega), by omega, by omega, HV.out, rfl, by go_num, (HO.out.set k _).1, HX.out.setCell (Nat.le_refl _) _⟩
          case measure => simp [intOf]; omega
      · have hkl : k = (wd p).length := by omega
        have HE := Lib.hid (add_end us p q (wd p).length t rfl hqp HUL.out (by rw [← hkl]; exact hv.out))
        have hco := HO.out.cell (wd p).length (by have := HUL.out; omega)
        have hfo := HO.out.free (wd p).length
        have HO2 := Lib.hid (HO.out.set (wd p).length t).1
        have HX2 := Lib.hid (HX.out.setCell (p := ⟨w.heap.size, (wd p).length, none⟩) (Nat.le_refl _) (.int .u32 t))
        have hlen : (us.set (wd p).length t).length = (wd p).length + 1 := by rw [List.length_set]; exact HUL.out
        have HL := Lib.hid hlen
        clear hkl hlen
        go_wp2_with fail
        refine (told_ok _ _ _ _ _ _ HO2.out HL.out (wf_set hw.out _ _ (by omega) (by omega)) _ HE.out hls).mono ?_; rintro e w' ⟨rfl, HO3, rfl⟩
        have HO4 := Lib.hid HO3
        clear HO3
        go_wp2_with fail
        go_ret2
        exact ⟨_, _, rfl, HO4.out, HX2.out⟩
end Go.Proofs.YtjoonfegjobgbaaGreatDoor
