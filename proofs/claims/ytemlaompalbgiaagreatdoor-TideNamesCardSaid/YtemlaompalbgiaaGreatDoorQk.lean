/- Texts of this claim, joined: A24 P4 P6 P7 P8 N1 N2 N3 N4 N5 N6 N7 Sh1 N8. -/
import Derived.Lib.EndianBits
import Derived.Shelf.Small.Bits
import Derived.Ground.SlgnProg
import Derived.Test.YtemlaompalbgiaaGreatDoorProg
import Derived.Lib.ItoaNum
import Derived.Test.YtemlaompalbgiaaGreatDoorQj
set_option linter.unusedVariables false
set_option linter.unusedSimpArgs false
set_option maxRecDepth 100000
namespace Go.Proofs.YtemlaompalbgiaaGreatDoor
open Go Go.RowKit
def wfE : (t : Ty) → El t → Prop
  | .bo, _ => True
  | .it k, x => k.min ≤ x ∧ x ≤ k.max
  | .st, x => x.size ≤ maxI
  | .sl t, l => l.length ≤ maxI ∧ ∀ x ∈ l, wfE t x
  | .pt _, _ => True
  | .fn, _ => True
  | .lt t, l => l.length ≤ maxI ∧ ∀ x ∈ l, wfE t x
  | .lf t, l => l.length ≤ maxI ∧ ∀ x ∈ l, wfE t x
  | .oq, _ => True
  | .pr a b, x => wfE a x.1 ∧ wfE b x.2
  | .un, _ => True
def wfEs : (ts : List Ty) → Els ts → Prop
  | [], _ => True
  | t :: ts, x => wfE t x.1 ∧ wfEs ts x.2
theorem RT.wf {Z : Nat → Prop} {w : World} : ∀ {t : Ty} {x : El t} {vs : List Value}, RT Z w t x vs → wfE t x
  | .bo, _, _, _ => trivial
  | .it _, _, _, h => by rw [RT] at h; exact h.2
  | .st, _, _, h => by rw [RT] at h; exact h.2
  | .sl t, l, _, h => by
    rw [RT] at h
    obtain ⟨A, c, _, h2, h3, _, h5⟩ := h
    refine ⟨Nat.le_trans h2 h3, fun x hx => ?_⟩
    obtain ⟨j, hj, rfl⟩ := List.getElem_of_mem hx
    obtain ⟨g, o, us, _, _, e3, _⟩ := h5 j hj
    exact e3.wf
  | .pt _, _, _, _ => trivial
  | .fn, _, _, _ => trivial
  | .lt t, l, _, h => by
    obtain ⟨g, o, c, _, h2, h3, _, h5, _⟩ := h.lt_row
    refine ⟨by omega, fun x hx => ?_⟩
    obtain ⟨j, hj, rfl⟩ := List.getElem_of_mem hx
    obtain ⟨us, k, _⟩ := h5 j hj
    exact k.wf
  | .lf t, l, _, h => by
    obtain ⟨g, o, c, _, h2, h3, _, h5, _⟩ := h.lf_row
    refine ⟨by omega, fun x hx => ?_⟩
    obtain ⟨j, hj, rfl⟩ := List.getElem_of_mem hx
    obtain ⟨us, k, _⟩ := h5 j hj
    exact k.wf
  | .oq, _, _, _ => trivial
  | .pr _ _, _, _, h => by
    rw [RT] at h
    obtain ⟨us, us', _, h1, h2⟩ := h
    exact ⟨h1.wf, h2.wf⟩
  | .un, _, _, _ => trivial
theorem RV.wf {Z : Nat → Prop} {w : World} {t : Ty} {x : El t} {v : Value} (h : RV Z w t x v) : wfE t x := by
  unfold RV at h
  split at h
  · obtain ⟨us, _, h⟩ := h; exact h.wf
  · exact h.wf
theorem RVs.wf {Z : Nat → Prop} {w : World} : ∀ {ts : List Ty} {x : Els ts} {vs : List Value}, RVs Z w ts x vs → wfEs ts x
  | [], _, _, _ => trivial
  | _ :: _, _, [], h => h.elim
  | _ :: _, _, _ :: _, h => ⟨h.1.wf, RVs.wf h.2⟩
theorem argT_sound {c : Cf} {w : World} : ∀ {ts : List Ty} {x : Els ts} {vs : List Value} {n : Nat} {tm : Array Value}, RVs c.Z w ts x vs → (∀ i v, vs[i]? = some v → tm[n + i]? = some v) → ∀ t v, look (argT n ts x) t = some v → n ≤ t ∧ ∃ u, tm[t]? = some u ∧ RA c w u v
  | [], _, _, _, _, _, _, _, _, h => by cases h
  | _ :: _, _, [], _, _, h, _, _, _, _ => h.elim
  | t :: ts, x, v :: vs, n, tm, h, hv, i, u, hl => by
    unfold argT look at hl
    cases hb : Nat.beq n i with
    | false =>
      rw [hb] at hl
      obtain ⟨h1, h2⟩ := argT_sound (n := n + 1) (tm := tm) h.2 (fun i v hi => by rw [Nat.add_assoc, Nat.add_comm 1]; exact hv (i + 1) v (by simpa using hi)) i u hl
      exact ⟨by omega, h2⟩
    | true =>
      rw [hb] at hl
      have hi := Nat.eq_of_beq_eq_true hb
      subst hi
      refine ⟨Nat.le_refl _, v, hv 0 v rfl, ?_⟩
      simp only [cond_true, Option.some.injEq] at hl
      have hr := h.1
      unfold RV at hr
      split at hr
      · rename_i ha
        obtain ⟨us, rfl, hr⟩ := hr
        have hc := hr.cel
        have e : u = .ag (cel t x.1) := by
          rw [← hl]
          split
          · rename_i z hz; rw [ha, hz]; rfl
          · rfl
        subst e
        exact ⟨us, rfl, hc⟩
      · rename_i ha
        have hc := hr.cel
        obtain ⟨hlen, _⟩ := hc
        match hz : cel t x.1, hlen with
        | [z], _ =>
          rw [hz] at hl
          simp only [show t.agg = false by simpa using ha, cond_false] at hl
          subst hl
          have hc := hr.cel
          rw [hz] at hc
          obtain ⟨v', e, hv'⟩ := hc.single
          cases e
          exact hv'
theorem callFunc_enter {P : Program} {f : FuncId} {fn : Func} {c : Code} (hf : P.funcs[f]? = some fn) (hname : (fn.name == "runtime.NumGoroutine") = false) (hb : fn.body = some c) (args : Array Value) (w : World) :
    (callFunc f args).run P w = .ok (.enter f args) w := by
  have h1 : fn.name ≠ "runtime.NumGoroutine" := by simpa using hname
  simp [callFunc, hf, h1, hb]
theorem retQ_exit {C : Cfg} {S : Spec} {rvs : List ResultVar} {y : El S.q} {x : Els S.ps} {e : Exit} {tm : TM} {ob : OB} {n : Nat} (h : retQ C S rvs y x e tm ob n) : (e = .normal ∨ e = .ret) ∧ ∃ vs a, resV C (look tm) (look ob) rvs = some vs ∧ frsOk (look ob) S.fresh S.rs vs = true ∧ retV (look ob) S.fresh S.rs vs = some a ∧ a = (S.post y x).2 ∧ (S.ptr = true → ∃ cs, look ob 0 = some (.var cs) ∧ toE (fun _ => none) S.q cs = some (S.post y x).1) := by
  have key : ∀ {e : Exit}, (match resV C (look tm) (look ob) rvs with
    | some vs => match frsOk (look ob) S.fresh S.rs vs, retV (look ob) S.fresh S.rs vs with
      | true, some a => match S.ptr with
        | false => a = (S.post y x).2
        | true => match look ob 0 with
          | some (.var cs) => match toE (fun _ => none) S.q cs with
            | some b => (b, a) = S.post y x
            | none => False
          | _ => False
      | _, _ => False
    | none => False) → ∃ vs a, resV C (look tm) (look ob) rvs = some vs ∧ frsOk (look ob) S.fresh S.rs vs = true ∧ retV (look ob) S.fresh S.rs vs = some a ∧ a = (S.post y x).2 ∧ (S.ptr = true → ∃ cs, look ob 0 = some (.var cs) ∧ toE (fun _ => none) S.q cs = some (S.post y x).1) := by
    intro e h
    split at h
    · rename_i vs hvs
      split at h
      · rename_i a h1 h2
        refine ⟨vs, a, hvs, h1, h2, ?_⟩
        split at h
        · rename_i hp; exact ⟨h, fun e => by rw [hp] at e; cases e⟩
        · rename_i hp
          split at h
          · rename_i cs hcs
            split at h
            · rename_i b hb
              rw [← h]
              exact ⟨rfl, fun _ => ⟨cs, hcs, hb⟩⟩
            · exact h.elim
          · exact h.elim
      · exact h.elim
    · exact h.elim
  cases e with
  | normal => exact ⟨.inl rfl, key (e := .normal) h⟩
  | ret => exact ⟨.inr rfl, key (e := .ret) h⟩
  | panic c => exact h.elim
  | exit i => exact h.elim
  | goto i => exact h.elim
  | outgrown => exact h.elim
theorem RQ.mk_read {c : Cf} {w : World} {base : Nat} {O : Store} (hO : ∀ i o, O i = some o → ObOk c w i o) (hz : ∀ g, Zall c O g → c.Z g) (hn : ∀ i cs, O i ≠ some (.var cs)) : ∀ {t : Ty} {cs : List Ce} {x : El t} {vs : List Value}, toR O t cs = some x → RL c w vs cs → RQ false c.Z w base t x vs []
  | .bo, cs, x, vs, h, hv => ⟨(toE_sound hO .bo cs vs x hv h).zone hz, rfl⟩
  | .it k, cs, x, vs, h, hv => ⟨(toE_sound hO (.it k) cs vs x hv h).zone hz, rfl⟩
  | .st, cs, x, vs, h, hv => ⟨(toE_sound hO .st cs vs x hv h).zone hz, rfl⟩
  | .un, cs, x, vs, h, hv => by
    have := toE_sound hO .un cs vs x hv h
    rw [RT] at this
    exact ⟨this, rfl⟩
  | .fn, cs, x, vs, h, hv => by cases h
  | .lt t, cs, x, vs, h, hv => by
    unfold RQ
    rw [if_neg (by simp)]
    exact ⟨(toE_sound hO (.lt t) cs vs x hv h).zone hz, rfl⟩
  | .lf t, cs, x, vs, h, hv => by
    unfold RQ
    rw [if_neg (by simp)]
    exact ⟨(toE_sound hO (.lf t) cs vs x hv h).zone hz, rfl⟩
  | .oq, cs, x, vs, h, hv => ⟨(toE_sound hO .oq cs vs x hv h).zone hz, rfl⟩
  | .pt t, cs, x, vs, h, hv => by
    have h : toP O t cs = some x := h
    unfold toP at h
    split at h
    · split at h
      · rename_i hi; exact absurd hi (hn _ _)
      · cases h
    · cases h
  | .sl t, cs, x, vs, h, hv => by
    unfold RQ
    rw [if_neg (by simp)]
    exact ⟨(toE_sound hO (.sl t) cs vs x hv h).zone hz, rfl⟩
  | .pr a b, cs, x, vs, h, hv => by
    unfold toR at h
    split at h
    · rename_i y z h1 h2
      cases h
      exact ⟨_, _, [], [], (List.take_append_drop a.size vs).symm, rfl, RQ.mk_read hO hz hn h1 (hv.take _), RQ.mk_read hO hz hn h2 (hv.drop _)⟩
    · cases h
theorem RQs.mk_read {c : Cf} {w : World} {base : Nat} {O : Store} (hO : ∀ i o, O i = some o → ObOk c w i o) (hz : ∀ g, Zall c O g → c.Z g) (hn : ∀ i cs, O i ≠ some (.var cs)) : ∀ {ts : List Ty} {ps : List (Bool × List Ce)} {x : Els ts} {us : List Value}, toRs O ts ps = some x → us.length = ps.length → (∀ (i : Nat) (v : Value) (p : Bool × List Ce), us[i]? = some v → ps[i]? = some p → RP c w v p) → RQs false c.Z w base ts x us []
  | [], [], x, [], h, _, _ => rfl
  | [], [], _, _ :: _, _, h, _ => by simp at h
  | [], _ :: _, _, _, h, _, _ => by simp [toRs] at h
  | _ :: _, [], _, _, h, _, _ => by simp [toRs] at h
  | _ :: _, _ :: _, _, [], _, h, _ => by simp at h
  | t :: ts, (b, cs) :: ps, x, v :: us, k, hl, hv => by
    unfold toRs at k
    split at k
    · rename_i x1 x2 k1 k2
      cases k
      cases hb : (b == t.agg) with
      | false => simp only [hb] at k1; cases k1
      | true =>
        simp only [hb, cond_true] at k1
        have hb' : b = t.agg := by simpa using hb
        have hr := hv 0 v (b, cs) rfl rfl
        unfold RP at hr
        simp only [] at hr
        refine ⟨[], [], rfl, ?_, RQs.mk_read hO hz hn k2 (by simpa using hl) (fun i u p e1 e2 => hv (i + 1) u p (by simpa using e1) (by simpa using e2))⟩
        unfold RQv
        rw [← hb']
        split
        · rename_i h1; rw [if_pos h1] at hr; obtain ⟨us, e, h⟩ := hr; exact ⟨us, e, RQ.mk_read hO hz hn k1 h⟩
        · rename_i h1; rw [if_neg h1] at hr; obtain ⟨z, rfl, h⟩ := hr; exact RQ.mk_read hO hz hn k1 (RL.one h)
    · cases k
theorem fnOk_of {P : Program} {C : Cfg} {S : Spec} {f : Nat} {fn : Func} {code : Code} (iv : El S.q → Els S.ps → Nat → Option Inv) (hf : P.funcs[f]? = some fn) (hb : fn.body = some code) (hname : (fn.name == "runtime.NumGoroutine") = false) (hT : tyB P C.ty C.ty = true) (hP : ∀ f p, look C.pr f = some p → PrimOk P f p) (hm : P.follows .mixedOrders = true) (hN : C.N ≤ fn.ntmps) (hh : C.hp = S.ptr)
    (h : ∀ y x, (S.ptr = false → y = dfl S.q) → wfE S.q y → wfEs S.ps x → holds (S.pre y x) → aw C (iv y x) code 0 (retQ C S fn.results.toList y x) (startT S x) (startO S y) 1) : FnOk P f S := by
  refine ⟨callFunc_enter hf hname hb, fun Z w gv vs y x hZ hv hc hp1 hp2 => ?_⟩
  let gp : Option Nat := if S.ptr = true then some gv else none
  let c : Cf := ⟨fun i => if i = 0 ∧ S.ptr = true then some ⟨some gv, 0, 0, []⟩ else none, Z⟩
  refine calls_of_wp hf hb ?_
  obtain ⟨tm, htm⟩ : ∃ tm, tm = (if S.ptr = true then (.pointer (some ⟨gv, 0, none⟩) :: vs).toArray else vs.toArray) ++ Array.replicate (fn.ntmps - (if S.ptr = true then (.pointer (some ⟨gv, 0, none⟩) :: vs).toArray else vs.toArray).size) undef := ⟨_, rfl⟩
  rw [← htm]
  have hsz : C.N ≤ tm.size := by rw [htm, Array.size_append, Array.size_replicate]; omega
  have wq : wfE S.q y := by
    cases hp : S.ptr with
    | true => obtain ⟨_, _, _, _, hr⟩ := hp1 hp; exact hr.wf
    | false =>
      rw [hp2 hp]
      have : S.q = .un := by
        unfold Spec.ptr at hp
        split at hp
        · assumption
        · cases hp
      rw [this]
      trivial
  have S0 : Sim gp Z (Base.of w) C.N (fun i => i < 1) c (look (startT S x)) (look (startO S y)) tm w := by
    cases hp : S.ptr with
    | false =>
      have hT0 : startT S x = argT 0 S.ps x := by unfold startT; rw [hp]
      have hO0 : startO S y = [] := by unfold startO; rw [hp]
      have hm0 : ∀ i, c.m i = none := fun i => if_neg (fun h => by rw [hp] at h; cases h.2)
      rw [hT0, hO0]
      refine ⟨fun t v ht => (argT_sound (c := c) (w := w) (n := 0) (tm := tm) hv (fun i v hi => ?_) t v ht).2, fun i o h => (by cases h), fun i j o p e f g h => (by cases h), fun i o e g h => (by cases h), hZ.lt, fun i o e g h => (by cases h), fun i e h => (by rw [hm0] at h; cases h), World.grownBy.refl w _, fun g h => .inl h, hsz, fun k hk => ?_, fun g h => h, hZ.gl⟩
      · rw [htm, hp, if_neg (by simp), Nat.zero_add, Array.getElem?_append_left (by simpa using (List.getElem?_eq_some_iff.1 hi).1)]
        simpa using hi
      · have : gp = none := if_neg (by simp [hp])
        rw [this] at hk; cases hk
    | true =>
      have hT0 : startT S x = (0, .c (.pv 0 0)) :: argT 1 S.ps x := by unfold startT; rw [hp]
      have hO0 : startO S y = [(0, .var (cel S.q y))] := by unfold startO; rw [hp]
      have hm0 : c.m 0 = some ⟨some gv, 0, 0, []⟩ := if_pos ⟨rfl, hp⟩
      have hm1 : ∀ i e, c.m i = some e → i = 0 ∧ e = ⟨some gv, 0, 0, []⟩ := fun i e h => by
        have h' : (if i = 0 ∧ S.ptr = true then some (⟨some gv, 0, 0, []⟩ : Ent) else none) = some e := h
        split at h'
        · rename_i h0; cases h'; exact ⟨h0.1, rfl⟩
        · cases h'
      obtain ⟨hz, cells, et, q1, q2⟩ := hp1 hp
      have hgp : gp = some gv := if_pos hp
      have lk : ∀ i o, look (startO S y) i = some o → i = 0 ∧ o = .var (cel S.q y) := fun i o h => by
        rw [hO0, look_one] at h
        split at h
        · rename_i h0; cases h; exact ⟨h0, rfl⟩
        · cases h
      refine ⟨fun t v ht => ?_, fun i o h => ?_, fun i j o p e f g h1 h2 _ _ h3 => absurd ((lk i o h1).1.trans (lk j p h2).1.symm) h3, fun i o e g h1 h2 h3 h4 => ?_, hZ.lt, fun i o e g h1 h2 h3 h4 => ?_, fun i e h => by rw [(hm1 i e h).1]; exact Nat.lt_succ_self 0, World.grownBy.refl w _, fun g h => .inl h, hsz, fun k hk => ?_, fun g h => h, hZ.gl⟩
      · rw [hT0] at ht
        have htm' : tm = (.pointer (some ⟨gv, 0, none⟩) :: vs).toArray ++ Array.replicate (fn.ntmps - (.pointer (some ⟨gv, 0, none⟩) :: vs).toArray.size) undef := by rw [htm, if_pos hp]
        have at_ : ∀ i v, (Value.pointer (some ⟨gv, 0, none⟩) :: vs)[i]? = some v → tm[i]? = some v := fun i v hi => by
          rw [htm', Array.getElem?_append_left (by simpa using (List.getElem?_eq_some_iff.1 hi).1)]
          simpa using hi
        unfold look at ht
        cases hb0 : Nat.beq 0 t with
        | true =>
          rw [hb0] at ht
          have h0 := Nat.eq_of_beq_eq_true hb0
          subst h0
          cases ht
          exact ⟨_, at_ 0 _ rfl, _, gv, hm0, rfl, rfl⟩
        | false =>
          rw [hb0] at ht
          exact (argT_sound (c := c) (w := w) (n := 1) (tm := tm) hv (fun i v hi => at_ (1 + i) v (by rw [Nat.add_comm]; simpa using hi)) t v ht).2
      · obtain ⟨rfl, rfl⟩ := lk i o h
        exact ⟨_, gv, cells, et, hm0, rfl, rfl, q1, q2.cel⟩
      · obtain ⟨_, rfl⟩ := hm1 i e h3
        have h4 : some gv = some g := (Ent.has_one rfl).1 h4
        cases h4
        exact hz
      · obtain ⟨_, rfl⟩ := hm1 i e h3
        have h4 : some gv = some g := (Ent.has_one rfl).1 h4
        exact .inr (hgp.trans h4)
      · rw [hgp] at hk
        cases hk
        exact ⟨_, _, by rw [hO0]; rfl, hm0, rfl⟩
  have hgp : gp ≠ none → C.hp = true := fun hne => by
    rw [hh]
    cases hp : S.ptr with
    | true => rfl
    | false => exact absurd (if_neg (by simp [hp])) hne
  refine wp_mono (aw_sound (a := { tmps := tm, defers := [] }) hT hP hm hgp code (h y x hp2 wq hv.wf hc) S0 rfl) ?_
  rintro e a' w' ⟨hd', tm', ob', n', c', S1, hq⟩
  obtain ⟨he, ps, r, r1, r2, r3, r4, r5⟩ := retQ_exit hq
  obtain ⟨us, u1, u2, u3⟩ := resV_run hT S1 r1
  obtain ⟨v, v1, v2⟩ := results_run (fn := fn) (a := a') u1
  have fin : ∃ us bs Z', told_ us v ∧ RQs S.fresh Z' w' w.heap.size S.rs (S.post y x).2 us bs ∧ bs.Nodup ∧ (∀ g ∈ bs, ¬ Z' g) ∧
      (∀ g, Z g → Z' g) ∧ (∀ g, Z' g → Z g ∨ w.heap.size ≤ g) ∧ (∀ g, Z' g → g < w'.heap.size) ∧ w.grownBy w' (if S.ptr = true then some gv else none) ∧
      (S.ptr = true → ∃ cells et, w'.heap[gv]? = some (.cells cells et (0, 0)) ∧ RT Z' w' S.q (S.post y x).1 cells.toList) := by
    have last : ∀ {c2 : Cf} {O2 : Store}, Sim gp Z (Base.of w) C.N (fun i => i < n') c2 (look tm') O2 a'.tmps w' → (∀ cs, look ob' 0 = some (.var cs) → O2 0 = some (.var cs)) → (S.ptr = true → ∃ cells et, w'.heap[gv]? = some (.cells cells et (0, 0)) ∧ RT c2.Z w' S.q (S.post y x).1 cells.toList) := fun {c2 O2} S2 hO2 hp => by
      obtain ⟨cs, h1, h2⟩ := r5 hp
      obtain ⟨cs', e, k1, k2, k3⟩ := S2.gpv gv (if_pos hp)
      rw [hO2 cs h1] at k1
      cases k1
      obtain ⟨e', g', cells, et, l1, l2, _, l3, l4⟩ := S2.obj 0 _ (hO2 cs h1)
      rw [k2] at l1; cases l1
      rw [k3] at l2; cases l2
      exact ⟨cells, et, l3, (toE_sound (O := fun _ => none) (fun i o h => by cases h) S.q cs _ _ l4 h2).zone (fun g hg => by
        rcases hg with hg | ⟨_, _, _, h, _⟩
        · exact hg
        · cases h)⟩
    cases hfr : S.fresh with
    | true =>
      rw [hfr] at r2 r3
      unfold frsOk at r2
      simp only [cond_true] at r2
      split at r2
      · rename_i l hl
        have r3' : toRs (look ob') S.rs ps = some r := r3
        obtain ⟨q1, q2⟩ := frsEs_sound S1 hl r3' u2 u3
        rw [r4] at q1
        refine ⟨us, blks c' l, c'.Z, v2, q1, blks_nodup S1 (nodupN_sound r2) q2, fun g hg hz => ?_, S1.z0, S1.zz, S1.zl, S1.gr, last S1 (fun _ h => h)⟩
        obtain ⟨i, e, hi, e1, e2⟩ := blks_mem hg
        obtain ⟨o, o1, o2⟩ := q2 i hi
        exact S1.zo i o e g o1 o2 e1 e2 hz
      · cases r2
    | false =>
      rw [hfr] at r3
      unfold retV at r3
      simp only [] at r3
      split at r3
      · rename_i fz hfz
        have hfz' := fz_look (O := look ob') (fun _ _ h => h) (frz_sound hfz)
        obtain ⟨c2, le2, m2, S2⟩ := S1.freeze hfz'
        obtain ⟨z1, z2⟩ := onlyFz_zone (fun _ _ h => h) hfz' S2
        have q := RQs.mk_read (base := w.heap.size) z1 z2 (fun i cs h => by
          unfold onlyFz at h
          cases hl : look fz i with
          | some p =>
            rw [hl] at h
            cases h
            obtain ⟨_, _, _, e⟩ := (hfz' i _ hl).fz
            cases e
          | none =>
            rw [hl] at h
            simp only [] at h
            split at h <;> cases h) r3 u2 (fun i v p e1 e2 => (u3 i v p e1 e2).mono le2 (Stay.refl _ _))
        rw [r4] at q
        refine ⟨us, [], c2.Z, v2, q, List.nodup_nil, fun g hg => by simp at hg, S2.z0, S2.zz, S2.zl, S2.gr, last S2 (fun cs h => ?_)⟩
        unfold upO
        cases hl : look fz 0 with
        | none => exact h
        | some p =>
          obtain ⟨o, e, _, e2⟩ := (hfz' 0 _ hl).some
          have e : look ob' 0 = some o := e
          rw [h] at e; cases e
          exact absurd rfl (e2 cs)
      · cases r3
  obtain ⟨us, bs, Z', k1, k⟩ := fin
  rcases he with rfl | rfl
  · exact ⟨hd', v, v1, v, us, bs, Z', rfl, k1, k⟩
  · exact ⟨hd', v, v1, v, us, bs, Z', rfl, k1, k⟩
end Go.Proofs.YtemlaompalbgiaaGreatDoor
namespace Go.Proofs.YtemlaompalbgiaaGreatDoor
structure Fr where
  neg : Bool
  num : List Int
  den : List Int
  deriving DecidableEq
def Fr.zero : Fr := ⟨false, [], []⟩
structure Fr.Wf (a : Fr) : Prop where
  num : Go.Proofs.YtemlaompalbgiaaGreatDoor.Wf a.num
  den : Go.Proofs.YtemlaompalbgiaaGreatDoor.Wf a.den
def enc (q : Rat) : Fr := ⟨decide (q.num < 0), wd q.num.natAbs, wd q.den⟩
def lng (q : Rat) : Bool := decide (2048 < (wd q.num.natAbs).length ∨ 2048 < (wd q.den).length)
def tell (q : Rat) : Fr × Int := if lng q = true then (Fr.zero, 3) else (enc q, 0)
def sg (neg : Bool) (m : Nat) : Int := if neg = true then -(m : Int) else m
def Fr.q (a : Fr) : Rat := mkRat (sg a.neg (val a.num).toNat) (val a.den).toNat
def fchk (a : Fr) : Int :=
  if 2048 < a.num.length then 3 else if 2048 < a.den.length then 3 else if chk a.num ≠ 0 then 11 else if chk a.den ≠ 0 then 11 else if a.den.length = 0 then 11
  else if a.num.length = 0 ∧ a.neg = true then 11 else if Nat.gcd (val a.num).toNat (val a.den).toNat ≠ 1 then 11 else 0
theorem enc_wf (q : Rat) : (enc q).Wf := ⟨wf_wd _, wf_wd _⟩
theorem Fr.zero_wf : Fr.zero.Wf := ⟨wf_nil, wf_nil⟩
theorem sg_natAbs (b : Bool) (m : Nat) : (sg b m).natAbs = m := by unfold sg; split <;> omega
theorem enc_mk (b : Bool) (m n : Nat) (hn : n ≠ 0) : enc (mkRat (sg b m) n) = ⟨b && decide (m ≠ 0), wd (m / Nat.gcd m n), wd (n / Nat.gcd m n)⟩ := by
  have hg : 0 < Nat.gcd m n := Nat.gcd_pos_of_pos_right m (by omega)
  have hden : (mkRat (sg b m) n).den = n / Nat.gcd m n := by rw [Rat.den_mkRat, if_neg hn, sg_natAbs, Nat.gcd_comm]
  have hnum : (mkRat (sg b m) n).num = sg b (m / Nat.gcd m n) := by
    rw [Rat.num_mkRat, if_neg hn, sg_natAbs, Nat.gcd_comm n m]
    unfold sg
    split
    · rw [Int.neg_ediv_of_dvd (Int.natCast_dvd_natCast.2 (Nat.gcd_dvd_left m n)), Int.natCast_ediv]
    · rw [Int.natCast_ediv]
  have hz : m / Nat.gcd m n = 0 ↔ m = 0 := by
    constructor
    · intro h
      have := Nat.div_mul_cancel (Nat.gcd_dvd_left m n)
      rw [h, Nat.zero_mul] at this
      exact this.symm
    · intro h; rw [h, Nat.zero_div]
  unfold enc
  rw [hden, hnum, sg_natAbs]
  congr 1
  generalize m / Nat.gcd m n = t at hz
  unfold sg
  cases b with
  | false => rw [if_neg (by simp), decide_eq_false (by omega)]; rfl
  | true =>
    rw [if_pos rfl, Bool.true_and]
    by_cases hm : m = 0
    · have := hz.2 hm
      rw [decide_eq_false (by omega), decide_eq_false (by omega)]
    · have := mt hz.1 hm
      rw [decide_eq_true (by omega), decide_eq_true (by omega)]
theorem lng_of {q : Rat} (h1 : (wd q.num.natAbs).length ≤ 2048) (h2 : (wd q.den).length ≤ 2048) : ¬ lng q = true := by
  unfold lng
  simp
  omega
theorem chk_ok {xs : List Int} (hw : Wf xs) (h : chk xs = 0) : xs = wd (val xs).toNat ∧ xs.length ≤ 8192 := by
  unfold chk at h
  by_cases h1 : 8192 < xs.length
  · rw [if_pos h1] at h; omega
  · rw [if_neg h1] at h
    refine ⟨(wd_val hw fun hne => ?_).symm, by omega⟩
    by_cases h2 : xs ≠ [] ∧ nth xs (xs.length - 1) = 0
    · rw [if_pos h2] at h; omega
    · exact fun e => h2 ⟨hne, e⟩
theorem fchk_ok {a : Fr} (hw : a.Wf) (h : fchk a = 0) : ∃ q, a = enc q ∧ ¬ lng q = true := by
  unfold fchk at h
  by_cases h1 : 2048 < a.num.length
  · rw [if_pos h1] at h; omega
  rw [if_neg h1] at h
  by_cases h2 : 2048 < a.den.length
  · rw [if_pos h2] at h; omega
  rw [if_neg h2] at h
  by_cases h3 : chk a.num ≠ 0
  · rw [if_pos h3] at h; omega
  rw [if_neg h3] at h
  by_cases h4 : chk a.den ≠ 0
  · rw [if_pos h4] at h; omega
  rw [if_neg h4] at h
  by_cases h5 : a.den.length = 0
  · rw [if_pos h5] at h; omega
  rw [if_neg h5] at h
  by_cases h6 : a.num.length = 0 ∧ a.neg = true
  · rw [if_pos h6] at h; omega
  rw [if_neg h6] at h
  by_cases h7 : Nat.gcd (val a.num).toNat (val a.den).toNat ≠ 1
  · rw [if_pos h7] at h; omega
  have hg : Nat.gcd (val a.num).toNat (val a.den).toNat = 1 := by omega
  obtain ⟨e1, l1⟩ := chk_ok hw.num (by omega)
  obtain ⟨e2, l2⟩ := chk_ok hw.den (by omega)
  have hd : (val a.den).toNat ≠ 0 := fun e => h5 (by rw [e2, e, wd_zero]; rfl)
  have he : enc (mkRat (sg a.neg (val a.num).toNat) (val a.den).toNat) = a := by
    rw [enc_mk _ _ _ hd, hg, Nat.div_one, Nat.div_one, ← e1, ← e2]
    have : (a.neg && decide ((val a.num).toNat ≠ 0)) = a.neg := by
      cases hn : a.neg with
      | false => rfl
      | true =>
        have : (val a.num).toNat ≠ 0 := fun e => h6 ⟨by rw [e1, e, wd_zero]; rfl, hn⟩
        simp [this]
    rw [this]
  refine ⟨_, he.symm, lng_of ?_ ?_⟩
  · have := congrArg (·.num.length) he
    simp only [enc] at this
    omega
  · have := congrArg (·.den.length) he
    simp only [enc] at this
    omega
def both (a b : Fr) (r : Rat → Rat → Fr × Int) : Fr × Int := if fchk a ≠ 0 then (Fr.zero, fchk a) else if fchk b ≠ 0 then (Fr.zero, fchk b) else r a.q b.q
def fadd (a b : Fr) : Fr × Int := both a b fun p q => tell (p + q)
theorem tell_wf (q : Rat) : (tell q).1.Wf := by unfold tell; split; exact Fr.zero_wf; exact enc_wf q
theorem enc_zero : enc 0 = ⟨false, [], [1]⟩ := by
  unfold enc
  have h1 : wd 1 = [1] := by rw [wd_pos 1 (by omega)]; rw [show 1 / 4294967296 = 0 from rfl, wd_zero]; rfl
  rw [Rat.zero_num, Rat.zero_den, show Int.natAbs 0 = 0 from rfl, wd_zero, h1]
  rfl
theorem wd_one : wd 1 = [1] := by rw [wd_pos 1 (by omega)]; rw [show 1 / 4294967296 = 0 from rfl, wd_zero]; rfl
def fchk2 (a b : Fr) : Int := if fchk a ≠ 0 then fchk a else fchk b
structure Ga where
  re : Fr
  im : Fr
  deriving DecidableEq
def Ga.zero : Ga := ⟨Fr.zero, Fr.zero⟩
def gchk (a : Ga) : Int := fchk2 a.re a.im
def gchk2 (a b : Ga) : Int := if gchk a ≠ 0 then gchk a else gchk b
def stp (e : Int) (t : Fr × Int) : Fr × Int := if e ≠ 0 then (Fr.zero, e) else t
def gtell (e : Int) (r i : Fr) : Ga × Int := if e ≠ 0 then (Ga.zero, e) else (⟨r, i⟩, 0)
def wadd (e : Int) (a b : Fr) : Fr × Int := stp e (fadd a b)
def gadd (a b : Ga) : Ga × Int :=
  let r := wadd (gchk2 a b) a.re b.re
  let i := wadd r.2 a.im b.im
  gtell i.2 r.1 i.1
section
variable {a b : Ga}
end
end Go.Proofs.YtemlaompalbgiaaGreatDoor
namespace Go.Proofs.YtemlaompalbgiaaGreatDoor
open Go Go.RowKit
set_option maxHeartbeats 400000 in
theorem cut_any (A : Option Addr) (xs : List Int) (c : Nat) (w : World) (h : Rd w A c xs) :
    Calls Tryz.prog 201 #[.slice A xs.length c] w fun e w' => e = .returned (.slice A (tl xs xs.length) c) ∧ w = w' := by
  have hl := h.lim
  have hc := h.cap
  have HA := Lib.hid h.at_
  clear h
  go_enter Tryz.func201, Tryz.ntmps201
  go_wp2
  go_loop [3] (fun i => ∃ k : Nat, k ≤ xs.length ∧ tl xs k = tl xs xs.length ∧ i = .int .i64 k) (fun i => (intOf i).toNat)
  case atStart => exact ⟨xs.length, by omega, rfl, rfl⟩
  case round =>
    obtain ⟨k, hk, hj, rfl⟩ := hrel
    cases k with
    | zero =>
      have HJ := Lib.hid hj
      clear hj
      go_wp2
      go_ret
      exact ⟨by rw [← HJ.out]; rfl, rfl⟩
    | succ k =>
      obtain ⟨a, rfl, hcell⟩ := HA.out k (by omega)
      by_cases hz : nth xs k = 0
      · have HJ := Lib.hid ((tl_zero xs k hz).symm.trans hj)
        clear hj
        rw [hz] at hcell
        clear hz
        go_wp2
        go_round
        case rel => exact ⟨k, by omega, HJ.out, by go_num⟩
        case measure => simp [intOf]
      · have HJ := Lib.hid ((tl_here xs k hz).symm.trans hj)
        clear hj
        have hz' : (nth xs k == 0) = false := by simpa using hz
        clear hz
        go_wp2
        go_ret
        exact ⟨by rw [← HJ.out]; rfl, rfl⟩
set_option maxHeartbeats 400000 in
theorem check_any (A : Option Addr) (xs : List Int) (c : Nat) (w : World) (h : Rd w A c xs) :
    Calls Tryz.prog 138 #[.slice A xs.length c] w fun e w' => e = .returned (.int .i64 (chk xs)) ∧ w = w' := by
  have hl := h.lim
  have hc := h.cap
  have HA := Lib.hid h.at_
  clear h
  by_cases h1 : 8192 < xs.length
  · have HE := Lib.hid (show chk xs = 3 by unfold chk; rw [if_pos h1])
    go_enter Tryz.func138, Tryz.ntmps138
    go_wp2
    go_ret
    exact ⟨by rw [HE.out]; rfl, rfl⟩
  · by_cases h0 : xs.length = 0
    · have HE := Lib.hid (show chk xs = 0 by unfold chk; rw [if_neg h1, if_neg]; rintro ⟨h2, _⟩; exact h2 (List.eq_nil_of_length_eq_zero h0))
      have hn : ((xs.length : Int) > 0) = False := by rw [h0]; simp
      have hn' : ¬ (0 < xs.length) := by omega
      clear h0
      go_enter Tryz.func138, Tryz.ntmps138
      go_wp2
      go_ret
      exact ⟨by rw [HE.out]; rfl, rfl⟩
    · obtain ⟨k, hk⟩ := Nat.exists_eq_succ_of_ne_zero h0
      obtain ⟨a, rfl, hcell⟩ := HA.out k (by omega)
      have hp : 0 < xs.length := by omega
      have hi : ((xs.length : Int) - 1).toNat = k := by omega
      by_cases hz : nth xs k = 0
      · have HE := Lib.hid (show chk xs = 11 by
          unfold chk; rw [if_neg h1, if_pos ⟨fun e => by simp [e] at hp, by rw [hk]; exact hz⟩])
        rw [hz] at hcell
        clear hz hk h0
        go_enter Tryz.func138, Tryz.ntmps138
        go_wp2
        go_ret
        exact ⟨by rw [HE.out]; rfl, rfl⟩
      · have HE := Lib.hid (show chk xs = 0 by
          unfold chk; rw [if_neg h1, if_neg]; rintro ⟨_, h2⟩; rw [hk] at h2; exact hz h2)
        have hz' : (nth xs k == 0) = false := by simpa using hz
        clear hz hk h0
        go_enter Tryz.func138, Tryz.ntmps138
        go_wp2
        go_ret
        exact ⟨by rw [HE.out]; rfl, rfl⟩
set_option maxHeartbeats 400000 in
theorem checked_any (A B : Option Addr) (xs ys : List Int) (c d : Nat) (w : World) (h : Rd w A c xs) (k : Rd w B d ys) :
    Calls Tryz.prog 210 #[.slice A xs.length c, .slice B ys.length d] w fun e w' => e = .returned (.int .i64 (chk2 xs ys)) ∧ w = w' := by
  have H := Lib.hid h
  have K := Lib.hid k
  clear h k
  by_cases hz : chk xs = 0
  · have HE := Lib.hid (show chk2 xs ys = chk ys from if_pos hz)
    have Hz := Lib.hid hz
    clear hz
    go_enter Tryz.func210, Tryz.ntmps210
    go_wp2_with fail
    refine (check_any _ _ _ _ H.out).mono ?_; rintro e w' ⟨rfl, rfl⟩
    rw [Hz.out]
    go_wp2_with fail
    refine (check_any _ _ _ _ K.out).mono ?_; rintro e w' ⟨rfl, rfl⟩
    go_wp2_with fail
    go_ret
    exact ⟨by rw [HE.out]; rfl, rfl⟩
  · have HE := Lib.hid (show chk2 xs ys = chk xs from if_neg hz)
    have hz' : (chk xs != 0) = true := by simpa using hz
    clear hz
    go_enter Tryz.func210, Tryz.ntmps210
    go_wp2_with fail
    refine (check_any _ _ _ _ H.out).mono ?_; rintro e w' ⟨rfl, rfl⟩
    go_wp2_with fail
    go_ret
    exact ⟨by rw [HE.out]; rfl, rfl⟩
theorem checked_ok (A B : Option Addr) (m n : Nat) (c d : Nat) (w : World) (h : Rd w A c (wd m)) (k : Rd w B d (wd n)) (hm : (wd m).length ≤ 8192) (hn : (wd n).length ≤ 8192) :
    Calls Tryz.prog 210 #[.slice A (wd m).length c, .slice B (wd n).length d] w fun e w' => e = .returned (.int .i64 0) ∧ w = w' := by
  have := checked_any A B _ _ c d w h k
  rw [show chk2 (wd m) (wd n) = 0 by unfold chk2; rw [chk_wd m hm, chk_wd n hn]; rfl] at this
  exact this
theorem cut_own (A : Option Addr) (xs : List Int) (c base l : Nat) (w : World) (h : Own w base A c xs) (hl : xs.length = l) (hw : Wf xs) (n : Nat) (hv : val xs = n) :
    Calls Tryz.prog 201 #[.slice A l c] w fun e w' => e = .returned (.slice A (wd n).length c) ∧ Own w base A c (wd n) ∧ w = w' := by
  have ht : xs.take (tl xs xs.length) = wd n := by rw [tl_all hw, hv]; rfl
  have ht2 : tl xs xs.length = (wd n).length := by
    rw [← ht, List.length_take]; have := tl_le xs xs.length; omega
  have HO : Own w base A c (wd n) := by rw [← ht]; exact h.take _
  subst hl
  refine (cut_any _ _ _ _ h.rd).mono ?_
  rintro e w' ⟨rfl, rfl⟩
  exact ⟨by rw [ht2], HO, rfl⟩
set_option maxHeartbeats 400000 in
theorem told_ok (A : Option Addr) (xs : List Int) (c base l : Nat) (w : World) (h : Own w base A c xs) (hl : xs.length = l) (hw : Wf xs) (n : Nat) (hv : val xs = n) (hn : (wd n).length ≤ 8192) :
    Calls Tryz.prog 209 #[.slice A l c] w fun e w' => e = .returned (.tuple #[.slice A (wd n).length c, .int .i64 0]) ∧ Own w base A c (wd n) ∧ w = w' := by
  have H := Lib.hid (cut_own A xs c base l w h hl hw n hv)
  clear h hw hv hl
  go_enter Tryz.func209, Tryz.ntmps209
  go_wp2_with fail
  refine H.out.mono ?_; rintro e w' ⟨rfl, HO, rfl⟩
  have HO2 := Lib.hid HO
  clear HO
  go_wp2_with fail
  go_ret2
  exact ⟨rfl, HO2.out, rfl⟩
theorem V_below {xs ys : List Int} (hx : Wf xs) (hy : Wf ys) (k : Nat) (h : nth xs k < nth ys k) : V xs (k + 1) < V ys (k + 1) := by
  rw [V_succ, V_succ]
  have a := V_lt hx k
  have b := V_nonneg hy k
  have c : (nth xs k + 1) * pw k ≤ nth ys k * pw k := Int.mul_le_mul_of_nonneg_right (by omega) (Int.le_of_lt (pw_pos k))
  rw [Int.add_mul] at c
  omega
set_option maxHeartbeats 1000000 in
theorem compare_any (A B : Option Addr) (m n : Nat) (c d : Nat) (w : World) (ha : Rd w A c (wd m)) (hb : Rd w B d (wd n)) :
    Calls Tryz.prog 122 #[.slice A (wd m).length c, .slice B (wd n).length d] w fun e w' => e = .returned (.int .i64 (cmp m n)) ∧ Ext w w' := by
  have la := ha.lim
  have lb := hb.lim
  have HA := Lib.hid ha
  have HB := Lib.hid hb
  have Hm := Lib.hid (tl_wd m)
  have Hn := Lib.hid (tl_wd n)
  clear ha hb
  by_cases hne : (wd m).length = (wd n).length
  · have HNE := Lib.hid hne
    have hbe : (((wd m).length : Int) != ((wd n).length : Int)) = false := by simp [hne]
    clear hne
    go_enter Tryz.func122, Tryz.ntmps122
    go_wp2_with fail
    refine (cut_any _ _ _ _ HA.out).mono ?_; rintro e w' ⟨rfl, rfl⟩
    rw [Hm.out]
    go_wp2_with fail
    refine (cut_any _ _ _ _ HB.out).mono ?_; rintro e w' ⟨rfl, rfl⟩
    rw [Hn.out]
    go_wp2_with fail
    go_loopw [5] (fun i wr => ∃ k : Nat, k ≤ (wd m).length ∧ Hid (V (wd m) k + V (wd n) (wd m).length = V (wd n) k + V (wd m) (wd m).length) ∧ i = .int .i64 ((k : Int) - 1) ∧ Hid (Ext w wr)) (fun i _ => (intOf i + 1).toNat)
    case atStart => exact ⟨(wd m).length, by omega, by show _ = _; omega, rfl, Ext.refl _⟩
    case round =>
      obtain ⟨k, hk, hv, rfl, HX⟩ := hrel
      cases k with
      | zero =>
        have HE := Lib.hid (show cmp m n = 0 by
          apply cmp_eq
          have h1 := val_wd m
          have h2 := val_wd n
          have h3 := hv.out
          unfold val at h1 h2
          rw [← HNE.out] at h2
          rw [V_zero, V_zero] at h3
          omega)
        go_wp2_with fail
        go_ret
        exact ⟨by rw [HE.out]; rfl, HX.out⟩
      | succ k =>
        have e1 : (((k + 1 : Nat) : Int) - 1) = (k : Int) := by omega
        rw [e1]
        clear e1
        obtain ⟨a, rfl, hca⟩ := (HA.out.ext HX.out).at_ k (by omega)
        obtain ⟨b, rfl, hcb⟩ := (HB.out.ext HX.out).at_ k (by have := HNE.out; omega)
        have hkn : k < (wd n).length := by have := HNE.out; omega
        by_cases h1 : nth (wd m) k < nth (wd n) k
        · have HE := Lib.hid (show cmp m n = -1 by
            apply cmp_lt
            have h2 := V_below (wf_wd m) (wf_wd n) k h1
            have h3 := hv.out
            have h4 := val_wd m
            have h5 := val_wd n
            unfold val at h4 h5
            rw [← HNE.out] at h5
            omega)
          go_wp2_with fail
          go_quiet (fail)
          go_wp2_with fail
          go_ret
          exact ⟨by rw [HE.out]; rfl, HX.out.drewN _⟩
        · by_cases h2 : nth (wd n) k < nth (wd m) k
          · have HE := Lib.hid (show cmp m n = 1 by
              apply cmp_gt
              have h2 := V_below (wf_wd n) (wf_wd m) k h2
              have h3 := hv.out
              have h4 := val_wd m
              have h5 := val_wd n
              unfold val at h4 h5
              rw [← HNE.out] at h5
              omega)
            go_wp2_with fail
            go_quiet (fail)
            go_wp2_with fail
            go_quiet (fail)
            go_wp2_with fail
            go_ret
            exact ⟨by rw [HE.out]; rfl, (HX.out.drewN _).drewN _⟩
          · have HV := Lib.hid (show V (wd m) k + V (wd n) (wd m).length = V (wd n) k + V (wd m) (wd m).length by
              have h3 := hv.out
              rw [V_succ, V_succ, show nth (wd m) k = nth (wd n) k by omega] at h3
              omega)
            go_wp2_with fail
            go_quiet (fail)
            go_wp2_with fail
            go_quiet (fail)
            go_wp2_with fail
            go_roundw
            case rel => exact ⟨k, by omega, HV.out, by go_num, HX.out.drewN _⟩
            case measure => simp [intOf]
  · have hbe : (((wd m).length : Int) != ((wd n).length : Int)) = true := by simp; omega
    by_cases hlt : (wd m).length < (wd n).length
    · have HE := Lib.hid (cmp_lt (wd_len_lt hlt))
      clear hne
      go_enter Tryz.func122, Tryz.ntmps122
      go_wp2_with fail
      refine (cut_any _ _ _ _ HA.out).mono ?_; rintro e w' ⟨rfl, rfl⟩
      rw [Hm.out]
      go_wp2_with fail
      refine (cut_any _ _ _ _ HB.out).mono ?_; rintro e w' ⟨rfl, rfl⟩
      rw [Hn.out]
      go_wp2_with fail
      go_ret
      exact ⟨by rw [HE.out]; rfl, Ext.refl _⟩
    · have HE := Lib.hid (cmp_gt (wd_len_lt (show (wd n).length < (wd m).length by omega)))
      clear hne
      go_enter Tryz.func122, Tryz.ntmps122
      go_wp2_with fail
      refine (cut_any _ _ _ _ HA.out).mono ?_; rintro e w' ⟨rfl, rfl⟩
      rw [Hm.out]
      go_wp2_with fail
      refine (cut_any _ _ _ _ HB.out).mono ?_; rintro e w' ⟨rfl, rfl⟩
      rw [Hn.out]
      go_wp2_with fail
      go_ret
      exact ⟨by rw [HE.out]; rfl, Ext.refl _⟩
set_option maxHeartbeats 400000 in
theorem clone_any (A : Option Addr) (xs : List Int) (c : Nat) (w : World) (h : Rd w A c xs) (hl : xs.length ≤ 35184372088832) :
    Calls Tryz.prog 196 #[.slice A xs.length c] w fun e w' => ∃ A' c', e = .returned (.slice A' xs.length c') ∧ Own w' w.heap.size A' c' xs ∧ Ext w w' := by
  have heq := fun (wx : World) (B : Option Addr) (n k : Nat) => Lib.run_eql_slice_nil (P := Tryz.prog) wx 22 91 B n k 0 0 Tryz.underlying22
  cases A with
  | none =>
    obtain rfl : c = 0 := h.none_ rfl
    obtain rfl : xs = [] := List.eq_nil_of_length_eq_zero (Nat.le_zero.1 h.cap)
    clear h
    go_enter Tryz.func196, Tryz.ntmps196
    go_wp2
    go_ret
    exact ⟨none, 0, rfl, Own.nil _ _, Ext.refl _⟩
  | some a =>
    have H := Lib.hid h
    clear h
    go_enter Tryz.func196, Tryz.ntmps196
    go_wp2_with (at_builtin; refine wpList_app rfl _ _ rfl w.heap.size (some ⟨w.heap.size, 0, none⟩) 0 [] 0 rfl rfl (Own.lit w #[] [] rfl (by simp)) _ _ xs xs.length rfl rfl (H.out.ext ((Ext.refl w).alloc _)) (by simpa using hl) (by simp) ?_; intro A' c' w1 hO hg)
    have HO := Lib.hid hO
    have HX : Hid (Ext w w1) := ((Ext.refl w).alloc _).grown hg (fun k hk => by cases hk; exact Nat.le_refl _)
    clear hO hg heq
    go_wp2_with fail
    go_ret
    exact ⟨A', c', by simp, HO.out, HX.out⟩
theorem of_words (x : Nat) : val [(x : Int) % 4294967296, (x : Int) / 4294967296] = x := by
  show V _ 2 = _
  rw [V_cons, V_cons, V_zero]
  omega
theorem wf_of (x : Nat) (h : x < 18446744073709551616) : Wf [(x : Int) % 4294967296, (x : Int) / 4294967296] := by
  intro z hz
  simp only [List.mem_cons, List.not_mem_nil, or_false] at hz
  omega
set_option maxHeartbeats 400000 in
theorem of_any (x : Nat) (w : World) (hx : x < 18446744073709551616) :
    Calls Tryz.prog 213 #[.int .u64 x] w fun e w' => ∃ A' c', e = .returned (.slice A' (wd x).length c') ∧ Own w' w.heap.size A' c' (wd x) ∧ Ext w w' := by
  have ho := Own.lit w #[.int .u32 ((x : Int) % 4294967296), .int .u32 ((x : Int) / 4294967296)] [(x : Int) % 4294967296, (x : Int) / 4294967296] rfl (by simp)
  have ht := tl_all (wf_of x hx)
  rw [of_words, Int.toNat_natCast] at ht
  have HL := Lib.hid (show tl [(x : Int) % 4294967296, (x : Int) / 4294967296] 2 = (wd x).length by
    have e := congrArg List.length ht
    rw [List.length_take] at e
    have e2 : [(x : Int) % 4294967296, (x : Int) / 4294967296].length = 2 := rfl
    rw [e2] at e
    have := tl_le [(x : Int) % 4294967296, (x : Int) / 4294967296] 2
    omega)
  have hc := cut_any _ _ _ _ ho.rd
  have HO2 := ho.take (tl [(x : Int) % 4294967296, (x : Int) / 4294967296] [(x : Int) % 4294967296, (x : Int) / 4294967296].length)
  rw [ht] at HO2
  have HC := Lib.hid hc
  have HO := Lib.hid HO2
  have h1 : (x : Int) ≤ 18446744073709551615 := by omega
  clear ho hc HO2 ht
  go_enter Tryz.func213, Tryz.ntmps213
  go_wp2_with fail
  refine HC.out.mono ?_; rintro e w' ⟨rfl, rfl⟩
  go_wp2_with fail
  go_ret
  exact ⟨_, _, by rw [← HL.out]; rfl, HO.out, (Ext.refl w).alloc _⟩
def owed (t : Int) : Int := if t < 0 then 1 else 0
theorem owed_01 (t : Int) : 0 ≤ owed t ∧ owed t ≤ 1 := by unfold owed; split <;> omega
theorem prod_bd {x y : Int} (hx : 0 ≤ x ∧ x < 4294967296) (hy : 0 ≤ y ∧ y < 4294967296) : 0 ≤ x * y ∧ x * y ≤ 18446744065119617025 := by
  refine ⟨Int.mul_nonneg hx.1 hy.1, ?_⟩
  have h : x * y ≤ 4294967295 * 4294967295 := Int.mul_le_mul (by omega) (by omega) hy.1 (by omega)
  omega
theorem or_word (r x : Int) (hr : 0 ≤ r ∧ r < 4294967296) (hx : 0 ≤ x ∧ x < 4294967296) : bits .or .u64 (r * 4294967296) x = r * 4294967296 + x :=
  bits_join .u64 64 (by decide) (fun n h0 h1 => wraps_u64 n h0 h1) 32 _ _ (by omega) (by omega) (by omega) (by omega) (by omega) (by omega)
theorem quo_lt (r x D : Int) (hr0 : 0 ≤ r) (hr1 : r < D) (hx : 0 ≤ x ∧ x < 4294967296) : 0 ≤ (r * 4294967296 + x) / D ∧ (r * 4294967296 + x) / D < 4294967296 := by
  refine ⟨Int.ediv_nonneg (by omega) (by omega), ?_⟩
  apply Int.ediv_lt_of_lt_mul (by omega)
  omega
theorem small_round (us xs : List Int) (k L : Nat) (r D M : Int) (hk : k < us.length) (hL : k < L) (hv : (V us L - V us (k + 1)) * D + r * pw (k + 1) + V xs (k + 1) = M) :
    (V (us.set k ((r * 4294967296 + nth xs k) / D)) L - V (us.set k ((r * 4294967296 + nth xs k) / D)) k) * D + (r * 4294967296 + nth xs k) % D * pw k + V xs k = M := by
  rw [V_set _ _ _ hk _ hL, V_set_ge _ _ _ _ (Nat.le_refl _)]
  rw [V_succ, V_succ, pw_succ] at hv
  have e := Int.mul_ediv_add_emod (r * 4294967296 + nth xs k) D
  generalize (r * 4294967296 + nth xs k) / D = q at *
  generalize (r * 4294967296 + nth xs k) % D = s at *
  generalize nth xs k = x at *
  generalize nth us k = z at *
  have e2 : q * pw k * D + s * pw k = r * (4294967296 * pw k) + x * pw k := by
    have e3 := congrArg (· * pw k) e
    simp only [Int.add_mul] at e3
    rw [show q * pw k * D = D * q * pw k by rw [Int.mul_comm D q, Int.mul_assoc, Int.mul_assoc, Int.mul_comm (pw k)]]
    rw [e3, Int.mul_assoc r]
  rw [← hv]
  have e4 : (V us L + (q - z) * pw k - V us k) * D = (V us L - (V us k + z * pw k)) * D + q * pw k * D := by
    rw [← Int.add_mul]
    congr 1
    rw [Int.sub_mul]
    omega
  rw [e4]
  omega
theorem small_end (us : List Int) (m D L : Nat) (r : Int) (hul : us.length = L) (hw : Wf us) (hr0 : 0 ≤ r) (hr1 : r < D) (hv : (V us L - V us 0) * D + r * pw 0 + 0 = m) : val us = ((m / D : Nat) : Int) ∧ r = ((m % D : Nat) : Int) := by
  have h : val us * D + r = m := by
    rw [V_zero, Int.sub_zero, pw_zero, Int.mul_one] at hv
    unfold val
    rw [hul]
    omega
  have hd : (0 : Int) < D := by omega
  have h0 := V_nonneg hw us.length
  rw [Int.natCast_ediv, Int.natCast_emod, ← h]
  constructor
  · rw [Int.add_comm, Int.add_mul_ediv_right _ _ (by omega), Int.ediv_eq_zero_of_lt hr0 hr1]; omega
  · rw [Int.add_comm, Int.add_mul_emod_self_right, Int.emod_eq_of_lt hr0 hr1]
set_option maxHeartbeats 1000000 in
theorem small_any (A : Option Addr) (m : Nat) (D : Nat) (c base : Nat) (w : World) (ho : Own w base A c (wd m)) (hd0 : 0 < D) (hd1 : D < 4294967296) (lm : (wd m).length ≤ 8193) (Q R : Nat) (hQ : m / D = Q) (hR : m % D = R) :
    Calls Tryz.prog 197 #[.slice A (wd m).length c, .int .u32 D] w fun e w' => e = .returned (.tuple #[.slice A (wd Q).length c, .int .u32 R]) ∧ Own w' base A c (wd Q) ∧ w.grownBy w' (A.map (·.block)) := by
  have HW := Lib.hid (wf_wd m)
  have HO := Lib.hid ho
  have HG := Lib.hid (World.grownBy.refl w (A.map (·.block)))
  have HF := Lib.hid ho.form
  have hc := ho.rd.capm
  have HQQ := Lib.hid hQ
  have HRR := Lib.hid hR
  clear ho hQ hR
  go_enter Tryz.func197, Tryz.ntmps197
  go_wp2_with fail
  go_loopw [6, 7] (fun ro i wr => ∃ (k : Nat) (us : List Int) (r : Int), k ≤ (wd m).length ∧ Hid (us.length = (wd m).length) ∧ Hid (Wf us) ∧ 0 ≤ r ∧ r < D ∧ Hid ((V us (wd m).length - V us k) * D + r * pw k + V (wd m) k = m) ∧ Hid (∀ j, j < k → nth us j = nth (wd m) j) ∧ ro = .int .u64 r ∧ i = .int .i64 ((k : Int) - 1) ∧ Hid (Own wr base A c us) ∧ Hid (w.grownBy wr (A.map (·.block)))) (fun _ i _ => (intOf i + 1).toNat)
  case atStart => exact ⟨(wd m).length, wd m, 0, by omega, rfl, HW.out, by omega, by omega, by show _ = _; have := val_wd m; unfold val at this; rw [Int.sub_self, Int.zero_mul, Int.zero_mul]; omega, fun _ _ => rfl, rfl, rfl, HO, HG⟩
  case round =>
    clear HO HG
    obtain ⟨k, us, r, hk, HUL, HW', hr0, hr1, HV, HR, rfl, rfl, HO, HX⟩ := hrel
    cases k with
    | zero =>
      have he := small_end us m D _ r HUL.out HW'.out hr0 hr1 HV.out
      rw [HQQ.out, HRR.out] at he
      have HE := Lib.hid he.1
      have HM := Lib.hid he.2
      clear he
      go_wp2_with fail
      refine (cut_own _ us _ _ _ _ HO.out HUL.out HW'.out _ HE.out).mono ?_; rintro e w' ⟨rfl, HO2, rfl⟩
      have HO3 := Lib.hid HO2
      clear HO2
      go_wp2_with fail
      go_ret2
      exact ⟨by rw [HM.out]; rfl, HO3.out, HX.out⟩
    | succ k =>
      have e1 : (((k + 1 : Nat) : Int) - 1) = (k : Int) := by omega
      rw [e1]
      clear e1
      obtain ⟨g, rfl⟩ : ∃ g, A = some ⟨g, 0, none⟩ := by
        rcases HF.out with h | ⟨g, h, _⟩
        · obtain ⟨a, ha⟩ := HO.out.rd.some_ (by have := HUL.out; omega)
          rw [h] at ha; cases ha
        · exact ⟨g, h⟩
      have hco := HO.out.cell k (by have := HUL.out; omega)
      rw [HR.out k (by omega)] at hco
      have hfo := HO.out.free k
      have bx := nth_wf (wf_wd m) k
      obtain ⟨x, hx⟩ : ∃ x, x = nth (wd m) k := ⟨_, rfl⟩
      rw [← hx] at hco bx
      have Hx := Lib.hid hx
      clear hx
      have ho := or_word r x ⟨hr0, by omega⟩ bx
      have hq := quo_lt r x D hr0 hr1 bx
      have HV2 := Lib.hid (small_round us (wd m) k (wd m).length r D m (by have := HUL.out; omega) (by omega) HV.out)
      rw [← Hx.out] at HV2
      have hm0 := Int.emod_nonneg (r * 4294967296 + x) (show (D : Int) ≠ 0 by omega)
      have hm1 := Int.emod_lt_of_pos (r * 4294967296 + x) (show (0 : Int) < D by omega)
      have hdz : ((D : Int) == 0) = false := beq_eq_false_iff_ne.2 (by omega)
      go_wp2_with fail
      go_roundw
      case rel =>
        exact ⟨k, _, _, by omega, by unfold Hid; rw [List.length_set]; exact HUL.out, wf_set HW'.out _ _ hq.1 hq.2, hm0, hm1, HV2.out, fun j hj => by rw [nth_set_ne _ _ _ _ (by omega)]; exact HR.out j (by omega), rfl, rfl, (HO.out.set k _).1, grown_trans HX.out (HO.out.set k _).2⟩
      case measure => simp [intOf]
end Go.Proofs.YtemlaompalbgiaaGreatDoor
namespace Go.Proofs.YtemlaompalbgiaaGreatDoor
open Go.Shelf
def Sh.lays128_ren : Go.Shelf.Ren := ⟨fun | 128 => 319 | n => n, fun | 51 => 91 | 3 => 3 | 4 => 4 | 46 => 198 | 5 => 5 | 9 => 9 | n => n, fun | n => n⟩
def Sh.lays133_ren : Go.Shelf.Ren := ⟨fun | 133 => 264 | 128 => 319 | n => n, fun | 51 => 91 | 3 => 3 | 4 => 4 | 46 => 198 | 5 => 5 | 9 => 9 | n => n, fun | n => n⟩
theorem Sh.lays133 : Go.Proofs.Lays.n133 Tryz.prog Sh.lays133_ren := {
  mixed := by kernel_rfl
  f128 := Tryz.func319.trans (congrArg some (by kernel_rfl))
  f133 := Tryz.func264.trans (congrArg some (by kernel_rfl))
  t3 := Tryz.underlying3
  a3 := Tryz.isAgg3
  z3 := Tryz.sizeOf3
  v3 := Tryz.zeroValue3
  t4 := Tryz.underlying4
  a4 := Tryz.isAgg4
  z4 := Tryz.sizeOf4
  v4 := Tryz.zeroValue4
  t5 := Tryz.underlying5
  a5 := Tryz.isAgg5
  z5 := Tryz.sizeOf5
  v5 := Tryz.zeroValue5
  t9 := Tryz.underlying9
  a9 := Tryz.isAgg9
  z9 := Tryz.sizeOf9
  v9 := Tryz.zeroValue9
  t46 := Tryz.underlying198
  a46 := Tryz.isAgg198
  z46 := Tryz.sizeOf198
  v46 := Tryz.zeroValue198
  t51 := Tryz.underlying91
  a51 := Tryz.isAgg91
  z51 := Tryz.sizeOf91
  v51 := Tryz.zeroValue91 }
theorem Sh.bits_LeadingZeros32 (x : Int) (w : World) (h0 : 0 ≤ x) (h1 : x ≤ 4294967295) :
    Calls Tryz.prog 264 #[.int .u32 x] w fun e w' => e = .returned (.int .i64 (32 - (Lib.bitLen x.toNat : Int))) ∧ w' = w := Any.bits_LeadingZeros32 Sh.lays133 x w h0 h1
end Go.Proofs.YtemlaompalbgiaaGreatDoor
namespace Go.Proofs.YtemlaompalbgiaaGreatDoor
open Go Go.RowKit
theorem lz_any (x : Nat) (w : World) (hx0 : 0 < x) (hx1 : x < 4294967296) :
    Calls Tryz.prog 264 #[.int .u32 x] w fun e w' => ∃ n : Nat, n ≤ 31 ∧ e = .returned (.int .i64 n) ∧ 2147483648 ≤ x * 2 ^ n ∧ x * 2 ^ n < 4294967296 ∧ w = w' := by
  refine (Sh.bits_LeadingZeros32 (x : Int) w (by omega) (by omega)).mono ?_
  rintro e w' ⟨rfl, rfl⟩
  rw [Int.toNat_natCast]
  obtain ⟨h1, h2, h3⟩ := Lib.bitLenAux_bounds 64 x (by omega) (by omega)
  have hL : Lib.bitLenAux 64 x ≤ 32 := Lib.bitLen_le x 32 (by omega) (by omega)
  refine ⟨32 - Lib.bitLenAux 64 x, by omega, ?_, ?_, ?_, rfl⟩
  · show Ending.returned (.int .i64 (32 - (Lib.bitLenAux 64 x : Int))) = _
    rw [Int.natCast_sub hL]; rfl
  · have e : 2 ^ (Lib.bitLenAux 64 x - 1) * 2 ^ (32 - Lib.bitLenAux 64 x) = 2147483648 := by
      rw [← Nat.pow_add, show Lib.bitLenAux 64 x - 1 + (32 - Lib.bitLenAux 64 x) = 31 by omega]
    have := Nat.mul_le_mul_right (2 ^ (32 - Lib.bitLenAux 64 x)) h2
    omega
  · have e : 2 ^ (Lib.bitLenAux 64 x) * 2 ^ (32 - Lib.bitLenAux 64 x) = 4294967296 := by
      rw [← Nat.pow_add, show Lib.bitLenAux 64 x + (32 - Lib.bitLenAux 64 x) = 32 by omega]
    have := Nat.mul_lt_mul_of_pos_right h3 (Nat.pow_pos (n := 32 - Lib.bitLenAux 64 x) (show 0 < 2 by omega))
    omega
end Go.Proofs.YtemlaompalbgiaaGreatDoor
