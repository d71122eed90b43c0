/- Texts of this claim, joined: A20 A21 A22 A23. -/
import Derived.Deep.LoopGhost
import Derived.Test.YtjoonfegjobgbaaGreatDoorRi
set_option linter.unusedVariables false
set_option linter.unusedSimpArgs false
set_option maxRecDepth 100000
namespace Go.Proofs.YtjoonfegjobgbaaGreatDoor
open Go Go.RowKit
section
variable {P : Program} {C : Cfg} {gp : Option Nat} {Z0 : Nat → Prop} {w0 : Base} {w w' : World} {D D' : Nat → Prop} {c c' : Cf} {T : Nat → Option AV} {O O' : Store} {a : Act} {o : Oper}
theorem wk_sound {N : Nat} (S : Sim gp Z0 w0 N D c T O a.tmps w) {hp : Bool} (hgp : gp ≠ none → hp = true) {tm' : TM} {ob' : OB} {n' : Nat} {X : Prop} (h : wk hp tm' ob' n' T O X) : X ∧ ∃ c', Sim gp Z0 w0 N (fun i => i < n') c' (look tm') (look ob') a.tmps w := by
  unfold wk at h
  split at h
  · rename_i M ps h1
    split at h
    · rename_i M' ps' h2
      cases hb : (conM M' && ((!hp || is00 (look M' 0) && (look ob' 0).isSome) && (M'.all fun p => Nat.blt p.1 n'))) with
      | false => rw [hb] at h; exact h.elim
      | true =>
        rw [hb] at h
        simp only [Bool.and_eq_true] at hb
        obtain ⟨hc, h00, hlt⟩ := hb
        obtain ⟨hps, hX⟩ := allP_iff h
        refine ⟨hX, ?_⟩
        obtain ⟨m1, m2, m3, m4⟩ := mOB_sound h2
        let c' : Cf := ⟨fun i => match look M' i with
          | some (some j) => c.m j
          | some none => some ⟨none, 0, 0, []⟩
          | none => none, c.Z⟩
        have hM : MOk c c' M' := fun p hp => by
          have := conM_look hc p hp
          refine ⟨fun j hj => ?_, fun hj => ?_⟩
          · show (match look M' p.1 with | some (some j) => c.m j | some none => some ⟨none, 0, 0, []⟩ | none => none) = _
            rw [this, hj]
          · show (match look M' p.1 with | some (some j) => c.m j | some none => some ⟨none, 0, 0, []⟩ | none => none) = _
            rw [this, hj]
        have sub : ∀ {N : MP}, (∀ p ∈ N, p ∈ M') → MOk c c' N := fun hN p hp => hM p (hN p hp)
        have key : ∀ i o, look ob' i = some o → ∃ tg, look M' i = some tg ∧ ObOk c' w i o ∧ (o.live = true → tg = none ∨ ∃ j x, tg = some j ∧ O j = some x ∧ x.live = true) := fun i o hi => by
          obtain ⟨tg, N, qs, k1, k2, k3, k4⟩ := m4 i o (look_mem hi)
          have hqs : allT qs := fun p hp => hps p (k3 p hp)
          refine ⟨tg, k1, ?_⟩
          rcases k4 with ⟨j, x, rfl, hx, hm⟩ | ⟨rfl, hm⟩
          · have hj : c'.m i = c.m j := by
              show (match look M' i with | some (some j) => c.m j | some none => some ⟨none, 0, 0, []⟩ | none => none) = _
              rw [k1]
            obtain ⟨q1, q2, q3⟩ := mO_sound (c := c) (c' := c') rfl S.obj hm (sub k2) hqs hj (S.obj j x hx)
            exact ⟨q1, fun _ => .inr ⟨j, x, rfl, hx, q2⟩⟩
          · have hj : c'.m i = some ⟨none, 0, 0, []⟩ := by
              show (match look M' i with | some (some j) => c.m j | some none => some ⟨none, 0, 0, []⟩ | none => none) = _
              rw [k1]
            exact ⟨(mO_none hm hqs hj).1, fun _ => .inl rfl⟩
        have ent : ∀ i o e g, look ob' i = some o → o.live = true → c'.m i = some e → e.has g → ∃ j x, look M' i = some (some j) ∧ O j = some x ∧ x.live = true ∧ c.m j = some e := fun i o e g hi hl he hg => by
          obtain ⟨tg, k1, k2, k3⟩ := key i o hi
          have he' : (match look M' i with | some (some j) => c.m j | some none => some ⟨none, 0, 0, []⟩ | none => none) = some e := he
          rcases k3 hl with rfl | ⟨j, x, rfl, hx, hxl⟩
          · rw [k1] at he'; cases he'; cases hg
          · rw [k1] at he'; exact ⟨j, x, k1, hx, hxl, he'⟩
        refine ⟨c', fun t v ht => ?_, fun i o hi => ?_, fun i j o p e f g h1 h2 h3 h4 h5 h6 h7 h8 h9 => ?_, fun i o e g h1 h3 h4 h5 => ?_, S.zl, fun i o e g h1 h3 h4 h5 => ?_, fun i e he => ?_, S.gr, S.zz, S.sz, fun k hk => ?_, S.z0, S.zg⟩
        · obtain ⟨u, N, qs, k1, k2, k3, k4⟩ := mTM_sound h1 t v (look_mem ht)
          obtain ⟨x, q1, q2⟩ := S.tmp t u k1
          exact ⟨x, q1, mA_sound (c := c) (c' := c') rfl S.obj k2 (sub (fun p hp => m1 p (k3 p hp))) (fun p hp => hps p (m2 p (k4 p hp))) q2⟩
        · obtain ⟨tg, k1, k2, _⟩ := key i o hi
          exact k2
        · obtain ⟨j1, x1, a1, a2, a3, a4⟩ := ent i o e g h1 h3 h6 h8
          obtain ⟨j2, x2, b1, b2, b3, b4⟩ := ent j p f g h2 h4 h7 h9
          exact S.inj j1 j2 x1 x2 e f g a2 b2 a3 b3 (fun e0 => by subst e0; exact h5 (conM_inj hc i j j1 a1 b1)) a4 b4 h8 h9
        · obtain ⟨j1, x1, a1, a2, a3, a4⟩ := ent i o e g h1 h3 h4 h5
          exact S.zo j1 x1 e g a2 a3 a4 h5
        · obtain ⟨j1, x1, a1, a2, a3, a4⟩ := ent i o e g h1 h3 h4 h5
          exact S.bs j1 x1 e g a2 a3 a4 h5
        · have he' : (match look M' i with | some (some j) => c.m j | some none => some ⟨none, 0, 0, []⟩ | none => none) = some e := he
          cases hl : look M' i with
          | none => rw [hl] at he'; cases he'
          | some tg =>
            have := List.all_eq_true.1 hlt (i, tg) (look_mem hl)
            simpa [Nat.blt, Nat.lt_iff_add_one_le] using this
        · have hpt := hgp (by rw [hk]; simp)
          rw [hpt] at h00
          simp only [Bool.not_true, Bool.false_or, Bool.and_eq_true] at h00
          obtain ⟨h00, hob⟩ := h00
          have h0 : look M' 0 = some (some 0) := by
            unfold is00 at h00
            split at h00
            · assumption
            · cases h00
          obtain ⟨cs, e, q1, q2, q3⟩ := S.gpv k hk
          obtain ⟨o, ho⟩ := Option.isSome_iff_exists.1 hob
          obtain ⟨tg, N, qs, k1, k2, k3, k4⟩ := m4 0 o (look_mem ho)
          rw [h0] at k1
          cases k1
          rcases k4 with ⟨j, x, e0, hx, hm⟩ | ⟨e0, _⟩
          · cases e0
            rw [q1] at hx
            cases hx
            unfold mO at hm
            split at hm
            · rename_i xs ys he
              refine ⟨xs, e, ho, ?_, q3⟩
              show (match look M' 0 with | some (some j) => c.m j | some none => some ⟨none, 0, 0, []⟩ | none => none) = _
              rw [h0]; exact q2
            all_goals first
              | (rename_i he; cases he; done)
              | (cases hm; done)
          · cases e0
    · exact h.elim
  · exact h.elim
def lift (C : Cfg) (gp : Option Nat) (Z0 : Nat → Prop) (w0 : Base) (Q : QA) (e : Exit) (a : Act) (w : World) : Prop :=
  a.defers = [] ∧ ∃ tm ob n c, Sim gp Z0 w0 C.N (fun i => i < n) c (look tm) (look ob) a.tmps w ∧ Q e tm ob n
theorem Sim.drewS {N : Nat} (S : Sim gp Z0 w0 N D c T O a.tmps w) : Sim gp Z0 w0 N D c T O a.tmps { w with drawn := w.drawn + 1 } := by
  have hx : Below w.heap.size w { w with drawn := w.drawn + 1 } := Ext.drew (Ext.refl w)
  have st : Stay c.Z w { w with drawn := w.drawn + 1 } := fun _ _ => rfl
  refine ⟨fun t v h => ?_, fun i o h => (S.obj i o h).mono (Cf.Le.refl c) st (fun _ _ _ _ _ => rfl), S.inj, S.zo, S.zl, S.bs, S.dom, grown_trans S.gr ((show Ext w _ from hx).by_ _), S.zz, S.sz, S.gpv, S.z0, w0.mono (fun _ h => h) st S.zg⟩
  obtain ⟨u, h1, h2⟩ := S.tmp t v h
  exact ⟨u, h1, h2.mono (Cf.Le.refl c) st⟩
theorem aw_sound_ (hT : tyB P C.ty C.ty = true) (hP : ∀ f p, look C.pr f = some p → PrimOk P f p) (hm : P.follows .mixedOrders = true) (hgp : gp ≠ none → C.hp = true) {iv : Nat → Option Inv} : ∀ (code : Code) {cx k : Nat} {Q : QA} {tm : TM} {ob : OB} {n : Nat} {a : Act} {w : World} {c : Cf},
    aw (C.at cx) iv code k Q tm ob n → Sim gp Z0 w0 C.N (fun i => i < n) c (look tm) (look ob) a.tmps w → a.defers = [] → code.wp P (lift C gp Z0 w0 Q) a w
  | .skip, cx, k, Q, tm, ob, n, a, w, c, h, S, hd => wp_skip ⟨hd, tm, ob, n, c, S, h⟩
  | .label _, cx, k, Q, tm, ob, n, a, w, c, h, S, hd => wp_label ⟨hd, tm, ob, n, c, S, h⟩
  | .exit id, cx, k, Q, tm, ob, n, a, w, c, h, S, hd => wp_exit ⟨hd, tm, ob, n, c, S, h⟩
  | .ret, cx, k, Q, tm, ob, n, a, w, c, h, S, hd => wp_ret ⟨hd, tm, ob, n, c, S, h⟩
  | .region id ops false, cx, k, Q, tm, ob, n, a, w, c, h, S, hd => by
    unfold aw at h
    obtain ⟨recs, n', tm', ob', h1, h2, h3, h4⟩ := rg_tr h
    refine wp_region ?_
    have := plain_ops (C := C.at cx) hT hP (ops := ops) (Q := lift C gp Z0 w0 Q) (i := 0) (fun j => by simp) h1 h3 S (fun a' w' c' S' hd' => ⟨hd'.trans hd, tm', ob', n', c', S', h4⟩)
    rw [List.range_eq_range']
    simpa using this
  | .region id ops true, cx, k, Q, tm, ob, n, a, w, c, h, S, hd => by
    unfold aw at h
    obtain ⟨recs, n', tm', ob', h1, h2, h3, h4⟩ := rg_tr h
    rw [List.append_nil, List.reverse_reverse] at h4
    cases ho : ordF ops ops.toList recs 0 [] [] with
    | false => rw [ho] at h4; exact h4.elim
    | true =>
      rw [ho] at h4
      refine wp_region_any hm (any_ops (C := C.at cx) hT hP h1 ho S.drewS (fun a' w' c' S' hd' => ⟨hd'.trans hd, tm', ob', n', c', ?_, h4⟩))
      rw [h3] at S'
      exact S'
  | .seq x y, cx, k, Q, tm, ob, n, a, w, c, h, S, hd => by
    unfold aw at h
    refine wp_seq (wp_mono (aw_sound_ hT hP hm hgp x h S hd) ?_)
    rintro e a' w' ⟨hd', tm', ob', n', c', S', hq⟩
    cases e with
    | normal => exact aw_sound_ hT hP hm hgp y hq S' hd'
    | _ => exact ⟨hd', tm', ob', n', c', S', hq⟩
  | .cond q x y, cx, k, Q, tm, ob, n, a, w, c, h, S, hd => by
    unfold aw at h
    split at h
    · rename_i hq
      exact wp_cond_true (S.ev hq) (aw_sound_ hT hP hm hgp x h S hd)
    · rename_i hq
      exact wp_cond_false (S.ev hq) (aw_sound_ hT hP hm hgp y h S hd)
    · rename_i b hq
      have hb : a.eval q = .bool b := (S.ev hq).1
      exact wp_cond_split hb (fun e => aw_sound_ hT hP hm hgp x (h.1 e) S hd) (fun e => aw_sound_ hT hP hm hgp y (h.2 e) S hd)
    · exact h.elim
  | .block id x, cx, k, Q, tm, ob, n, a, w, c, h, S, hd => by
    unfold aw at h
    refine wp_block (wp_mono (aw_sound_ hT hP hm hgp x h S hd) ?_)
    rintro e a' w' ⟨hd', tm', ob', n', c', S', hq⟩
    cases e with
    | exit id' =>
      unfold Exit.inBlock
      simp only [] at hq ⊢
      cases hb : Nat.beq id' id with
      | true =>
        rw [hb] at hq
        rw [if_pos (Nat.eq_of_beq_eq_true hb)]
        exact ⟨hd', tm', ob', n', c', S', hq⟩
      | false =>
        rw [hb] at hq
        rw [if_neg (fun e => by subst e; rw [Nat.beq_refl] at hb; cases hb)]
        exact ⟨hd', tm', ob', n', c', S', hq⟩
    | _ => exact ⟨hd', tm', ob', n', c', S', hq⟩
  | .loop x, cx, k, Q, tm, ob, n, a, w, c, h, S, hd => by
    unfold aw at h
    split at h
    · rename_i m _
      refine wp_loop_ghost (fun m a w => a.defers = [] ∧ ∃ tm ob n c, iter (aw (C.at cx) iv x (k + 1)) Q m tm ob n ∧ Sim gp Z0 w0 C.N (fun i => i < n) c (look tm) (look ob) a.tmps w) m ⟨hd, tm, ob, n, c, h, S⟩ ?_
      rintro m a1 w1 ⟨hd1, tm1, ob1, n1, c1, h1, S1⟩
      cases m with
      | zero => exact h1.elim
      | succ m =>
        refine wp_mono (aw_sound_ hT hP hm hgp x h1 S1 hd1) ?_
        rintro e a' w' ⟨hd', tm', ob', n', c', S', hq⟩
        cases e with
        | normal => exact ⟨m, Nat.lt_succ_self m, hd', tm', ob', n', c', hq, S'⟩
        | _ => exact ⟨hd', tm', ob', n', c', S', hq⟩
    split at h
    · exact h.elim
    · rename_i J hJ
      split at h
      · obtain ⟨⟨x0, h0⟩, hbody⟩ := h
        obtain ⟨hI, c0, S0⟩ := wk_sound S hgp h0
        refine wp_loop_ghost (fun m a w => ∃ y c, J.μ y = m ∧ J.I y ∧ Sim gp Z0 w0 C.N (fun i => i < J.n) c (look (J.tm y)) (look (J.ob y)) a.tmps w ∧ a.defers = []) (J.μ x0) ⟨x0, c0, rfl, hI, S0, hd⟩ ?_
        rintro m a1 w1 ⟨y, c1, rfl, hI1, S1, hd1⟩
        refine wp_mono (aw_sound_ hT hP hm hgp x (cx := J.μ y) (hbody y hI1) S1 hd1) ?_
        rintro e a' w' ⟨hd', tm', ob', n', c', S', hq⟩
        cases e with
        | normal =>
          obtain ⟨x', hx'⟩ := hq
          obtain ⟨⟨hI', hlt⟩, c2, S2⟩ := wk_sound S' hgp hx'
          exact ⟨J.μ x', hlt, x', c2, rfl, hI', S2, hd'⟩
        | _ => exact ⟨hd', tm', ob', n', c', S', hq⟩
      · rename_i L _
        obtain ⟨⟨x0, h0⟩, hbody⟩ := h
        obtain ⟨hI, c0, S0⟩ := wk_sound S hgp h0
        refine wp_loop_ghost (fun m a w => ∃ y c, J.μ y = m ∧ (J.I y ∧ L cx y) ∧ Sim gp Z0 w0 C.N (fun i => i < J.n) c (look (J.tm y)) (look (J.ob y)) a.tmps w ∧ a.defers = []) (J.μ x0) ⟨x0, c0, rfl, hI, S0, hd⟩ ?_
        rintro m a1 w1 ⟨y, c1, rfl, hI1, S1, hd1⟩
        refine wp_mono (aw_sound_ hT hP hm hgp x (cx := J.μ y) (hbody y hI1) S1 hd1) ?_
        rintro e a' w' ⟨hd', tm', ob', n', c', S', hq⟩
        cases e with
        | normal =>
          obtain ⟨x', hx'⟩ := hq
          obtain ⟨⟨hI', hlt⟩, c2, S2⟩ := wk_sound S' hgp hx'
          exact ⟨J.μ x', hlt, x', c2, rfl, hI', S2, hd'⟩
        | _ => exact ⟨hd', tm', ob', n', c', S', hq⟩
  | .rangeFunc _ _ _ _, _, _, _, _, _, _, _, _, _, h, _, _ => by unfold aw at h; exact h.elim
  | .scope _, _, _, _, _, _, _, _, _, _, h, _, _ => by unfold aw at h; exact h.elim
  | .goto _, _, _, _, _, _, _, _, _, _, h, _, _ => by unfold aw at h; exact h.elim
  | .refuse _, _, _, _, _, _, _, _, _, _, h, _, _ => by unfold aw at h; exact h.elim
theorem aw_sound (hT : tyB P C.ty C.ty = true) (hP : ∀ f p, look C.pr f = some p → PrimOk P f p) (hm : P.follows .mixedOrders = true) (hgp : gp ≠ none → C.hp = true) {iv : Nat → Option Inv} (code : Code) {k : Nat} {Q : QA} {tm : TM} {ob : OB} {n : Nat} {a : Act} {w : World} {c : Cf}
    (h : aw C iv code k Q tm ob n) (S : Sim gp Z0 w0 C.N (fun i => i < n) c (look tm) (look ob) a.tmps w) (hd : a.defers = []) : code.wp P (lift C gp Z0 w0 Q) a w :=
  aw_sound_ hT hP hm hgp code (cx := C.cx) h S hd
end
def RV (Z : Nat → Prop) (w : World) (t : Ty) (x : El t) (v : Value) : Prop := if t.agg = true then ∃ us, v = .agg us ∧ RT Z w t x us.toList else RT Z w t x [v]
def RVs (Z : Nat → Prop) (w : World) : (ts : List Ty) → Els ts → List Value → Prop
  | [], _, [] => True
  | t :: ts, x, v :: vs => RV Z w t x.1 v ∧ RVs Z w ts x.2 vs
  | _, _, _ => False
def RQv (fresh : Bool) (Z : Nat → Prop) (w : World) (base : Nat) (t : Ty) (x : El t) (v : Value) (bs : List Nat) : Prop := if t.agg = true then ∃ us, v = .agg us ∧ RQ fresh Z w base t x us.toList bs else RQ fresh Z w base t x [v] bs
def RQs (fresh : Bool) (Z : Nat → Prop) (w : World) (base : Nat) : (ts : List Ty) → Els ts → List Value → List Nat → Prop
  | [], _, [], bs => bs = []
  | t :: ts, x, v :: vs, bs => ∃ b b', bs = b ++ b' ∧ RQv fresh Z w base t x.1 v b ∧ RQs fresh Z w base ts x.2 vs b'
  | _, _, _, _ => False
theorem ZOk.ext {Z : Nat → Prop} {w w' : World} (h : ZOk Z w) (hx : Ext w w') : ZOk Z w' := ⟨fun g hg => Nat.lt_of_lt_of_le (h.lt g hg) hx.size, h.gl.mono (fun _ h => h) (fun g hg => Below.block hx g (h.lt g hg))⟩
def told_ (vs : List Value) (v : Value) : Prop := (∃ u, vs = [u] ∧ v = u) ∨ (vs.length ≠ 1 ∧ v = .tuple vs.toArray)
def FnOk (P : Program) (f : Nat) (S : Spec) : Prop :=
  (∀ (vs : Array Value) (w : World), (callFunc f vs).run P w = .ok (.enter f vs) w) ∧
  ∀ (Z : Nat → Prop) (w : World) (gv : Nat) (vs : List Value) (y : El S.q) (x : Els S.ps), ZOk Z w → RVs Z w S.ps x vs → holds (S.pre y x) →
    (S.ptr = true → ¬ Z gv ∧ ∃ cells et, w.heap[gv]? = some (.cells cells et (0, 0)) ∧ RT Z w S.q y cells.toList) → (S.ptr = false → y = dfl S.q) →
    Calls P f (if S.ptr = true then (.pointer (some ⟨gv, 0, none⟩) :: vs).toArray else vs.toArray) w (fun e w' => ∃ v us bs Z', e = .returned v ∧ told_ us v ∧ RQs S.fresh Z' w' w.heap.size S.rs (S.post y x).2 us bs ∧ bs.Nodup ∧ (∀ g ∈ bs, ¬ Z' g) ∧
      (∀ g, Z g → Z' g) ∧ (∀ g, Z' g → Z g ∨ w.heap.size ≤ g) ∧ (∀ g, Z' g → g < w'.heap.size) ∧ w.grownBy w' (if S.ptr = true then some gv else none) ∧
      (S.ptr = true → ∃ cells et, w'.heap[gv]? = some (.cells cells et (0, 0)) ∧ RT Z' w' S.q (S.post y x).1 cells.toList))
section
variable {P : Program} {C : Cfg} {gp : Option Nat} {Z0 Z Z' : Nat → Prop} {w0 : Base} {w w' : World} {D D' : Nat → Prop} {c c' : Cf} {T : Nat → Option AV} {O O' : Store} {a : Act} {o : Oper}
def Put (c' : Cf) (n : Nat) (es : List Ent) : Prop := ∀ (k : Nat) (e : Ent), es[k]? = some e → c'.m (n + k) = some e
theorem Put.left {c' : Cf} {n : Nat} {es fs : List Ent} (h : Put c' n (es ++ fs)) : Put c' n es := fun k e hk => h k e (by rw [List.getElem?_append_left (List.getElem?_eq_some_iff.1 hk).1]; exact hk)
theorem Put.right {c' : Cf} {n : Nat} {es fs : List Ent} (h : Put c' n (es ++ fs)) : Put c' (n + es.length) fs := fun k e hk => by
  rw [Nat.add_assoc]
  exact h (es.length + k) e (by rw [List.getElem?_append_right (by omega), show es.length + k - es.length = k by omega]; exact hk)
def ObsOk (c' : Cf) (w' : World) (n m : Nat) (ob : OB) : Prop := ∀ p ∈ ob, n ≤ p.1 ∧ p.1 < m ∧ ObOk c' w' p.1 p.2
theorem ObsOk.append {n m k : Nat} {a b : OB} (h : ObsOk c' w' n m a) (h' : ObsOk c' w' m k b) (h1 : n ≤ m) (h2 : m ≤ k) : ObsOk c' w' n k (a ++ b) := fun p hp => by
  rcases List.mem_append.1 hp with hp | hp
  · obtain ⟨q1, q2, q3⟩ := h p hp; exact ⟨q1, by omega, q3⟩
  · obtain ⟨q1, q2, q3⟩ := h' p hp; exact ⟨by omega, q2, q3⟩
def okT : Ty → Bool
  | .sl t => t.nop
  | .lt t => t.nop
  | .lf t => t.nop
  | .pr a b => okT a && okT b
  | _ => true
theorem ObsOk.nil {n m : Nat} : ObsOk c' w' n m [] := fun p hp => by cases hp
theorem ObsOk.one {n : Nat} {o : Ob} (h : ObOk c' w' n o) : ObsOk c' w' n (n + 1) [(n, o)] := fun p hp => by
  rw [List.mem_singleton] at hp
  subst hp
  exact ⟨Nat.le_refl _, Nat.lt_succ_self _, h⟩
theorem dp_of_rowQ {base n : Nat} {t : Ty} {l : List (El t)} {m : Nat} {vs : List Value} {bs : List Nat} (hn : t.nop = true) (h : rowQ w' base t (fun x us b => RQ true Z w' base t x us b) l (mks m t) (l.length + vis m t) vs bs) (hnd : bs.Nodup) :
    ∃ e : Ent, e.all = bs ∧ ∀ c' : Cf, c'.m n = some e → RL c' w' vs [.ow n] ∧ ObOk c' w' n (.dp (eidS t) t l m) := by
  have h' := h.imp (w' := w') (base' := 0) (R' := fun x us b => RQ true (fun _ => False) w' 0 t x us b) (fun _ _ _ => Nat.zero_le _) (fun _ _ => rfl) (fun x us b _ h => h.mono (fun _ _ _ => Nat.zero_le _) (fun _ _ => rfl))
  obtain ⟨g, cp, cells, bb, rfl, rfl, _⟩ := h
  exact ⟨⟨some g, l.length + vis m t, cp, bb.flatten⟩, rfl, fun c' hc => ⟨RL.one ⟨_, hc, rfl⟩, _, hc, hnd, hn, rfl, .inr h'⟩⟩
theorem ty_of_rowQ' {base n : Nat} {t : Ty} {l : List (El t)} {m : Nat} {vs : List Value} {bs : List Nat} (hf : t.flat = true) (h : rowQ w' base t (fun x us b => RQ true Z w' base t x us b) l (mks m t) (l.length + vis m t) vs bs) :
    ∃ e : Ent, e.all = bs ∧ ∀ c' : Cf, c'.m n = some e → RL c' w' vs [.ow n] ∧ ObOk c' w' n (.ty (eidS t) t l m) := by
  obtain ⟨g, cp, cells, rfl, rfl, h3, h4, h5, h6, h7, h8, h9⟩ := ty_of_rowQ (Z := Z) hf h
  refine ⟨⟨some g, l.length + vis m t, cp, []⟩, rfl, fun c' hc => ⟨RL.one ⟨_, hc, rfl⟩, _, hc, rfl, rfl, .inr ⟨g, cells, rfl, h4, h5, h6, h7, fun j hj => ?_, h9⟩⟩⟩
  obtain ⟨us, k1, k2⟩ := h8 j hj
  exact ⟨us, k1.flat_ hf, k2⟩
theorem imE_sound {fresh : Bool} {base : Nat} : ∀ {t : Ty} {x : El t} {vs : List Value} {bs : List Nat} {n : Nat}, okT t = true → bs.Nodup → RQ fresh Z w' base t x vs bs → ∃ es : List Ent, (imE fresh t x n).n = n + es.length ∧ es.flatMap Ent.all = bs ∧
    ∀ c' : Cf, Put c' n es → (∀ g, Z g → c'.Z g) → RL c' w' vs (imE fresh t x n).cs ∧ ObsOk c' w' n (n + es.length) (imE fresh t x n).ob
  | .bo, x, vs, bs, n, _, _, h => by
    obtain ⟨h1, rfl⟩ := h
    exact ⟨[], rfl, rfl, fun c' _ hz => ⟨(h1.zone hz).cel, ObsOk.nil⟩⟩
  | .it k, x, vs, bs, n, _, _, h => by
    obtain ⟨h1, rfl⟩ := h
    exact ⟨[], rfl, rfl, fun c' _ hz => ⟨(h1.zone hz).cel, ObsOk.nil⟩⟩
  | .st, x, vs, bs, n, _, _, h => by
    obtain ⟨h1, rfl⟩ := h
    exact ⟨[], rfl, rfl, fun c' _ hz => ⟨(h1.zone hz).cel, ObsOk.nil⟩⟩
  | .oq, x, vs, bs, n, _, _, h => by
    obtain ⟨h1, rfl⟩ := h
    exact ⟨[], rfl, rfl, fun c' _ hz => ⟨(h1.zone hz).cel, ObsOk.nil⟩⟩
  | .un, x, vs, bs, n, _, _, h => by
    obtain ⟨rfl, rfl⟩ := h
    exact ⟨[], rfl, rfl, fun c' _ hz => ⟨RL.nil, ObsOk.nil⟩⟩
  | .fn, x, vs, bs, n, _, _, h => h.elim
  | .lt t, l, vs, bs, n, hk, hnd, h => by
    unfold RQ at h
    cases fresh with
    | false =>
      simp only [Bool.false_eq_true, if_false] at h
      obtain ⟨h1, rfl⟩ := h
      exact ⟨[], rfl, rfl, fun c' _ hz => ⟨(h1.zone hz).cel, ObsOk.nil⟩⟩
    | true =>
      simp only [if_true] at h
      have h : rowQ w' base t (fun x us b => RQ true Z w' base t x us b) l (mks 4 t) (l.length + vis 4 t) vs bs := h
      have hk : t.nop = true := hk
      cases hf : t.flat with
      | true =>
        obtain ⟨e, h1, h2⟩ := ty_of_rowQ' (n := n) hf h
        refine ⟨[e], rfl, by simpa using h1, fun c' hp _ => ?_⟩
        obtain ⟨q1, q2⟩ := h2 c' (hp 0 e rfl)
        exact ⟨q1, by simp only [imE, hf, cond_true]; exact ObsOk.one q2⟩
      | false =>
        obtain ⟨e, h1, h2⟩ := dp_of_rowQ (n := n) hk h hnd
        refine ⟨[e], rfl, by simpa using h1, fun c' hp _ => ?_⟩
        obtain ⟨q1, q2⟩ := h2 c' (hp 0 e rfl)
        exact ⟨q1, by simp only [imE, hf, cond_true, cond_false]; exact ObsOk.one q2⟩
  | .lf t, l, vs, bs, n, hk, hnd, h => by
    unfold RQ at h
    cases fresh with
    | false =>
      simp only [Bool.false_eq_true, if_false] at h
      obtain ⟨h1, rfl⟩ := h
      exact ⟨[], rfl, rfl, fun c' _ hz => ⟨(h1.zone hz).cel, ObsOk.nil⟩⟩
    | true =>
      simp only [if_true] at h
      rw [mks_vis (show (3 : Nat) ≠ 4 by decide)] at h
      have hk : t.nop = true := hk
      obtain ⟨e, h1, h2⟩ := dp_of_rowQ (n := n) hk h hnd
      refine ⟨[e], rfl, by simpa using h1, fun c' hp _ => ?_⟩
      obtain ⟨q1, q2⟩ := h2 c' (hp 0 e rfl)
      exact ⟨q1, ObsOk.one q2⟩
  | .pt t, x, vs, bs, n, _, _, h => by
    obtain ⟨g, cells, et, rfl, rfl, h3, h4, h5, h6⟩ := h
    refine ⟨[⟨some g, 0, 0, []⟩], rfl, rfl, fun c' hp hz => ⟨RL.one ⟨_, g, hp 0 _ rfl, rfl, rfl⟩, ObsOk.one ⟨_, g, cells, et, hp 0 _ rfl, rfl, rfl, h4, (h6.zone hz).cel⟩⟩⟩
  | .sl t, l, vs, bs, n, hk, hnd, h => by
    unfold RQ at h
    cases fresh with
    | false =>
      simp only [Bool.false_eq_true, if_false] at h
      obtain ⟨h1, rfl⟩ := h
      exact ⟨[], rfl, rfl, fun c' _ hz => ⟨(h1.zone hz).cel, ObsOk.nil⟩⟩
    | true =>
      simp only [if_true] at h
      have hk : t.nop = true := hk
      cases hf : t.flat with
      | true =>
        rcases h with ⟨rfl, rfl, rfl⟩ | h
        · refine ⟨[⟨none, 0, 0, []⟩], rfl, rfl, fun c' hp hz => ⟨RL.one ⟨_, hp 0 _ rfl, rfl⟩, ?_⟩⟩
          simp only [imE, hf, cond_true]
          exact ObsOk.one ⟨_, hp 0 _ rfl, rfl, rfl, .inl ⟨rfl, rfl, rfl, rfl⟩⟩
        · obtain ⟨e, h1, h2⟩ := ty_of_rowQ' (n := n) (m := 0) hf h
          refine ⟨[e], rfl, by simpa using h1, fun c' hp _ => ?_⟩
          obtain ⟨q1, q2⟩ := h2 c' (hp 0 e rfl)
          exact ⟨q1, by simp only [imE, hf, cond_true]; exact ObsOk.one q2⟩
      | false =>
        rcases h with ⟨rfl, rfl, rfl⟩ | h
        · refine ⟨[⟨none, 0, 0, []⟩], rfl, rfl, fun c' hp hz => ⟨RL.one ⟨_, hp 0 _ rfl, rfl⟩, ?_⟩⟩
          simp only [imE, hf, cond_true, cond_false]
          exact ObsOk.one ⟨_, hp 0 _ rfl, List.nodup_nil, hk, rfl, .inl ⟨rfl, rfl, rfl, rfl, rfl, rfl⟩⟩
        · obtain ⟨e, h1, h2⟩ := dp_of_rowQ (n := n) (m := 0) hk h hnd
          refine ⟨[e], rfl, by simpa using h1, fun c' hp _ => ?_⟩
          obtain ⟨q1, q2⟩ := h2 c' (hp 0 e rfl)
          exact ⟨q1, by simp only [imE, hf, cond_true, cond_false]; exact ObsOk.one q2⟩
  | .pr t u, x, vs, bs, n, hk, hnd, h => by
    obtain ⟨us, us', cs, cs', rfl, rfl, h1, h2⟩ := h
    simp only [okT, Bool.and_eq_true] at hk
    obtain ⟨es, k1, k2, k3⟩ := imE_sound (n := n) hk.1 (hnd.sublist (List.sublist_append_left _ _)) h1
    obtain ⟨fs, l1, l2, l3⟩ := imE_sound (n := (imE fresh t x.1 n).n) hk.2 (hnd.sublist (List.sublist_append_right _ _)) h2
    refine ⟨es ++ fs, ?_, by rw [List.flatMap_append, k2, l2], fun c' hp hz => ?_⟩
    · show (imE fresh u x.2 (imE fresh t x.1 n).n).n = _
      rw [l1, k1, List.length_append, Nat.add_assoc]
    · obtain ⟨q1, q2⟩ := k3 c' hp.left hz
      obtain ⟨r1, r2⟩ := l3 c' (by rw [k1]; exact hp.right) hz
      refine ⟨q1.append r1, ?_⟩
      rw [List.length_append, ← Nat.add_assoc, ← k1]
      rw [← k1] at q2
      exact q2.append r2 (by omega) (by omega)
theorem imEs_sound {fresh : Bool} {base : Nat} : ∀ {ts : List Ty} {x : Els ts} {vs : List Value} {bs : List Nat} {n : Nat}, ts.all okT = true → bs.Nodup → RQs fresh Z w' base ts x vs bs → ∃ es : List Ent, (imEs fresh ts x n).n = n + es.length ∧ es.flatMap Ent.all = bs ∧
    ∀ c' : Cf, Put c' n es → (∀ g, Z g → c'.Z g) → (vs.length = (imEs fresh ts x n).vs.length ∧ ∀ (i : Nat) (v : Value) (p : Bool × List Ce), vs[i]? = some v → (imEs fresh ts x n).vs[i]? = some p → RP c' w' v p) ∧ ObsOk c' w' n (n + es.length) (imEs fresh ts x n).ob
  | [], x, [], bs, n, _, _, h => by
    cases h
    exact ⟨[], rfl, rfl, fun c' _ hz => ⟨⟨rfl, fun i v p h => by simp at h⟩, ObsOk.nil⟩⟩
  | [], _, _ :: _, _, _, _, _, h => h.elim
  | _ :: _, _, [], _, _, _, _, h => h.elim
  | t :: ts, x, v :: vs, bs, n, hk, hnd, h => by
    obtain ⟨b, b', rfl, h1, h2⟩ := h
    rw [List.all_cons, Bool.and_eq_true] at hk
    have h1' : ∃ us, RQ fresh Z w' base t x.1 us b ∧ ((t.agg = true ∧ v = .agg us.toArray) ∨ (t.agg = false ∧ us = [v])) := by
      unfold RQv at h1
      split at h1
      · rename_i ha; obtain ⟨us, e, h⟩ := h1; exact ⟨us.toList, h, .inl ⟨ha, by rw [e]⟩⟩
      · rename_i ha; exact ⟨[v], h1, .inr ⟨by simpa using ha, rfl⟩⟩
    obtain ⟨us, h1', hv⟩ := h1'
    obtain ⟨es, k1, k2, k3⟩ := imE_sound (n := n) hk.1 (hnd.sublist (List.sublist_append_left _ _)) h1'
    obtain ⟨fs, l1, l2, l3⟩ := imEs_sound (n := (imE fresh t x.1 n).n) hk.2 (hnd.sublist (List.sublist_append_right _ _)) h2
    refine ⟨es ++ fs, ?_, by rw [List.flatMap_append, k2, l2], fun c' hp hz => ?_⟩
    · show (imEs fresh ts x.2 (imE fresh t x.1 n).n).n = _
      rw [l1, k1, List.length_append, Nat.add_assoc]
    · obtain ⟨q1, q2⟩ := k3 c' hp.left hz
      obtain ⟨⟨r0, r1⟩, r2⟩ := l3 c' (by rw [k1]; exact hp.right) hz
      refine ⟨⟨?_, fun i u p e1 e2 => ?_⟩, ?_⟩
      · show vs.length + 1 = (imEs fresh ts x.2 (imE fresh t x.1 n).n).vs.length + 1
        rw [r0]
      · cases i with
        | zero =>
          have e2' : (t.agg, (imE fresh t x.1 n).cs) = p := Option.some.inj e2
          cases e1
          subst e2'
          unfold RP
          rcases hv with ⟨ha, rfl⟩ | ⟨ha, rfl⟩
          · rw [if_pos ha]; exact ⟨_, rfl, by simpa using q1⟩
          · rw [if_neg (by simp [ha])]
            have hl := q1.1
            match hcs : (imE fresh t x.1 n).cs, hl with
            | [z], _ => rw [hcs] at q1; obtain ⟨u, e, hu⟩ := q1.single; cases e; exact ⟨z, rfl, hu⟩
        | succ i => exact r1 i u p (by simpa using e1) e2
      · rw [List.length_append, ← Nat.add_assoc, ← k1]
        rw [← k1] at q2
        exact q2.append r2 (by omega) (by omega)
theorem tupA_sound {us : List Value} {ps : List (Bool × List Ce)} {v : Value} (h : us.length = ps.length ∧ ∀ (i : Nat) (v : Value) (p : Bool × List Ce), us[i]? = some v → ps[i]? = some p → RP c w v p) (hv : told_ us v) : RA c w v (tupA ps) := by
  obtain ⟨hl, h⟩ := h
  rcases hv with ⟨u, e1, e2⟩ | ⟨hn, rfl⟩
  · subst e2
    subst e1
    match ps, hl with
    | [(b, cs)], _ =>
      have hr := h 0 v (b, cs) rfl rfl
      unfold RP at hr
      cases b with
      | true => simp only [if_true] at hr; exact hr
      | false =>
        simp only [Bool.false_eq_true, if_false] at hr
        obtain ⟨x, rfl, hx⟩ := hr
        exact hx
  · have tu : RA c w (.tuple us.toArray) (.tu ps) := ⟨_, rfl, by simpa using hl, fun i v p e1 e2 => h i v p (by simpa using e1) e2⟩
    unfold tupA
    split
    · rename_i x; simp at hl; exact absurd hl hn
    · rename_i cs; simp at hl; exact absurd hl hn
    · exact tu
theorem RA.rv {v : Value} {x : AV} {t : Ty} {cs : List Ce} {e : El t} (h : RA c w v x) (k : x.cellsAs t.agg = some cs) (hO : ∀ i o, O i = some o → ObOk c w i o) (hE : toE O t cs = some e) : RV (Zall c O) w t e v := by
  unfold AV.cellsAs at k
  unfold RV
  split at k
  · cases k
  · rename_i y hy
    cases ha : t.agg with
    | true => rw [ha] at k; cases k
    | false =>
      rw [ha] at k
      cases k
      simp only [Bool.false_eq_true, if_false]
      exact toE_sound hO t _ _ _ (RL.one h) hE
  · cases ha : t.agg with
    | false => rw [ha] at k; cases k
    | true =>
      rw [ha] at k
      cases k
      simp only [if_true]
      obtain ⟨us, e1, h2⟩ := h
      exact ⟨us, e1, toE_sound hO t _ _ _ h2 hE⟩
  · cases k
theorem toEs_sound (hO : ∀ i o, O i = some o → ObOk c w i o) : ∀ {ts : List Ty} {xs : List AV} {vs : List Value} {e : Els ts}, toEs O ts xs = some e → vs.length = xs.length → (∀ (i : Nat) (v : Value) (x : AV), vs[i]? = some v → xs[i]? = some x → RA c w v x) → RVs (Zall c O) w ts e vs
  | [], [], [], _, _, _, _ => trivial
  | [], [], _ :: _, _, _, h, _ => by simp at h
  | [], _ :: _, _, _, h, _, _ => by simp [toEs] at h
  | _ :: _, [], _, _, h, _, _ => by simp [toEs] at h
  | t :: ts, x :: xs, [], _, _, h, _ => by simp at h
  | t :: ts, x :: xs, v :: vs, e, h, hl, hv => by
    unfold toEs at h
    split at h
    · rename_i cs h1
      split at h
      · rename_i y ys h2 h3
        cases h
        exact ⟨(hv 0 v x rfl rfl).rv h1 hO h2, toEs_sound hO h3 (by simpa using hl) (fun i u z e1 e2 => hv (i + 1) u z (by simpa using e1) (by simpa using e2))⟩
      · cases h
    · cases h
theorem RV.zone {t : Ty} {x : El t} {v : Value} (hz : ∀ g, Z g → Z' g) (h : RV Z w t x v) : RV Z' w t x v := by
  unfold RV at h ⊢
  split
  · rename_i ha; rw [if_pos ha] at h; obtain ⟨us, h1, h2⟩ := h; exact ⟨us, h1, h2.zone hz⟩
  · rename_i ha; rw [if_neg ha] at h; exact RT.zone hz h
theorem RVs.zone (hz : ∀ g, Z g → Z' g) : ∀ {ts : List Ty} {x : Els ts} {vs : List Value}, RVs Z w ts x vs → RVs Z' w ts x vs
  | [], _, [], _ => trivial
  | [], _, _ :: _, h => h.elim
  | _ :: _, _, [], h => h.elim
  | _ :: _, _, _ :: _, h => ⟨h.1.zone hz, RVs.zone hz h.2⟩
end
theorem flat_inj : ∀ {l : List Ent}, (l.flatMap Ent.all).Nodup → ∀ (i j : Nat) (x y : Ent) (b : Nat), l[i]? = some x → l[j]? = some y → x.has b → y.has b → i = j
  | [], _, _, _, _, _, _, h, _, _, _ => by simp at h
  | z :: l, hn, i, j, x, y, b, hi, hj, hx, hy => by
    rw [List.flatMap_cons] at hn
    obtain ⟨h1, h2, h3⟩ := List.nodup_append.1 hn
    cases i with
    | zero =>
      cases hi
      cases j with
      | zero => rfl
      | succ j => exact absurd rfl (h3 b hx b (List.mem_flatMap.2 ⟨y, List.mem_of_getElem? (by simpa using hj), hy⟩))
    | succ i =>
      cases j with
      | zero =>
        cases hj
        exact absurd rfl (h3 b hy b (List.mem_flatMap.2 ⟨x, List.mem_of_getElem? (by simpa using hi), hx⟩))
      | succ j => rw [flat_inj h2 i j x y b (by simpa using hi) (by simpa using hj) hx hy]
theorem RQ.base_ {fresh : Bool} {Z : Nat → Prop} {w : World} {base : Nat} {t : Ty} {x : El t} {vs : List Value} {bs : List Nat} (h : RQ fresh Z w base t x vs bs) : ∀ g ∈ bs, base ≤ g := by
  cases fresh with
  | true => exact fun g hg => (h.lt_ g hg).1
  | false =>
    have key : ∀ {t : Ty} {x : El t} {vs : List Value} {bs : List Nat}, RQ false Z w base t x vs bs → ∀ g ∈ bs, base ≤ g := by
      intro t
      induction t with
      | bo => intro x vs bs h g hg; obtain ⟨_, rfl⟩ := h; cases hg
      | it k => intro x vs bs h g hg; obtain ⟨_, rfl⟩ := h; cases hg
      | st => intro x vs bs h g hg; obtain ⟨_, rfl⟩ := h; cases hg
      | oq => intro x vs bs h g hg; obtain ⟨_, rfl⟩ := h; cases hg
      | un => intro x vs bs h g hg; obtain ⟨_, rfl⟩ := h; cases hg
      | fn => intro x vs bs h; exact h.elim
      | sl t _ => intro x vs bs h g hg; unfold RQ at h; rw [if_neg (by simp)] at h; obtain ⟨_, rfl⟩ := h; cases hg
      | lt t _ => intro x vs bs h g hg; unfold RQ at h; rw [if_neg (by simp)] at h; obtain ⟨_, rfl⟩ := h; cases hg
      | lf t _ => intro x vs bs h g hg; unfold RQ at h; rw [if_neg (by simp)] at h; obtain ⟨_, rfl⟩ := h; cases hg
      | pt t _ => intro x vs bs h g hg; obtain ⟨g', _, _, _, rfl, h3, _⟩ := h; rw [List.mem_singleton] at hg; subst hg; exact h3
      | pr a b iha ihb =>
        intro x vs bs h g hg
        obtain ⟨us, us', cs, cs', _, rfl, h1, h2⟩ := h
        rcases List.mem_append.1 hg with hg | hg
        · exact iha h1 g hg
        · exact ihb h2 g hg
    exact key h
theorem RQs.base_ {fresh : Bool} {Z : Nat → Prop} {w : World} {base : Nat} : ∀ {ts : List Ty} {x : Els ts} {vs : List Value} {bs : List Nat}, RQs fresh Z w base ts x vs bs → ∀ g ∈ bs, base ≤ g
  | [], _, [], _, h, g, hg => by cases h; cases hg
  | [], _, _ :: _, _, h, _, _ => h.elim
  | _ :: _, _, [], _, h, _, _ => h.elim
  | t :: ts, x, v :: vs, bs, h, g, hg => by
    obtain ⟨b, b', rfl, h1, h2⟩ := h
    rcases List.mem_append.1 hg with hg | hg
    · unfold RQv at h1
      split at h1
      · obtain ⟨us, _, h1⟩ := h1; exact h1.base_ g hg
      · exact h1.base_ g hg
    · exact RQs.base_ h2 g hg
theorem RQs.fresh_ {Z Z' : Nat → Prop} {w : World} {base : Nat} : ∀ {ts : List Ty} {x : Els ts} {vs : List Value} {bs : List Nat}, RQs true Z w base ts x vs bs → RQs true Z' w base ts x vs bs
  | [], _, [], _, h => h
  | [], _, _ :: _, _, h => h.elim
  | _ :: _, _, [], _, h => h.elim
  | t :: ts, x, v :: vs, bs, h => by
    obtain ⟨b, b', h0, h1, h2⟩ := h
    refine ⟨b, b', h0, ?_, RQs.fresh_ h2⟩
    unfold RQv at h1 ⊢
    split
    · rename_i ha; rw [if_pos ha] at h1; obtain ⟨us, k1, k2⟩ := h1; exact ⟨us, k1, k2.mono (fun _ _ h => h) (fun _ _ => rfl)⟩
    · rename_i ha; rw [if_neg ha] at h1; exact h1.mono (fun _ _ h => h) (fun _ _ => rfl)
section
variable {P : Program} {C : Cfg} {gp : Option Nat} {Z0 Z Z' : Nat → Prop} {w0 : Base} {w w' : World} {D D' : Nat → Prop} {c c' : Cf} {T : Nat → Option AV} {O O' : Store} {a : Act} {o : Oper}
theorem call_step {N : Nat} (S : Sim gp Z0 w0 N D c T O a.tmps w) {Sp : Spec} {r : Els Sp.rs} {us : List Value} {bs : List Nat} {v : Value} {n : Nat} (hok : Sp.rs.all okT = true) (hu : told_ us v) (hR : RQs Sp.fresh Z' w' w.heap.size Sp.rs r us bs) (hb : bs.Nodup) (hbz : ∀ g ∈ bs, ¬ Z' g) (hzz : ∀ g, c.Z g → Z' g) (hz2 : Sp.fresh = false → ∀ g, Z' g → c.Z g ∨ w.heap.size ≤ g) (hz3 : ∀ g, Z' g → g < w'.heap.size)
    (hfr : ∀ i, n ≤ i → i < (imEs Sp.fresh Sp.rs r n).n → ¬ D i) {yob : OB} {gv : Option Nat} (hg : w.grownBy w' gv) (hy : (yob = [] ∧ gv = none) ∨ ∃ i cs cs' e g, yob = [(i, .var cs')] ∧ gv = some g ∧ O i = some (.var cs) ∧ c.m i = some e ∧ e.bl = some g ∧ ∃ cells et, w'.heap[g]? = some (.cells cells et (0, 0)) ∧ ∀ c' : Cf, c.Le c' → (∀ g, (if Sp.fresh = true then c.Z g else Z' g) → c'.Z g) → RL c' w' cells.toList cs') :
    ∃ c', ∀ d, dstOk N d = true → Sim gp Z0 w0 N (fun j => D j ∨ n ≤ j ∧ j < n + ((imEs Sp.fresh Sp.rs r n).n - n)) c' (upT T d (tupA (imEs Sp.fresh Sp.rs r n).vs)) (upO O (yob ++ (imEs Sp.fresh Sp.rs r n).ob)) (a.put d v).tmps w' := by
  obtain ⟨Zn, hZn⟩ : ∃ Zn : Nat → Prop, Zn = fun g => if Sp.fresh = true then c.Z g else Z' g := ⟨_, rfl⟩
  have hR' : RQs Sp.fresh Zn w' w.heap.size Sp.rs r us bs := by
    cases hf : Sp.fresh with
    | true => rw [hf] at hR; exact hR.fresh_
    | false =>
      have : Zn = Z' := by rw [hZn]; funext g; rw [hf]; simp
      rw [this, ← hf]; exact hR
  have zn1 : ∀ g, c.Z g → Zn g := fun g h => by
    rw [hZn]
    show (if Sp.fresh = true then c.Z g else Z' g)
    split
    · exact h
    · exact hzz g h
  have zn2 : ∀ g, Zn g → c.Z g ∨ w.heap.size ≤ g := fun g h => by
    replace h : (if Sp.fresh = true then c.Z g else Z' g) := by rw [hZn] at h; exact h
    split at h
    · exact .inl h
    · rename_i hf; exact hz2 (by simpa using hf) g h
  have zn3 : ∀ g, Zn g → g < w'.heap.size := fun g h => by
    rcases zn2 g h with h1 | _
    · exact Nat.lt_of_lt_of_le (S.zl g h1) hg.size
    · replace h : (if Sp.fresh = true then c.Z g else Z' g) := by rw [hZn] at h; exact h
      split at h
      · exact Nat.lt_of_lt_of_le (S.zl g h) hg.size
      · exact hz3 g h
  have hbase := hR'.base_
  have zn4 : ∀ g ∈ bs, ¬ Zn g := fun g hm h => by
    replace h : (if Sp.fresh = true then c.Z g else Z' g) := by rw [hZn] at h; exact h
    split at h
    · have := S.zl g h; have := hbase g hm; omega
    · exact hbz g hm h
  obtain ⟨es, k1, k2, k3⟩ := imEs_sound (n := n) hok hb hR'
  have hlen : (imEs Sp.fresh Sp.rs r n).n - n = es.length := by omega
  rw [hlen]
  rw [k1] at hfr
  let c' : Cf := ⟨fun i => if n ≤ i ∧ i < n + es.length then es[i - n]? else c.m i, Zn⟩
  have put : Put c' n es := fun k e hk => by
    have := (List.getElem?_eq_some_iff.1 hk).1
    show (if n ≤ n + k ∧ n + k < n + es.length then es[n + k - n]? else c.m (n + k)) = some e
    rw [if_pos ⟨by omega, by omega⟩, show n + k - n = k by omega]
    exact hk
  have le : c.Le c' := ⟨fun i e hi => by
    show (if n ≤ i ∧ i < n + es.length then es[i - n]? else c.m i) = some e
    rw [if_neg (fun h => hfr i h.1 h.2 (S.dom i e hi))]
    exact hi, zn1⟩
  obtain ⟨q1, q2⟩ := k3 c' put (fun g h => h)
  have st : Stay c.Z w w' := fun g hz => hg.block g (S.zl g hz) (fun e => by
    rcases hy with ⟨_, h2⟩ | ⟨i, cs, cs', en, g', _, h2, h3, h4, h5, _⟩
    · rw [h2] at e; cases e
    · rw [h2] at e; cases e; exact S.zo i _ en g h3 rfl h4 (Ent.has_bl h5) hz)
  have lk : ∀ i o, look (yob ++ (imEs Sp.fresh Sp.rs r n).ob) i = some o → ((n ≤ i ∧ i < n + es.length) ∧ ObOk c' w' i o ∧ c'.m i = es[i - n]?) ∨ ((∃ cs cs' e g, yob = [(i, .var cs')] ∧ o = .var cs' ∧ gv = some g ∧ O i = some (.var cs) ∧ c.m i = some e ∧ e.bl = some g) ∧ ObOk c' w' i o) := fun i o h => by
    rcases List.mem_append.1 (look_mem h) with h | h
    · right
      rcases hy with ⟨h1, _⟩ | ⟨i', cs, cs', en, g', h1, h2, h3, h4, h5, cells, et, h6, h7⟩
      · rw [h1] at h; simp at h
      · rw [h1] at h
        simp at h
        obtain ⟨rfl, rfl⟩ := h
        have h5' : en.ds = [] := by
          obtain ⟨en', _, _, _, z1, _, z2, _⟩ := S.obj i _ h3
          rw [h4] at z1; cases z1; exact z2
        exact ⟨⟨cs, cs', en, g', h1, rfl, h2, h3, h4, h5⟩, en, g', cells, et, le.m _ _ h4, h5, h5', h6, h7 c' le (fun g hg' => by show Zn g; rw [hZn]; exact hg')⟩
    · left
      obtain ⟨r1, r2, r3⟩ := q2 _ h
      exact ⟨⟨r1, r2⟩, r3, if_pos ⟨r1, r2⟩⟩
  refine ⟨c', fun d hd => S.step hd le st (tupA_sound q1 hu) (fun i o h1 h2 h3 e g h4 h5 => ?_) (fun i o h => ?_) (fun i o e g h1 h2 h3 h4 => ?_) (fun i j o p e f g h1 h2 h3 h4 h5 h6 h7 h8 => ?_) (fun g hz => ?_) (fun i e h => ?_) ?_ (fun i cs o h1 h2 => ?_)⟩
  · refine hg.block g ((S.obj i o h1).lt h3 e g h4 h5) (fun e0 => ?_)
    rcases hy with ⟨_, y2⟩ | ⟨i', cs, cs', en, g', y1, y2, y3, y4, y5, _⟩
    · rw [y2] at e0; cases e0
    · rw [y2] at e0
      cases e0
      by_cases hii : i = i'
      · subst hii
        rw [y1, look_append, look_one, if_pos rfl] at h2
        cases h2
      · exact S.inj i i' o _ e en g h1 y3 h3 rfl hii h4 y4 h5 (Ent.has_bl y5)
  · rcases lk i o h with ⟨_, h1, _⟩ | ⟨_, h1⟩ <;> exact h1
  · rcases lk i o h1 with ⟨l1, _, l3⟩ | ⟨⟨cs, cs', en, g', y1, y2, y3, y4, y5, y6⟩, _⟩
    · rw [l3] at h3
      have hgb : g ∈ bs := by rw [← k2]; exact List.mem_flatMap.2 ⟨e, List.mem_of_getElem? h3, h4⟩
      exact ⟨.inr (hbase g hgb), zn4 g hgb⟩
    · have := le.m _ _ y5
      rw [h3] at this
      cases this
      refine ⟨.inl ⟨i, _, e, y4, rfl, y5, h4, by rw [h1]; rfl⟩, fun hz => ?_⟩
      rcases zn2 g hz with hz | hz
      · exact S.zo i _ e g y4 rfl y5 h4 hz
      · have := (S.obj i _ y4).lt rfl e g y5 h4; omega
  · intro h9
    rcases lk i o h1 with ⟨l1, _, l3⟩ | ⟨⟨cs, cs', en, g', y1, y2, y3, y4, y5, y6⟩, _⟩ <;> rcases lk j p h2 with ⟨m1, _, m3⟩ | ⟨⟨ds, ds', en', g2, x1, x2, x3, x4, x5, x6⟩, _⟩
    · rw [l3] at h6
      rw [m3] at h7
      have := flat_inj (by rw [k2]; exact hb) _ _ e f g h6 h7 h8 h9
      omega
    · rw [l3] at h6
      have hgb : g ∈ bs := by rw [← k2]; exact List.mem_flatMap.2 ⟨e, List.mem_of_getElem? h6, h8⟩
      have := le.m _ _ x5
      rw [h7] at this
      cases this
      have := (S.obj j _ x4).lt rfl f g x5 h9
      have := hbase g hgb
      omega
    · rw [m3] at h7
      have hgb : g ∈ bs := by rw [← k2]; exact List.mem_flatMap.2 ⟨f, List.mem_of_getElem? h7, h9⟩
      have := le.m _ _ y5
      rw [h6] at this
      cases this
      have := (S.obj i _ y4).lt rfl e g y5 h8
      have := hbase g hgb
      omega
    · rw [y1] at x1
      cases x1
      exact h5 rfl
  · refine ⟨zn3 g hz, ?_, fun i o e h1 h2 h3 h4 h5 => ?_⟩
    · rcases zn2 g hz with h | h
      · exact S.zz g h
      · exact .inr (Nat.le_trans S.gr.size h)
    · rcases zn2 g hz with h | h
      · exact S.zo i o e g h1 h3 h4 h5 h
      · have := (S.obj i o h1).lt h3 e g h4 h5; omega
  · have h' : (if n ≤ i ∧ i < n + es.length then es[i - n]? else c.m i) = some e := h
    split at h'
    · rename_i hr; exact .inr hr
    · exact .inl (S.dom i e h')
  · refine ⟨hg.os.trans S.gr.os, hg.tape.trans S.gr.tape, hg.output.trans S.gr.output, Nat.le_trans S.gr.size hg.size, fun k hk hr => ?_⟩
    refine (hg.block k (Nat.lt_of_lt_of_le hk S.gr.size) (fun e0 => ?_)).trans (S.gr.block k hk hr)
    rcases hy with ⟨_, y2⟩ | ⟨i', cs, cs', en, g', y1, y2, y3, y4, y5, _⟩
    · rw [y2] at e0; cases e0
    · rw [y2] at e0
      cases e0
      rcases S.bs i' _ en k y3 rfl y4 (Ent.has_bl y5) with h | h
      · omega
      · exact hr h.symm
  · rcases lk i o h2 with ⟨l1, _, _⟩ | ⟨⟨cs1, cs', en, g', y1, y2, y3, y4, y5, y6⟩, _⟩
    · obtain ⟨e, _, _, _, y, _⟩ := S.obj i _ h1
      exact absurd (S.dom i e y) (hfr i l1.1 l1.2)
    · exact ⟨cs', y2⟩
theorem zall_sub (hO : ∀ i o, O' i = some o → O i = some o) : ∀ g, Zall c O' g → Zall c O g := fun g h => by
  rcases h with h | ⟨i, o, e, h1, h2⟩
  · exact .inl h
  · exact .inr ⟨i, o, e, hO _ _ h1, h2⟩
theorem zall_lt {N : Nat} (S : Sim gp Z0 w0 N D c T O a.tmps w) : ∀ g, Zall c O g → g < w.heap.size := fun g h => by
  rcases h with h | ⟨i, o, e, h1, h2, _, h4, h5⟩
  · exact S.zl g h
  · exact (S.obj i o h1).lt h2 e g h4 h5
theorem args_val {N : Nat} (S : Sim gp Z0 w0 N D c T O a.tmps w) (hO : ∀ i o, O' i = some o → O i = some o) {fr : Bool} {ts : List Ty} {xs : List AV} {vs : List Value} {fz : OB} {x : Els ts} (h1 : (bif fr then some [] else frz O' xs) = some fz) (h2 : toEs (bif fr then O' else onlyFz O' fz) ts xs = some x) (hl : vs.length = xs.length) (hv : ∀ (i : Nat) (v : Value) (x : AV), vs[i]? = some v → xs[i]? = some x → RA c w v x) :
    ∃ c1 Zf, c.Le c1 ∧ c1.m = c.m ∧ Sim gp Z0 w0 N D c1 T (upO O fz) a.tmps w ∧ RVs Zf w ts x vs ∧ (∀ g, Zf g → g < w.heap.size) ∧ (∀ g, c1.Z g → Zf g) ∧ (fr = false → ∀ g, Zf g → c1.Z g) ∧ (∀ i cs e g, O i = some (.var cs) → c.m i = some e → e.bl = some g → ¬ Zf g) := by
  cases fr with
  | true =>
    simp only [cond_true, Option.some.injEq] at h1 h2
    subst h1
    refine ⟨c, Zall c O, Cf.Le.refl c, rfl, S, (toEs_sound (fun i o h => S.obj i o (hO i o h)) h2 hl hv).zone (zall_sub hO), zall_lt S, fun g h => .inl h, (fun h => absurd h (by simp)), fun i cs e g q1 q2 q3 h => ?_⟩
    rcases h with h | ⟨j, o, f, r1, r2, r3, r4, r5⟩
    · exact S.zo i _ e g q1 rfl q2 (Ent.has_bl q3) h
    · exact S.inj i j _ o e f g q1 r1 rfl r2 (fun e0 => by subst e0; rw [q1] at r1; cases r1; exact r3 _ rfl) q2 r4 (Ent.has_bl q3) r5
  | false =>
    simp only [cond_false] at h1 h2
    have hfz := fz_look hO (frz_sound h1)
    obtain ⟨c1, le1, m1, S1⟩ := S.freeze hfz
    obtain ⟨z1, z2⟩ := onlyFz_zone hO hfz S1
    refine ⟨c1, c1.Z, le1, m1, S1, (toEs_sound z1 h2 hl (fun i v x e1 e2 => (hv i v x e1 e2).mono le1 (Stay.refl _ _))).zone z2, S1.zl, fun g h => h, fun _ g h => h, fun i cs e g q1 q2 q3 h => ?_⟩
    have : upO O fz i = some (.var cs) := by
      unfold upO
      cases hl : look fz i with
      | none => exact q1
      | some p =>
        obtain ⟨o, y, _, y2⟩ := (hfz i p hl).some
        have y : O i = some o := y
        rw [q1] at y; cases y
        exact absurd rfl (y2 cs)
    exact S1.zo i _ e g this rfl (by rw [m1]; exact q2) (Ent.has_bl q3) h
theorem spec_prim {f : Nat} {Sp : Spec} (hF : FnOk P f Sp) (hok : Sp.rs.all okT = true := by rfl) : PrimOk P f Sp.prim := by
  refine ⟨hF.1, fun gp Z0 w0 N D c T O O' a w xs vs n cd G S hO hl hv h hfr hc => ?_⟩
  unfold Spec.prim at h
  cases hp : Sp.ptr with
  | false =>
    rw [hp] at h
    simp only [cond_false] at h
    unfold Spec.prim0 at h
    split at h
    · rename_i fz h1
      split at h
      · rename_i x h2
        cases h
        obtain ⟨c1, Zf, le1, m1, S1, r1, r2, r3, r4, _⟩ := args_val S hO h1 h2 (vs := vs.toList) (by simpa using hl) (fun i v x e1 e2 => hv i v x (by simpa using e1) e2)
        have := hF.2 Zf w 0 vs.toList (dfl Sp.q) x ⟨r2, (w0.gl S1.zg).mono r3 (Stay.refl _ _)⟩ r1 hc (fun e => by rw [hp] at e; cases e) (fun _ => rfl)
        rw [if_neg (by simp [hp]), Array.toArray_toList] at this
        refine this.mono ?_
        rintro e w' ⟨v, us, bs, Z', rfl, t1, t2, t3, t4, t5, t6, t7, t8, _⟩
        rw [if_neg (by simp [hp])] at t8
        have hfr' : ∀ i, n ≤ i → i < (imEs Sp.fresh Sp.rs (Sp.post (dfl Sp.q) x).2 n).n → ¬ D i := fun i h1 h2 => hfr i h1 (by
          show i < n + ((imEs Sp.fresh Sp.rs (Sp.post (dfl Sp.q) x).2 n).n - n)
          omega)
        obtain ⟨c', key⟩ := call_step S1 hok t1 t2 t3 t4 (fun g h => t5 g (r3 g h)) (fun hf g h => (t6 g h).imp (r4 hf g) id) t7 hfr' (yob := []) (gv := none) t8 (.inl ⟨rfl, rfl⟩)
        refine ⟨v, c', rfl, fun d hd => ?_⟩
        have := key d hd
        rw [upO_upO] at this
        exact this
      · cases h
    · cases h
  | true =>
    rw [hp] at h
    simp only [cond_true] at h
    unfold Spec.primP at h
    split at h
    · rename_i i ys
      cases hfq : (Sp.fresh && !Sp.q.flat) with
      | true => rw [hfq] at h; cases h
      | false =>
        rw [hfq] at h
        simp only [cond_false] at h
        split at h
        · rename_i cs hi
          split at h
          · rename_i fz h1
            split at h
            · rename_i y x hy h2
              cases h
              have hl0 : vs.toList.length = ys.length + 1 := by simpa using hl
              match hvs : vs.toList, hl0 with
              | v0 :: vt, hl0 =>
                have hv' : ∀ (k : Nat) (v : Value) (z : AV), (v0 :: vt)[k]? = some v → (AV.c (.pv i 0) :: ys)[k]? = some z → RA c w v z := fun k v z e1 e2 => hv k v z (by rw [← hvs] at e1; simpa using e1) e2
                obtain ⟨e0, g0, p1, p2, p3⟩ := hv' 0 v0 _ rfl rfl
                obtain ⟨e0', g0', cells, et, o1, o2, o2', o3, o4⟩ := S.obj i _ (hO _ _ hi)
                rw [p1] at o1; cases o1
                rw [p2] at o2; cases o2
                have hyv := toE_none o4 hy
                obtain ⟨c1, Zf, le1, m1, S1, r1, r2, r3, r4, r5⟩ := args_val S hO h1 h2 (vs := vt) (by simpa using hl0) (fun k v z e1 e2 => hv' (k + 1) v z (by simpa using e1) (by simpa using e2))
                have hg0 := r5 i cs e0 g0 (hO _ _ hi) p1 p2
                have := hF.2 Zf w g0 vt y x ⟨r2, (w0.gl S1.zg).mono r3 (Stay.refl _ _)⟩ r1 hc (fun _ => ⟨hg0, cells, et, o3, hyv.zone (fun g h => r3 g (le1.Z g h))⟩) (fun e => by rw [hp] at e; cases e)
                rw [if_pos hp] at this
                have hargs : (Value.pointer (some ⟨g0, 0, none⟩) :: vt).toArray = vs := by
                  rw [← p3, ← hvs, Array.toArray_toList]
                rw [hargs] at this
                refine this.mono ?_
                rintro e w' ⟨v, us, bs, Z', rfl, t1, t2, t3, t4, t5, t6, t7, t8, t9⟩
                rw [if_pos hp] at t8
                have hfr' : ∀ j, n ≤ j → j < (imEs Sp.fresh Sp.rs (Sp.post y x).2 n).n → ¬ D j := fun j h1 h2 => hfr j h1 (by
                  show j < n + ((imEs Sp.fresh Sp.rs (Sp.post y x).2 n).n - n)
                  omega)
                have hO1 : upO O fz i = some (.var cs) := by
                  unfold upO
                  cases hl : look fz i with
                  | none => exact hO _ _ hi
                  | some p =>
                    exfalso
                    have hq : ∃ o, O i = some o ∧ ∀ cs, o ≠ .var cs := by
                      cases hf : Sp.fresh with
                      | true => rw [hf] at h1; simp only [cond_true, Option.some.injEq] at h1; subst h1; cases hl
                      | false =>
                        rw [hf] at h1
                        obtain ⟨o, q1, _, q2⟩ := (fz_look hO (frz_sound h1) i p hl).some
                        exact ⟨o, q1, q2⟩
                    obtain ⟨o, q, q2⟩ := hq
                    rw [hO _ _ hi] at q
                    cases q
                    exact q2 cs rfl
                obtain ⟨cells', et', u1, u2⟩ := t9 hp
                obtain ⟨c', key⟩ := call_step S1 hok t1 t2 t3 t4 (fun g h => t5 g (r3 g h)) (fun hf g h => (t6 g h).imp (r4 hf g) id) t7 hfr' (yob := [(i, .var (cel Sp.q (Sp.post y x).1))]) (gv := some g0) t8 (.inr ⟨i, cs, _, e0, g0, rfl, rfl, hO1, by rw [m1]; exact p1, p2, cells', et', u1, fun c' _ hz => by
                  cases hf : Sp.fresh with
                  | true =>
                    rw [hf] at hfq
                    have hq : Sp.q.flat = true := by simpa using hfq
                    exact (u2.flat_ (Z' := c'.Z) hq).cel
                  | false =>
                    exact (u2.zone (fun g h => hz g (by rw [if_neg (by simp [hf])]; exact h))).cel⟩)
                refine ⟨v, c', rfl, fun d hd => ?_⟩
                have := key d hd
                rw [upO_upO] at this
                exact this
            · cases h
          · cases h
        · cases h
    · cases h
end
section
variable {P : Program} {C : Cfg} {gp : Option Nat} {Z0 Z Z' : Nat → Prop} {w0 : Base} {w w' : World} {D D' : Nat → Prop} {c c' : Cf} {T : Nat → Option AV} {O O' : Store} {a : Act} {o : Oper}
def resOf (tmps : Array Value) : ResultVar → Sem Value
  | .tmp t => pure (tmps.getD t undef)
  | .cell a t => do loadVar t (← asAddr (tmps.getD a undef))
theorem resV_run (hT : tyB P C.ty C.ty = true) {N : Nat} (S : Sim gp Z0 w0 N D c T O a.tmps w) : ∀ {rs : List ResultVar} {ps : List (Bool × List Ce)}, resV C T O rs = some ps →
    ∃ us, (rs.mapM (resOf a.tmps)).run P w = .ok us w ∧ us.length = ps.length ∧ ∀ (i : Nat) (v : Value) (p : Bool × List Ce), us[i]? = some v → ps[i]? = some p → RP c w v p
  | [], ps, h => by
    cases h
    exact ⟨[], rfl, rfl, fun i v p h => by simp at h⟩
  | .tmp t :: rs, ps, h => by
    unfold resV at h
    have go : ∀ {u : Value} {p : Bool × List Ce} {l : List (Bool × List Ce)}, a.tmps[t]? = some u → RP c w u p → resV C T O rs = some l → ps = p :: l → ∃ us, ((ResultVar.tmp t :: rs).mapM (resOf a.tmps)).run P w = .ok us w ∧ us.length = ps.length ∧ ∀ (i : Nat) (v : Value) (p : Bool × List Ce), us[i]? = some v → ps[i]? = some p → RP c w v p := fun {u p l} h1 h2 h3 h4 => by
      obtain ⟨us, k1, k2, k3⟩ := resV_run hT S h3
      subst h4
      refine ⟨u :: us, ?_, by simp [k2], fun i v q e1 e2 => ?_⟩
      · rw [List.mapM_cons]
        have e : a.tmps.getD t undef = u := by simp [h1]
        simp only [resOf, e, Sem.run_bind, Sem.run_pure, Result.andThen, k1]
      · cases i with
        | zero => cases e1; cases e2; exact h2
        | succ i => exact k3 i v q (by simpa using e1) (by simpa using e2)
    split at h
    · rename_i x l h1 h2
      cases h
      obtain ⟨u, q1, q2⟩ := S.tmp t _ h1
      exact go q1 (by unfold RP; rw [if_neg (by simp)]; exact ⟨x, rfl, q2⟩) h2 rfl
    · rename_i cs l h1 h2
      cases h
      obtain ⟨u, q1, q2⟩ := S.tmp t _ h1
      exact go q1 (by unfold RP; rw [if_pos rfl]; exact q2) h2 rfl
    · cases h
  | .cell t ty :: rs, ps, h => by
    unfold resV at h
    split at h
    · rename_i i y l h1 h2 h3
      split at h
      · rename_i cs hi
        obtain ⟨ds, h4, h5⟩ := map_some h
        subst h5
        obtain ⟨us, k1, k2, k3⟩ := resV_run hT S h3
        obtain ⟨u, q1, e, g, q2, q3, q4⟩ := S.tmp t _ h1
        obtain ⟨e', g', vs, et, r1, r2, r0, r3, r4⟩ := S.obj i _ hi
        rw [q2] at r1; cases r1
        rw [q3] at r2; cases r2
        obtain ⟨s1, s2⟩ := r4.sub h4
        obtain ⟨ei, _, hy⟩ := tyOk_of hT h2
        have hld := hy.run_load (w := w) (g := g) (o := 0) (vs := (vs.toList.drop 0).take y.size) (by rw [List.length_take, List.length_drop]; omega) (fun j z hj => by
          rw [List.drop_zero, List.getElem?_take] at hj
          split at hj
          · rw [Nat.zero_add, cell_of r3]; simpa using hj
          · cases hj)
        refine ⟨mkV y.agg ((vs.toList.drop 0).take y.size) :: us, ?_, by simp [k2], fun j v p e1 e2 => ?_⟩
        · rw [List.mapM_cons]
          have e0 : a.tmps.getD t undef = .pointer (some ⟨g, 0, none⟩) := by rw [← q4]; simp [q1]
          simp only [resOf, e0, asAddr, Sem.run_bind, Sem.run_pure, Result.andThen, hld, k1]
        · cases j with
          | zero =>
            cases e1
            cases e2
            unfold RP
            cases ha : y.agg with
            | true => rw [if_pos rfl]; exact ⟨_, rfl, by simpa using s1⟩
            | false =>
              rw [if_neg (by simp)]
              have hy1 : y.size = 1 := by cases y <;> first | rfl | cases ha
              have hl : ds.length = 1 := by rw [← s1.1, List.length_take, List.length_drop]; omega
              match ds, hl with
              | [z], _ =>
                obtain ⟨u', e', hu⟩ := s1.single
                rw [e']
                exact ⟨z, rfl, hu⟩
          | succ j => exact k3 j v p (by simpa using e1) (by simpa using e2)
      · cases h
    · cases h
theorem results_run {fn : Func} {us : List Value} (h : (fn.results.toList.mapM (resOf a.tmps)).run P w = .ok us w) : ∃ v, (results fn a.tmps).run P w = .ok v w ∧ told_ us v := by
  have e : (results fn a.tmps) = (do
      let vs ← fn.results.mapM (resOf a.tmps)
      pure (if h : vs.size = 1 then vs[0] else .tuple vs)) := by
    unfold results
    congr 1
  rw [e, Sem.run_bind, Array.mapM_eq_mapM_toList]
  have e2 : (List.toArray <$> fn.results.toList.mapM (resOf a.tmps)).run P w = .ok us.toArray w := by
    rw [← bind_pure_comp, Sem.run_bind, h]
    rfl
  rw [e2]
  simp only [Result.andThen, Sem.run_pure]
  refine ⟨_, rfl, ?_⟩
  by_cases h1 : us.length = 1
  · match us, h1 with
    | [u], _ => exact .inl ⟨u, rfl, rfl⟩
  · exact .inr ⟨h1, by rw [dif_neg (by simpa using h1)]⟩
theorem frsEs_sound {N : Nat} (S : Sim gp Z0 w0 N D c T O a.tmps w) : ∀ {ts : List Ty} {ps : List (Bool × List Ce)} {l : List Nat} {x : Els ts} {us : List Value}, frsEs O ts ps = some l → toRs O ts ps = some x → us.length = ps.length → (∀ (i : Nat) (v : Value) (p : Bool × List Ce), us[i]? = some v → ps[i]? = some p → RP c w v p) → RQs true c.Z w w0.heap.size ts x us (blks c l) ∧ ∀ i ∈ l, ∃ o, O i = some o ∧ o.live = true
  | [], [], l, x, [], h, k, _, _ => by cases h; exact ⟨rfl, fun i hi => by simp at hi⟩
  | [], [], _, _, _ :: _, _, _, h, _ => by simp at h
  | [], _ :: _, _, _, _, h, _, _, _ => by simp [frsEs] at h
  | _ :: _, [], _, _, _, h, _, _, _ => by simp [frsEs] at h
  | _ :: _, _ :: _, _, _, [], _, _, h, _ => by simp at h
  | t :: ts, (b, cs) :: ps, l, x, v :: us, h, k, hl, hv => by
    unfold frsEs at h
    unfold toRs at k
    split at h
    · rename_i l1 l2 h1 h2
      cases h
      split at k
      · rename_i x1 x2 k1 k2
        cases k
        cases hb : (b == t.agg) with
        | false => simp only [hb] at k1; cases k1
        | true =>
          simp only [hb, cond_true] at k1
          have hb' : b = t.agg := by simpa using hb
          have hr := hv 0 v (b, cs) rfl rfl
          unfold RP at hr
          simp only [] at hr
          obtain ⟨q1, q2⟩ := frsEs_sound S h2 k2 (by simpa using hl) (fun i u p e1 e2 => hv (i + 1) u p (by simpa using e1) (by simpa using e2))
          have hone : ∃ us', RL c w us' cs ∧ ((t.agg = true ∧ v = .agg us'.toArray) ∨ (t.agg = false ∧ us' = [v])) := by
            split at hr
            · rename_i hb2; obtain ⟨us', e, h⟩ := hr; exact ⟨us'.toList, h, .inl ⟨by rw [← hb']; exact hb2, by rw [e]⟩⟩
            · rename_i hb2; obtain ⟨z, rfl, h⟩ := hr; exact ⟨[v], RL.one h, .inr ⟨by rw [← hb']; simpa using hb2, rfl⟩⟩
          obtain ⟨us', h3, h4⟩ := hone
          obtain ⟨p1, p2⟩ := frsE_sound S (fun _ _ h => h) h1 k1 h3
          refine ⟨⟨blks c l1, blks c l2, blks_app _ _ _, ?_, q1⟩, fun i hi => ?_⟩
          · unfold RQv
            rcases h4 with ⟨ha, rfl⟩ | ⟨ha, rfl⟩
            · rw [if_pos ha]; exact ⟨_, rfl, by simpa using p1⟩
            · rw [if_neg (by simp [ha])]; exact p1
          · rcases List.mem_append.1 hi with hi | hi
            · obtain ⟨o, h1, h2, _⟩ := p2 i hi; exact ⟨o, h1, h2⟩
            · exact q2 i hi
      · cases k
    · cases h
end
end Go.Proofs.YtjoonfegjobgbaaGreatDoor
