/- Texts of this claim, joined: B4 B5 B6. -/
import Derived.OneCell
import Derived.Test.YtjoonfegjobgbaaGreatDoorQq
set_option linter.unusedVariables false
set_option linter.unusedSimpArgs false
set_option maxRecDepth 100000
namespace Go.Proofs.YtjoonfegjobgbaaGreatDoor
open Go Go.RowKit
theorem way_of {gw : Nat} {e : Int} {w : World} {et : TypeId} (h : w.heap[gw]? = some (.cells #[.int .i64 e] et (0, 0))) : Way gw e w := ⟨cell_of_one h, fun o => by simp [World.frozen?, h]⟩
def WayH (gw : Nat) (e : Int) (w : World) : Prop := ∃ et, w.heap[gw]? = some (.cells #[.int .i64 e] et (0, 0))
theorem WayH.ext {gw : Nat} {e : Int} {w w' : World} (h : WayH gw e w) (x : Ext w w') : WayH gw e w' := let ⟨et, h⟩ := h; ⟨et, (x.block gw (lt_of_block h)).trans h⟩
theorem WayH.set {gw : Nat} {e e' : Int} {w : World} (h : WayH gw e w) : WayH gw e' (w.setCell ⟨gw, 0, none⟩ (.int .i64 e')) := let ⟨et, h⟩ := h; ⟨et, one_setCell h⟩
theorem WayH.setNe {gw : Nat} {e : Int} {w : World} {p : Addr} {u : Value} (h : WayH gw e w) (hp : p.block ≠ gw) : WayH gw e (w.setCell p u) := let ⟨et, h⟩ := h; ⟨et, (Below.heap_setCell _ _ _ _ (Ne.symm hp)).trans h⟩
set_option maxHeartbeats 1000000 in
theorem made_h (gw : Nat) (e0 : Int) (s : Bool) (n m : Nat) (er : Int) (A B : Option Addr) (c1 c2 : Nat) (w : World) (hw : WayH gw e0 w) :
    Calls Tryz.prog 128 #[.pointer (some ⟨gw, 0, none⟩), .agg #[.bool s, .slice A n c1, .slice B m c2], .int .i64 er] w fun e w' =>
      (e0 ≠ 0 → e = .returned (.agg #[.bool false, .slice none 0 0, .slice none 0 0])) ∧ (e0 = 0 → e = .returned (.agg #[.bool s, .slice A n c1, .slice B m c2])) ∧ w.grownBy w' (some gw) ∧ WayH gw (if e0 ≠ 0 then e0 else er) w' := by
  have hl : gw < w.heap.size := lt_of_block hw.choose_spec
  have HW := Lib.hid hw
  have hw0 := way_of hw.choose_spec
  have hc := hw0.c
  have hf := hw0.f 0
  have hg := fun o => (hw0.ext ((Ext.refl w).alloc o)).c
  clear hw hw0
  by_cases h0 : e0 ≠ 0
  · have hb : (e0 != 0) = true := bne_iff_ne.2 h0
    rw [if_pos h0]
    go_enter Tryz.func128, Tryz.ntmps128
    go_wp2_with fail
    exact bodyPost_ret (v := .agg #[.bool false, .slice none 0 0, .slice none 0 0]) (by simp [results, Tryz.results128, go_sem]) rfl ⟨fun _ => rfl, fun h => absurd h h0, (by repeat (first | (with_reducible exact World.grownBy.refl w _) | (with_reducible refine grown_alloc ?_ _) | (with_reducible refine grown_setWay ?_) | (with_reducible refine grown_setNewU ?_ (by simp)))), by repeat (first | (with_reducible exact HW.out) | (with_reducible refine WayH.setNe ?_ (by simp; omega)) | refine WayH.ext ?_ ((Ext.refl _).alloc _))⟩
  · obtain rfl : e0 = 0 := by simpa using h0
    have hb : ((0 : Int) != 0) = false := rfl
    rw [if_neg (by simp)]
    go_enter Tryz.func128, Tryz.ntmps128
    go_wp2_with fail
    exact bodyPost_ret (v := .agg #[.bool s, .slice A n c1, .slice B m c2]) (by simp [results, Tryz.results128, go_sem]) rfl ⟨fun h => absurd rfl h, fun _ => rfl, (by repeat (first | (with_reducible exact World.grownBy.refl w _) | (with_reducible refine grown_alloc ?_ _) | (with_reducible refine grown_setWay ?_) | (with_reducible refine grown_setNewU ?_ (by simp)))), WayH.ext (WayH.set HW.out) (((Ext.refl _).alloc _).alloc _)⟩
section
variable {P : Program} {C : Cfg} {gp : Option Nat} {Z0 Z Z' : Nat → Prop} {w0 : Base} {w w' : World} {D D' : Nat → Prop} {c c' : Cf} {T : Nat → Option AV} {O O' : Store} {a : Act} {N : Nat}
theorem Sim.var_step (S : Sim gp Z0 w0 N D c T O a.tmps w) {i g : Nat} {cs cs' : List Ce} {e : Ent} {cells : Array Value} {et : TypeId} (h1 : O i = some (.var cs)) (h2 : c.m i = some e) (h3 : e.bl = some g) (hg : w.grownBy w' (some g)) (h4 : w'.heap[g]? = some (.cells cells et (0, 0))) (h5 : RL c w' cells.toList cs') :
    Sim gp Z0 w0 N D c T (upO O [(i, .var cs')]) a.tmps w' ∧ Stay c.Z w w' := by
  have st : Stay c.Z w w' := fun k hz => hg.block k (S.zl k hz) (fun e0 => by cases e0; exact S.zo i _ e g h1 rfl h2 (Ent.has_bl h3) hz)
  have lk : ∀ k o, look [(i, Ob.var cs')] k = some o → k = i ∧ o = .var cs' := fun k o h => by
    rw [look_one] at h
    split at h
    · rename_i h0; cases h; exact ⟨h0, rfl⟩
    · cases h
  refine ⟨S.step (d := none) (v := .bool true) (av := .c .tt) (ob := [(i, .var cs')]) (c' := c) (w' := w') (D' := D) rfl (Cf.Le.refl c) st rfl (fun k o q1 q2 q3 f b q4 q5 => ?_) (fun k o h => ?_) (fun k o f b h hl hf hb => ?_) (fun k m o p f f' b q1 q2 _ _ q5 => ?_) (fun b hz => ⟨Nat.lt_of_lt_of_le (S.zl b hz) hg.size, S.zz b hz, fun k o f q1 _ q3 q4 q5 => S.zo k o f b q1 q3 q4 q5 hz⟩) S.dom ?_ (fun k cs1 o q1 q2 => ⟨cs', (lk k o q2).2⟩), st⟩
  · refine hg.block b ((S.obj k o q1).lt q3 f b q4 q5) (fun e0 => ?_)
    have e0 : b = g := Option.some.inj e0
    by_cases hk : k = i
    · subst hk
      rw [look_one, if_pos rfl] at q2; cases q2
    · exact S.inj k i o _ f e b q1 h1 q3 rfl hk q4 h2 q5 (e0 ▸ Ent.has_bl h3)
  · obtain ⟨rfl, rfl⟩ := lk k o h
    obtain ⟨e', _, _, _, y1, _, y2, _⟩ := S.obj k _ h1
    rw [h2] at y1; cases y1
    exact ⟨e, g, cells, et, h2, h3, y2, h4, h5⟩
  · obtain ⟨rfl, rfl⟩ := lk k o h
    refine ⟨.inl ⟨k, _, e, h1, rfl, h2, ?_, by rw [h]; rfl⟩, fun hz => S.zo k _ f b h1 rfl hf hb hz⟩
    rw [h2] at hf; cases hf; exact hb
  · exact absurd ((lk k o q1).1.trans (lk m p q2).1.symm) q5
  · refine ⟨hg.os.trans S.gr.os, hg.tape.trans S.gr.tape, hg.output.trans S.gr.output, Nat.le_trans S.gr.size hg.size, fun k hk hr => ?_⟩
    refine (hg.block k (Nat.lt_of_lt_of_le hk S.gr.size) (fun e0 => ?_)).trans (S.gr.block k hk hr)
    have e0 : k = g := Option.some.inj e0
    rcases S.bs i _ e k h1 rfl h2 (e0 ▸ Ent.has_bl h3) with h | h
    · omega
    · exact hr h.symm
theorem Sim.same_step (S : Sim gp Z0 w0 N D c T O a.tmps w) (hx : Below w.heap.size w w') : Sim gp Z0 w0 N D c T O a.tmps w' ∧ Stay c.Z w w' := by
  have st : Stay c.Z w w' := fun k hz => Ext.size (w := w) (w' := w') hx |> fun _ => (show Ext w w' from hx).block k (S.zl k hz)
  refine ⟨S.step (d := none) (v := .bool true) (av := .c .tt) (ob := []) (c' := c) (w' := w') (D' := D) rfl (Cf.Le.refl c) st rfl (fun k o q1 _ q3 f b q4 q5 => (show Ext w w' from hx).block b ((S.obj k o q1).lt q3 f b q4 q5)) (fun _ _ h => by cases h) (fun _ _ _ _ h => by cases h) (fun _ _ _ _ _ _ _ h => by cases h) (fun b hz => ⟨Nat.lt_of_lt_of_le (S.zl b hz) (Below.size hx), S.zz b hz, fun k o f q1 _ q3 q4 q5 => S.zo k o f b q1 q3 q4 q5 hz⟩) S.dom (grown_trans S.gr ((show Ext w w' from hx).by_ _)) (fun _ _ _ _ h => by cases h), st⟩
end
def isB : Ce → Bool
  | .tt => true
  | .ff => true
  | .sc (.bool _) => true
  | _ => false
def isR : Ce → Bool
  | .ow _ => true
  | .nl => true
  | _ => false
theorem isB_val {c : Cf} {w : World} {v : Value} {x : Ce} (h : isB x = true) (hv : RC c w v x) : ∃ b, v = .bool b := by
  unfold isB at h
  split at h
  · exact ⟨_, hv⟩
  · exact ⟨_, hv⟩
  · exact ⟨_, hv.1⟩
  · cases h
theorem isR_val {c : Cf} {w : World} {v : Value} {x : Ce} (h : isR x = true) (hv : RC c w v x) : ∃ A n m, v = .slice A n m := by
  unfold isR at h
  split at h
  · obtain ⟨e, _, h⟩ := hv; exact ⟨_, _, _, h⟩
  · exact ⟨_, _, _, hv⟩
  · cases h
def p_made : Prim := fun xs O n => match xs with
  | [.c (.pv i 0), .ag [s, x, y], .c (.sc (.int .i64 er))] => match O i with
    | some (.var [.sc (.int .i64 e0)]) => bif isB s && isR x && isR y then match mvCs (decide (e0 ≠ 0)) (upO O [(i, .var [.sc (.int .i64 (if e0 ≠ 0 then e0 else er))])]) [s, x, y] n with
      | some (ys, ob, m) => some (none, .e ⟨.ag ys, ob ++ [(i, .var [.sc (.int .i64 (if e0 ≠ 0 then e0 else er))])], m - n⟩)
      | none => none else none
    | _ => none
  | _ => none
def p_told : Prim := fun xs O n => match xs with
  | [.c (.pv i 0), .ag [s, x, y], .ag [t, u, z]] => match O i with
    | some (.var [.sc (.int .i64 e0)]) => bif isB s && isR x && isR y && isB t && isR u && isR z then match mvCs (decide (e0 ≠ 0)) O [s, x, y, t, u, z] n with
      | some (ys, ob, m) => some (none, .e ⟨.tu [(true, ys), (false, [.sc (.int .i64 e0)])], ob, m - n⟩)
      | none => none else none
    | _ => none
  | _ => none
theorem pr_made : PrimOk Tryz.prog 128 p_made := by
  refine ⟨callFunc_enter Tryz.func128 (by kernel_rfl) rfl, fun gp Z0 w0 N D c T O O' a w xs vs n cd G S hO hl hv h hfr hc => ?_⟩
  unfold p_made at h
  split at h
  · rename_i i s x y er
    split at h
    · rename_i e0 hi
      cases hb : (isB s && isR x && isR y) with
      | false => rw [hb] at h; cases h
      | true =>
        rw [hb] at h
        simp only [cond_true] at h
        split at h
        · rename_i ys ob m hm
          cases h
          simp only [Bool.and_eq_true] at hb
          obtain ⟨⟨hb1, hb2⟩, hb3⟩ := hb
          match vs, hl with
          | ⟨[v0, v1, v2]⟩, _ =>
            obtain ⟨e, g, p1, p2, rfl⟩ := hv 0 v0 _ rfl rfl
            obtain ⟨us, rfl, q⟩ := hv 1 v1 _ rfl rfl
            obtain ⟨rfl, p3⟩ := hv 2 v2 _ rfl rfl
            have hlen := q.1
            match hus : us, hlen with
            | ⟨[u0, u1, u2]⟩, _ =>
              obtain ⟨b, rfl⟩ := isB_val hb1 (q.2 0 u0 s rfl rfl)
              obtain ⟨A, n1, c1, rfl⟩ := isR_val hb2 (q.2 1 u1 x rfl rfl)
              obtain ⟨B, n2, c2, rfl⟩ := isR_val hb3 (q.2 2 u2 y rfl rfl)
              have hOi := hO _ _ hi
              obtain ⟨e', g', cells, et, r1, r2, r0, r3, r4⟩ := S.obj i _ hOi
              rw [p1] at r1; cases r1
              rw [p2] at r2; cases r2
              have hcells : cells = #[.int .i64 e0] ∧ okv (.int .i64 e0) := by
                obtain ⟨v, e1, e2, e3⟩ := r4.single
                subst e2
                exact ⟨Array.ext' e1, e3⟩
              obtain ⟨rfl, hok⟩ := hcells
              refine (made_h g e0 b n1 n2 er A B c1 c2 w ⟨et, r3⟩).mono ?_
              rintro e w' ⟨k1, k2, k3, et', k4⟩
              have hok' : okv (.int .i64 (if e0 ≠ 0 then e0 else er)) := by
                split
                · exact hok
                · exact p3
              obtain ⟨S1, st⟩ := S.var_step hOi p1 p2 k3 k4 (cs' := [.sc (.int .i64 (if e0 ≠ 0 then e0 else er))]) (RL.one ⟨rfl, hok'⟩)
              obtain ⟨l0, c', l1, l2, l3⟩ := mvCs_sound (O' := upO O' [(i, .var [.sc (.int .i64 (if e0 ≠ 0 then e0 else er))])]) S1 (fun k o h => by
                unfold upO at h ⊢
                split at h
                · exact h
                · exact hO k o h) hm (fun k h1 h2 => hfr k h1 (by show k < n + (m - n); omega)) (q.mono (Cf.Le.refl c) st)
              refine ⟨.agg (bif decide (e0 ≠ 0) then [Value.bool b, .slice A n1 c1, .slice B n2 c2].map zV else [Value.bool b, .slice A n1 c1, .slice B n2 c2]).toArray, c', ?_, fun d hd => ?_⟩
              · by_cases h0 : e0 ≠ 0
                · rw [k1 h0, decide_eq_true h0]; rfl
                · rw [k2 (by simpa using h0), decide_eq_false h0]; rfl
              · have := l2.value (v := .agg (bif decide (e0 ≠ 0) then [Value.bool b, .slice A n1 c1, .slice B n2 c2].map zV else [Value.bool b, .slice A n1 c1, .slice B n2 c2]).toArray) hd (av := .ag ys) ⟨_, rfl, l3⟩
                rw [upO_upO] at this
                have e : (fun k => D k ∨ (n ≤ k ∧ k < m)) = (fun k => D k ∨ n ≤ k ∧ k < n + (m - n)) := by
                  rw [show n + (m - n) = m by omega]
                rw [e] at this
                exact this
        · cases h
    · cases h
  · cases h
theorem pr_told : PrimOk Tryz.prog 98 p_told := by
  refine ⟨callFunc_enter Tryz.func98 (by kernel_rfl) rfl, fun gp Z0 w0 N D c T O O' a w xs vs n cd G S hO hl hv h hfr hc => ?_⟩
  unfold p_told at h
  split at h
  · rename_i i s x y t u z
    split at h
    · rename_i e0 hi
      cases hb : (isB s && isR x && isR y && isB t && isR u && isR z) with
      | false => rw [hb] at h; cases h
      | true =>
        rw [hb] at h
        simp only [cond_true] at h
        split at h
        · rename_i ys ob m hm
          cases h
          simp only [Bool.and_eq_true] at hb
          obtain ⟨⟨⟨⟨⟨hb1, hb2⟩, hb3⟩, hb4⟩, hb5⟩, hb6⟩ := hb
          match vs, hl with
          | ⟨[v0, v1, v2]⟩, _ =>
            obtain ⟨e, g, p1, p2, rfl⟩ := hv 0 v0 _ rfl rfl
            obtain ⟨us, rfl, q⟩ := hv 1 v1 _ rfl rfl
            obtain ⟨us', rfl, q'⟩ := hv 2 v2 _ rfl rfl
            have hlen := q.1
            have hlen' := q'.1
            match hus : us, hlen, hus' : us', hlen' with
            | ⟨[u0, u1, u2]⟩, _, ⟨[u3, u4, u5]⟩, _ =>
              obtain ⟨b, rfl⟩ := isB_val hb1 (q.2 0 u0 s rfl rfl)
              obtain ⟨A, n1, c1, rfl⟩ := isR_val hb2 (q.2 1 u1 x rfl rfl)
              obtain ⟨B, n2, c2, rfl⟩ := isR_val hb3 (q.2 2 u2 y rfl rfl)
              obtain ⟨b', rfl⟩ := isB_val hb4 (q'.2 0 u3 t rfl rfl)
              obtain ⟨A', n3, c3, rfl⟩ := isR_val hb5 (q'.2 1 u4 u rfl rfl)
              obtain ⟨B', n4, c4, rfl⟩ := isR_val hb6 (q'.2 2 u5 z rfl rfl)
              have hOi := hO _ _ hi
              obtain ⟨e', g', cells, et, r1, r2, r0, r3, r4⟩ := S.obj i _ hOi
              rw [p1] at r1; cases r1
              rw [p2] at r2; cases r2
              have hcells : cells = #[.int .i64 e0] ∧ okv (.int .i64 e0) := by
                obtain ⟨v, e1, e2, e3⟩ := r4.single
                subst e2
                exact ⟨Array.ext' e1, e3⟩
              obtain ⟨rfl, hok⟩ := hcells
              have hcall := told_any g e0 ⟨b, List.replicate n1 0, List.replicate n2 0⟩ ⟨b', List.replicate n3 0, List.replicate n4 0⟩ A B A' B' c1 c2 c3 c4 w (way_of r3)
              simp only [List.length_replicate] at hcall
              refine hcall.mono ?_
              rintro e w' ⟨k1, k2, k3⟩
              obtain ⟨S1, st⟩ := S.same_step k3
              have q2 := (q.append q').mono (Cf.Le.refl c) st
              obtain ⟨l0, c', l1, l2, l3⟩ := mvCs_sound (O' := O') S1 hO hm (fun k h1 h2 => hfr k h1 (by show k < n + (m - n); omega)) q2
              refine ⟨.tuple #[.agg (bif decide (e0 ≠ 0) then [Value.bool b, .slice A n1 c1, .slice B n2 c2, Value.bool b', .slice A' n3 c3, .slice B' n4 c4].map zV else [Value.bool b, .slice A n1 c1, .slice B n2 c2, Value.bool b', .slice A' n3 c3, .slice B' n4 c4]).toArray, .int .i64 e0], c', ?_, fun d hd => ?_⟩
              · by_cases h0 : e0 ≠ 0
                · rw [k1 h0, decide_eq_true h0]; rfl
                · have h0' : e0 = 0 := by simpa using h0
                  rw [k2 h0', decide_eq_false h0, h0']; rfl
              · have := l2.value (v := .tuple #[.agg (bif decide (e0 ≠ 0) then [Value.bool b, .slice A n1 c1, .slice B n2 c2, Value.bool b', .slice A' n3 c3, .slice B' n4 c4].map zV else [Value.bool b, .slice A n1 c1, .slice B n2 c2, Value.bool b', .slice A' n3 c3, .slice B' n4 c4]).toArray, .int .i64 e0]) hd (av := .tu [(true, ys), (false, [.sc (.int .i64 e0)])]) ⟨_, rfl, rfl, fun k v p e1 e2 => by
                  match k with
                  | 0 => cases e1; cases e2; unfold RP; rw [if_pos rfl]; exact ⟨_, rfl, l3⟩
                  | 1 => cases e1; cases e2; unfold RP; rw [if_neg (by simp)]; exact ⟨_, rfl, rfl, hok⟩
                  | k + 2 => simp at e2⟩
                have e : (fun k => D k ∨ (n ≤ k ∧ k < m)) = (fun k => D k ∨ n ≤ k ∧ k < n + (m - n)) := by
                  rw [show n + (m - n) = m by omega]
                rw [e] at this
                exact this
        · cases h
    · cases h
  · cases h
def pG (t : Ga × Int) : El .un × Els [tG, .it .i64] := ((), (ofGa t.1, t.2, ()))
def spG2 (F : Ga → Ga → Ga × Int) : Spec := { q := .un, ps := [tG, tG], rs := [tG, .it .i64], fresh := true, pre := fun _ _ => none, post := fun _ x => pG (F (toGa x.1) (toGa x.2.1)) }
noncomputable def sp_wadd : Spec := { q := tW, ps := [tR, tR], rs := [tR], fresh := true, pre := fun _ _ => none, post := fun y x => (((wadd y.1 (toFr x.1) (toFr x.2.1)).2, ()), (ofFr (wadd y.1 (toFr x.1) (toFr x.2.1)).1, ())) }
noncomputable def iv_wadd (y : El sp_wadd.q) (x : Els sp_wadd.ps) : Nat → Option Inv := fun _ => none
noncomputable abbrev c_wadd : Cfg := cfgS (Tryz.f97).ntmps true [(15, sp_rAdd.prim), (128, p_made)]
theorem w_wadd (y : El sp_wadd.q) (x : Els sp_wadd.ps) : aW c_wadd (iv_wadd y x) Tryz.f97 sp_wadd y x =
  (∀ (r : Ro [tR, Ty.it IntKind.i64]), r = ((), ((fadd (toFr x.1) (toFr x.2.1)).1.neg, (fadd (toFr x.1) (toFr x.2.1)).1.num, (fadd (toFr x.1) (toFr x.2.1)).1.den, ()), (fadd (toFr x.1) (toFr x.2.1)).2, ()) → ((if y.1 ≠ (0 : Int) then y.1 else r.2.2.1, ()), (bif decide (y.1 ≠ (0 : Int)) then false else r.2.1.1, bif decide (y.1 ≠ (0 : Int)) then [] else r.2.1.2.1, bif decide (y.1 ≠ (0 : Int)) then [] else r.2.1.2.2.1, ()), ()) = (((wadd y.1 (toFr x.1) (toFr x.2.1)).2, ()), ((wadd y.1 (toFr x.1) (toFr x.2.1)).1.neg, (wadd y.1 (toFr x.1) (toFr x.2.1)).1.num, (wadd y.1 (toFr x.1) (toFr x.2.1)).1.den, ()), ())) := by kernel_rfl
theorem fo_wadd : FnOk Tryz.prog 97 sp_wadd := fnOk_of (C := c_wadd) iv_wadd Tryz.func97 rfl (by kernel_rfl) tys_ok (prims_cons (spec_prim fo_rAdd) (prims_cons pr_made prims_nil)) mixed_ (Nat.le_refl _) rfl fun y x h1 h2 h3 h4 => by
  refine Eq.mpr (w_wadd y x) ?_
  rintro _ rfl
  by_cases h : y.1 ≠ 0 <;> simp [wadd, stp, h, Fr.zero]
noncomputable def sp_wsub : Spec := { q := tW, ps := [tR, tR], rs := [tR], fresh := true, pre := fun _ _ => none, post := fun y x => (((wsub y.1 (toFr x.1) (toFr x.2.1)).2, ()), (ofFr (wsub y.1 (toFr x.1) (toFr x.2.1)).1, ())) }
noncomputable def iv_wsub (y : El sp_wsub.q) (x : Els sp_wsub.ps) : Nat → Option Inv := fun _ => none
noncomputable abbrev c_wsub : Cfg := cfgS (Tryz.f146).ntmps true [(18, sp_rSub.prim), (128, p_made)]
theorem w_wsub (y : El sp_wsub.q) (x : Els sp_wsub.ps) : aW c_wsub (iv_wsub y x) Tryz.f146 sp_wsub y x =
  (∀ (r : Ro [tR, Ty.it IntKind.i64]), r = ((), ((fsub (toFr x.1) (toFr x.2.1)).1.neg, (fsub (toFr x.1) (toFr x.2.1)).1.num, (fsub (toFr x.1) (toFr x.2.1)).1.den, ()), (fsub (toFr x.1) (toFr x.2.1)).2, ()) → ((if y.1 ≠ (0 : Int) then y.1 else r.2.2.1, ()), (bif decide (y.1 ≠ (0 : Int)) then false else r.2.1.1, bif decide (y.1 ≠ (0 : Int)) then [] else r.2.1.2.1, bif decide (y.1 ≠ (0 : Int)) then [] else r.2.1.2.2.1, ()), ()) = (((wsub y.1 (toFr x.1) (toFr x.2.1)).2, ()), ((wsub y.1 (toFr x.1) (toFr x.2.1)).1.neg, (wsub y.1 (toFr x.1) (toFr x.2.1)).1.num, (wsub y.1 (toFr x.1) (toFr x.2.1)).1.den, ()), ())) := by kernel_rfl
theorem fo_wsub : FnOk Tryz.prog 146 sp_wsub := fnOk_of (C := c_wsub) iv_wsub Tryz.func146 rfl (by kernel_rfl) tys_ok (prims_cons (spec_prim fo_rSub) (prims_cons pr_made prims_nil)) mixed_ (Nat.le_refl _) rfl fun y x h1 h2 h3 h4 => by
  refine Eq.mpr (w_wsub y x) ?_
  rintro _ rfl
  by_cases h : y.1 ≠ 0 <;> simp [wsub, stp, h, Fr.zero]
noncomputable def sp_wmul : Spec := { q := tW, ps := [tR, tR], rs := [tR], fresh := true, pre := fun _ _ => none, post := fun y x => (((wmul y.1 (toFr x.1) (toFr x.2.1)).2, ()), (ofFr (wmul y.1 (toFr x.1) (toFr x.2.1)).1, ())) }
noncomputable def iv_wmul (y : El sp_wmul.q) (x : Els sp_wmul.ps) : Nat → Option Inv := fun _ => none
noncomputable abbrev c_wmul : Cfg := cfgS (Tryz.f145).ntmps true [(17, sp_rMul.prim), (128, p_made)]
theorem w_wmul (y : El sp_wmul.q) (x : Els sp_wmul.ps) : aW c_wmul (iv_wmul y x) Tryz.f145 sp_wmul y x =
  (∀ (r : Ro [tR, Ty.it IntKind.i64]), r = ((), ((fmul (toFr x.1) (toFr x.2.1)).1.neg, (fmul (toFr x.1) (toFr x.2.1)).1.num, (fmul (toFr x.1) (toFr x.2.1)).1.den, ()), (fmul (toFr x.1) (toFr x.2.1)).2, ()) → ((if y.1 ≠ (0 : Int) then y.1 else r.2.2.1, ()), (bif decide (y.1 ≠ (0 : Int)) then false else r.2.1.1, bif decide (y.1 ≠ (0 : Int)) then [] else r.2.1.2.1, bif decide (y.1 ≠ (0 : Int)) then [] else r.2.1.2.2.1, ()), ()) = (((wmul y.1 (toFr x.1) (toFr x.2.1)).2, ()), ((wmul y.1 (toFr x.1) (toFr x.2.1)).1.neg, (wmul y.1 (toFr x.1) (toFr x.2.1)).1.num, (wmul y.1 (toFr x.1) (toFr x.2.1)).1.den, ()), ())) := by kernel_rfl
theorem fo_wmul : FnOk Tryz.prog 145 sp_wmul := fnOk_of (C := c_wmul) iv_wmul Tryz.func145 rfl (by kernel_rfl) tys_ok (prims_cons (spec_prim fo_rMul) (prims_cons pr_made prims_nil)) mixed_ (Nat.le_refl _) rfl fun y x h1 h2 h3 h4 => by
  refine Eq.mpr (w_wmul y x) ?_
  rintro _ rfl
  by_cases h : y.1 ≠ 0 <;> simp [wmul, stp, h, Fr.zero]
noncomputable def sp_wquo : Spec := { q := tW, ps := [tR, tR], rs := [tR], fresh := true, pre := fun _ _ => none, post := fun y x => (((wquo y.1 (toFr x.1) (toFr x.2.1)).2, ()), (ofFr (wquo y.1 (toFr x.1) (toFr x.2.1)).1, ())) }
noncomputable def iv_wquo (y : El sp_wquo.q) (x : Els sp_wquo.ps) : Nat → Option Inv := fun _ => none
noncomputable abbrev c_wquo : Cfg := cfgS (Tryz.f116).ntmps true [(21, sp_rQuo.prim), (128, p_made)]
theorem w_wquo (y : El sp_wquo.q) (x : Els sp_wquo.ps) : aW c_wquo (iv_wquo y x) Tryz.f116 sp_wquo y x =
  (∀ (r : Ro [tR, Ty.it IntKind.i64]), r = ((), ((fquo (toFr x.1) (toFr x.2.1)).1.neg, (fquo (toFr x.1) (toFr x.2.1)).1.num, (fquo (toFr x.1) (toFr x.2.1)).1.den, ()), (fquo (toFr x.1) (toFr x.2.1)).2, ()) → ((if y.1 ≠ (0 : Int) then y.1 else r.2.2.1, ()), (bif decide (y.1 ≠ (0 : Int)) then false else r.2.1.1, bif decide (y.1 ≠ (0 : Int)) then [] else r.2.1.2.1, bif decide (y.1 ≠ (0 : Int)) then [] else r.2.1.2.2.1, ()), ()) = (((wquo y.1 (toFr x.1) (toFr x.2.1)).2, ()), ((wquo y.1 (toFr x.1) (toFr x.2.1)).1.neg, (wquo y.1 (toFr x.1) (toFr x.2.1)).1.num, (wquo y.1 (toFr x.1) (toFr x.2.1)).1.den, ()), ())) := by kernel_rfl
theorem fo_wquo : FnOk Tryz.prog 116 sp_wquo := fnOk_of (C := c_wquo) iv_wquo Tryz.func116 rfl (by kernel_rfl) tys_ok (prims_cons (spec_prim fo_rQuo) (prims_cons pr_made prims_nil)) mixed_ (Nat.le_refl _) rfl fun y x h1 h2 h3 h4 => by
  refine Eq.mpr (w_wquo y x) ?_
  rintro _ rfl
  by_cases h : y.1 ≠ 0 <;> simp [wquo, stp, h, Fr.zero]
def gchks (e : Int) (l : List (El tG)) : Int := l.foldl (fun e g => chks e [g.1, g.2.1]) e
theorem gchks_succ (e : Int) (l : List (El tG)) (i : Nat) (h : i < l.length) : gchks e (l.take (i + 1)) = chks (gchks e (l.take i)) [(l.getD i (dfl tG)).1, (l.getD i (dfl tG)).2.1] := by
  unfold gchks
  rw [List.take_add_one, List.getElem?_eq_getElem h, Option.toList_some, List.foldl_append, List.getD_eq_getElem?_getD, List.getElem?_eq_getElem h]
  rfl
noncomputable def sp_asked : Spec := { q := .un, ps := [.sl tG], rs := [.pt tW], fresh := true, pre := fun _ _ => none, post := fun _ x => ((), ((gchks 0 x.1, ()), ())) }
noncomputable def iv_asked (y : El sp_asked.q) (x : Els sp_asked.ps) : Nat → Option Inv := fun k => if k = 0 then some { X := Nat, tm := fun i => [(3, .c (.pv 1 0)), (7, .c (.sl tG x.1)), (8, .c (.sc (.int .i64 x.1.length))), (9, .c (.sc (.int .i64 i)))], ob := fun i => [(1, .var [.sc (.int .i64 (gchks 0 (x.1.take i)))])], n := 2, I := fun i => i ≤ x.1.length, μ := fun i => x.1.length - i } else none
noncomputable abbrev c_asked : Cfg := cfgS (Tryz.f96).ntmps false [(144, sp_wcheck.prim)]
theorem w_asked (y : El sp_asked.q) (x : Els sp_asked.ps) : aW c_asked (iv_asked y x) Tryz.f96 sp_asked y x =
  ((∃ (x_1 : Nat), x.1 = x.1 ∧ (x.1.length : Int) = (x.1.length : Int) ∧ (↑x_1 : Int) = (0 : Int) ∧ gchks (0 : Int) (List.take x_1 x.1) = (0 : Int) ∧ x_1.le (List.length x.1)) ∧ ∀ (x_1 : Nat), x_1.le (List.length x.1) → (decide ((↑x_1 : Int) < (x.1.length : Int)) = true → ((0 : Int) ≤ (↑x_1 : Int) ∧ (↑x_1 : Int) < (x.1.length : Int)) ∧ ∀ (r : El tW × Els []), r = ((chks (gchks (0 : Int) (List.take x_1 x.1)) [(List.getD x.1 (↑x_1 : Int).toNat (dfl tG)).1, (List.getD x.1 (↑x_1 : Int).toNat (dfl tG)).2.1], ()), ()) → ((-9223372036854775808 : Int) ≤ (↑x_1 : Int) + (1 : Int) ∧ (↑x_1 : Int) + (1 : Int) ≤ (9223372036854775807 : Int)) ∧ ∃ (x' : Nat), x.1 = x.1 ∧ (x.1.length : Int) = (x.1.length : Int) ∧ (↑x' : Int) = (↑x_1 : Int) + (1 : Int) ∧ gchks (0 : Int) (List.take x' x.1) = r.1.1 ∧ x'.le (List.length x.1) ∧ List.length x.1 - x' < List.length x.1 - x_1) ∧ (decide ((↑x_1 : Int) < (x.1.length : Int)) = false → ((gchks (0 : Int) (List.take x_1 x.1), ()), ()) = ((gchks (0 : Int) x.1, ()), ()))) := by kernel_rfl
theorem fo_asked : FnOk Tryz.prog 96 sp_asked := fnOk_of (C := c_asked) iv_asked Tryz.func96 rfl (by kernel_rfl) tys_ok (prims_cons (spec_prim fo_wcheck) prims_nil) mixed_ (Nat.le_refl _) rfl fun y x h1 h2 h3 h4 => by
  refine Eq.mpr (w_asked y x) ?_
  have hl : x.1.length ≤ 9223372036854775807 := h3.1.1
  refine ⟨⟨0, rfl, rfl, rfl, rfl, Nat.zero_le _⟩, fun i hi => ⟨fun h => ?_, fun h => ?_⟩⟩
  · have h := of_decide_eq_true h
    have hi' : i < x.1.length := by omega
    refine ⟨⟨by omega, h⟩, fun r hr => ⟨by omega, i + 1, rfl, rfl, rfl, ?_, hi', by omega⟩⟩
    rw [gchks_succ _ _ _ hi', hr]; rfl
  · have h := of_decide_eq_false h
    rw [List.take_of_length_le (by omega)]
theorem chks2 (e : Int) (r i : El tR) : chks e [r, i] = if e ≠ 0 then e else fchk2 (toFr r) (toFr i) := by
  show (if (if e ≠ 0 then e else fchk (toFr r)) ≠ 0 then (if e ≠ 0 then e else fchk (toFr r)) else fchk (toFr i)) = _
  by_cases h : e ≠ 0
  · simp [h]
  · rw [if_neg h, if_neg h]; rfl
theorem len0 (l : List Int) : (((l.length : Nat) : Int) == 0) = decide (l.length = 0) := by rw [Bool.eq_iff_iff]; simp
theorem gchks1 (a : El tG) : gchks 0 [a] = gchk (toGa a) := (chks2 0 a.1 a.2.1).trans (if_neg (by simp))
theorem gchks2 (a b : El tG) : gchks 0 [a, b] = gchk2 (toGa a) (toGa b) := by
  show chks (gchks 0 [a]) [b.1, b.2.1] = _
  rw [gchks1, chks2]
  rfl
noncomputable def sp_gCheck : Spec := { q := .un, ps := [tG], rs := [.it .i64], fresh := true, pre := fun _ _ => none, post := fun _ x => ((), (gchk (toGa x.1), ())) }
noncomputable def iv_gCheck (y : El sp_gCheck.q) (x : Els sp_gCheck.ps) : Nat → Option Inv := fun _ => none
noncomputable abbrev c_gCheck : Cfg := cfgS (Tryz.f51).ntmps false [(96, sp_asked.prim)]
theorem w_gCheck (y : El sp_gCheck.q) (x : Els sp_gCheck.ps) : aW c_gCheck (iv_gCheck y x) Tryz.f51 sp_gCheck y x =
  (∀ (r : Ro [tW.pt]), r = ((), (gchks (0 : Int) [x.1], ()), ()) → r.2.1 = (gchk (toGa x.1), ())) := by kernel_rfl
theorem m_gCheck (y : El (.un)) (x : Els [tG]) (h2 : wfE (.un) y) (h3 : wfEs [tG] x) :
  (∀ (r : Ro [tW.pt]), r = ((), (gchks (0 : Int) [x.1], ()), ()) → r.2.1 = (gchk (toGa x.1), ())) := by
  rintro _ rfl
  exact congrArg (fun e => (e, ())) (gchks1 x.1)
theorem fo_gCheck : FnOk Tryz.prog 51 sp_gCheck := fnOk_of (C := c_gCheck) iv_gCheck Tryz.func51 rfl (by kernel_rfl) tys_ok (prims_cons (spec_prim fo_asked) prims_nil) mixed_ (Nat.le_refl _) rfl fun y x h1 h2 h3 h4 =>
  Eq.mpr (w_gCheck y x) (m_gCheck y x h2 h3)
noncomputable def sp_gZero : Spec := { q := .un, ps := [tG], rs := [.bo], fresh := true, pre := fun _ _ => none, post := fun _ x => ((), (gzero (toGa x.1), ())) }
noncomputable def iv_gZero (y : El sp_gZero.q) (x : Els sp_gZero.ps) : Nat → Option Inv := fun _ => none
noncomputable abbrev c_gZero : Cfg := cfgS (Tryz.f53).ntmps false [(96, sp_asked.prim)]
theorem w_gZero (y : El sp_gZero.q) (x : Els sp_gZero.ps) : aW c_gZero (iv_gZero y x) Tryz.f53 sp_gZero y x =
  (∀ (r : Ro [tW.pt]), r = ((), (gchks (0 : Int) [x.1], ()), ()) → ((r.2.1.1 == (0 : Int)) = true → (((x.1.1.2.1.length : Int) == (0 : Int)) = true → ((x.1.2.1.2.1.length : Int) == (0 : Int), ()) = (gzero (toGa x.1), ())) ∧ (((x.1.1.2.1.length : Int) == (0 : Int)) = false → (false, ()) = (gzero (toGa x.1), ()))) ∧ ((r.2.1.1 == (0 : Int)) = false → (false, ()) = (gzero (toGa x.1), ()))) := by kernel_rfl
theorem m_gZero (y : El (.un)) (x : Els [tG]) (h2 : wfE (.un) y) (h3 : wfEs [tG] x) :
  (∀ (r : Ro [tW.pt]), r = ((), (gchks (0 : Int) [x.1], ()), ()) → ((r.2.1.1 == (0 : Int)) = true → (((x.1.1.2.1.length : Int) == (0 : Int)) = true → ((x.1.2.1.2.1.length : Int) == (0 : Int), ()) = (gzero (toGa x.1), ())) ∧ (((x.1.1.2.1.length : Int) == (0 : Int)) = false → (false, ()) = (gzero (toGa x.1), ()))) ∧ ((r.2.1.1 == (0 : Int)) = false → (false, ()) = (gzero (toGa x.1), ()))) := by
  rintro _ rfl
  have e : gchks 0 [x.1] = gchk (toGa x.1) := gchks1 x.1
  refine ⟨fun h => ⟨fun k => ?_, fun k => ?_⟩, fun h => ?_⟩
  all_goals
    simp only [e] at h
    try simp only [len0] at *
    simp_all [gzero]
theorem fo_gZero : FnOk Tryz.prog 53 sp_gZero := fnOk_of (C := c_gZero) iv_gZero Tryz.func53 rfl (by kernel_rfl) tys_ok (prims_cons (spec_prim fo_asked) prims_nil) mixed_ (Nat.le_refl _) rfl fun y x h1 h2 h3 h4 =>
  Eq.mpr (w_gZero y x) (m_gZero y x h2 h3)
noncomputable def sp_gSame : Spec := { q := .un, ps := [tG, tG], rs := [.bo], fresh := true, pre := fun _ _ => none, post := fun _ x => ((), (gsame (toGa x.1) (toGa x.2.1), ())) }
noncomputable def iv_gSame (y : El sp_gSame.q) (x : Els sp_gSame.ps) : Nat → Option Inv := fun _ => none
noncomputable abbrev c_gSame : Cfg := cfgS (Tryz.f33).ntmps false [(96, sp_asked.prim), (22, sp_rSame.prim)]
theorem w_gSame (y : El sp_gSame.q) (x : Els sp_gSame.ps) : aW c_gSame (iv_gSame y x) Tryz.f33 sp_gSame y x =
  (∀ (r : Ro [tW.pt]), r = ((), (gchks (0 : Int) [x.1, x.2.1], ()), ()) → ((r.2.1.1 == (0 : Int)) = true → ∀ (r : Ro [Ty.bo]), r = ((), decide (toFr x.1.1 = toFr x.2.1.1), ()) → (r.2.1 = true → ∀ (r : Ro [Ty.bo]), r = ((), decide (toFr x.1.2.1 = toFr x.2.1.2.1), ()) → r.2 = (gsame (toGa x.1) (toGa x.2.1), ())) ∧ (r.2.1 = false → (false, ()) = (gsame (toGa x.1) (toGa x.2.1), ()))) ∧ ((r.2.1.1 == (0 : Int)) = false → (false, ()) = (gsame (toGa x.1) (toGa x.2.1), ()))) := by kernel_rfl
theorem m_gSame (y : El (.un)) (x : Els [tG, tG]) (h2 : wfE (.un) y) (h3 : wfEs [tG, tG] x) :
  (∀ (r : Ro [tW.pt]), r = ((), (gchks (0 : Int) [x.1, x.2.1], ()), ()) → ((r.2.1.1 == (0 : Int)) = true → ∀ (r : Ro [Ty.bo]), r = ((), decide (toFr x.1.1 = toFr x.2.1.1), ()) → (r.2.1 = true → ∀ (r : Ro [Ty.bo]), r = ((), decide (toFr x.1.2.1 = toFr x.2.1.2.1), ()) → r.2 = (gsame (toGa x.1) (toGa x.2.1), ())) ∧ (r.2.1 = false → (false, ()) = (gsame (toGa x.1) (toGa x.2.1), ()))) ∧ ((r.2.1.1 == (0 : Int)) = false → (false, ()) = (gsame (toGa x.1) (toGa x.2.1), ()))) := by
  rintro _ rfl
  have e : gchks 0 [x.1, x.2.1] = gchk2 (toGa x.1) (toGa x.2.1) := gchks2 _ _
  simp only [e]
  refine ⟨fun h => ?_, fun h => ?_⟩
  · rintro _ rfl
    refine ⟨fun k => ?_, fun k => ?_⟩
    · rintro _ rfl
      simp_all [gsame]
    · simp_all [gsame]
  · simp_all [gsame]
theorem fo_gSame : FnOk Tryz.prog 33 sp_gSame := fnOk_of (C := c_gSame) iv_gSame Tryz.func33 rfl (by kernel_rfl) tys_ok (prims_cons (spec_prim fo_asked) (prims_cons (spec_prim fo_rSame) prims_nil)) mixed_ (Nat.le_refl _) rfl fun y x h1 h2 h3 h4 =>
  Eq.mpr (w_gSame y x) (m_gSame y x h2 h3)
noncomputable def sp_gAdd : Spec := spG2 gadd
noncomputable def iv_gAdd (y : El sp_gAdd.q) (x : Els sp_gAdd.ps) : Nat → Option Inv := fun _ => none
noncomputable abbrev c_gAdd : Cfg := cfgS (Tryz.f31).ntmps false [(96, sp_asked.prim), (97, sp_wadd.prim), (98, p_told)]
theorem w_gAdd (y : El sp_gAdd.q) (x : Els sp_gAdd.ps) : aW c_gAdd (iv_gAdd y x) Tryz.f31 sp_gAdd y x =
  (∀ (r : Ro [tW.pt]), r = ((), (gchks (0 : Int) [x.1, x.2.1], ()), ()) → ∀ (r_1 : El tW × Els [tR]), r_1 = (((wadd r.2.1.1 (toFr x.1.1) (toFr x.2.1.1)).2, ()), ((wadd r.2.1.1 (toFr x.1.1) (toFr x.2.1.1)).1.neg, (wadd r.2.1.1 (toFr x.1.1) (toFr x.2.1.1)).1.num, (wadd r.2.1.1 (toFr x.1.1) (toFr x.2.1.1)).1.den, ()), ()) → ∀ (r : El tW × Els [tR]), r = (((wadd r_1.1.1 (toFr x.1.2.1) (toFr x.2.1.2.1)).2, ()), ((wadd r_1.1.1 (toFr x.1.2.1) (toFr x.2.1.2.1)).1.neg, (wadd r_1.1.1 (toFr x.1.2.1) (toFr x.2.1.2.1)).1.num, (wadd r_1.1.1 (toFr x.1.2.1) (toFr x.2.1.2.1)).1.den, ()), ()) → (((bif decide (r.1.1 ≠ (0 : Int)) then false else r_1.2.1.1, bif decide (r.1.1 ≠ (0 : Int)) then [] else r_1.2.1.2.1, bif decide (r.1.1 ≠ (0 : Int)) then [] else r_1.2.1.2.2.1, ()), (bif decide (r.1.1 ≠ (0 : Int)) then false else r.2.1.1, bif decide (r.1.1 ≠ (0 : Int)) then [] else r.2.1.2.1, bif decide (r.1.1 ≠ (0 : Int)) then [] else r.2.1.2.2.1, ()), ()), r.1) = ((((gadd (toGa x.1) (toGa x.2.1)).1.re.neg, (gadd (toGa x.1) (toGa x.2.1)).1.re.num, (gadd (toGa x.1) (toGa x.2.1)).1.re.den, ()), ((gadd (toGa x.1) (toGa x.2.1)).1.im.neg, (gadd (toGa x.1) (toGa x.2.1)).1.im.num, (gadd (toGa x.1) (toGa x.2.1)).1.im.den, ()), ()), (gadd (toGa x.1) (toGa x.2.1)).2, ())) := by kernel_rfl
theorem m_gAdd (y : El (.un)) (x : Els [tG, tG]) (h2 : wfE (.un) y) (h3 : wfEs [tG, tG] x) :
  (∀ (r : Ro [tW.pt]), r = ((), (gchks (0 : Int) [x.1, x.2.1], ()), ()) → ∀ (r_1 : El tW × Els [tR]), r_1 = (((wadd r.2.1.1 (toFr x.1.1) (toFr x.2.1.1)).2, ()), ((wadd r.2.1.1 (toFr x.1.1) (toFr x.2.1.1)).1.neg, (wadd r.2.1.1 (toFr x.1.1) (toFr x.2.1.1)).1.num, (wadd r.2.1.1 (toFr x.1.1) (toFr x.2.1.1)).1.den, ()), ()) → ∀ (r : El tW × Els [tR]), r = (((wadd r_1.1.1 (toFr x.1.2.1) (toFr x.2.1.2.1)).2, ()), ((wadd r_1.1.1 (toFr x.1.2.1) (toFr x.2.1.2.1)).1.neg, (wadd r_1.1.1 (toFr x.1.2.1) (toFr x.2.1.2.1)).1.num, (wadd r_1.1.1 (toFr x.1.2.1) (toFr x.2.1.2.1)).1.den, ()), ()) → (((bif decide (r.1.1 ≠ (0 : Int)) then false else r_1.2.1.1, bif decide (r.1.1 ≠ (0 : Int)) then [] else r_1.2.1.2.1, bif decide (r.1.1 ≠ (0 : Int)) then [] else r_1.2.1.2.2.1, ()), (bif decide (r.1.1 ≠ (0 : Int)) then false else r.2.1.1, bif decide (r.1.1 ≠ (0 : Int)) then [] else r.2.1.2.1, bif decide (r.1.1 ≠ (0 : Int)) then [] else r.2.1.2.2.1, ()), ()), r.1) = ((((gadd (toGa x.1) (toGa x.2.1)).1.re.neg, (gadd (toGa x.1) (toGa x.2.1)).1.re.num, (gadd (toGa x.1) (toGa x.2.1)).1.re.den, ()), ((gadd (toGa x.1) (toGa x.2.1)).1.im.neg, (gadd (toGa x.1) (toGa x.2.1)).1.im.num, (gadd (toGa x.1) (toGa x.2.1)).1.im.den, ()), ()), (gadd (toGa x.1) (toGa x.2.1)).2, ())) := by
  rintro _ rfl _ rfl _ rfl
  have e : gchks 0 [x.1, x.2.1] = gchk2 (toGa x.1) (toGa x.2.1) := gchks2 _ _
  simp only [e, gadd, gtell]
  split <;> simp_all [Ga.zero, Fr.zero]
theorem fo_gAdd : FnOk Tryz.prog 31 sp_gAdd := fnOk_of (C := c_gAdd) iv_gAdd Tryz.func31 rfl (by kernel_rfl) tys_ok (prims_cons (spec_prim fo_asked) (prims_cons (spec_prim fo_wadd) (prims_cons pr_told prims_nil))) mixed_ (Nat.le_refl _) rfl fun y x h1 h2 h3 h4 =>
  Eq.mpr (w_gAdd y x) (m_gAdd y x h2 h3)
noncomputable def sp_product : Spec := { q := tW, ps := [tG, tG], rs := [tR, tR], fresh := true, pre := fun _ _ => none, post := fun y x => (((wprod y.1 (toGa x.1) (toGa x.2.1)).2.2, ()), (ofFr (wprod y.1 (toGa x.1) (toGa x.2.1)).1, ofFr (wprod y.1 (toGa x.1) (toGa x.2.1)).2.1, ())) }
noncomputable def iv_product (y : El sp_product.q) (x : Els sp_product.ps) : Nat → Option Inv := fun _ => none
noncomputable abbrev c_product : Cfg := cfgS (Tryz.f99).ntmps true [(145, sp_wmul.prim), (146, sp_wsub.prim), (97, sp_wadd.prim)]
theorem w_product (y : El sp_product.q) (x : Els sp_product.ps) : aW c_product (iv_product y x) Tryz.f99 sp_product y x =
  (∀ (r : El tW × Els [tR]), r = (((wmul y.1 (toFr x.1.1) (toFr x.2.1.1)).2, ()), ((wmul y.1 (toFr x.1.1) (toFr x.2.1.1)).1.neg, (wmul y.1 (toFr x.1.1) (toFr x.2.1.1)).1.num, (wmul y.1 (toFr x.1.1) (toFr x.2.1.1)).1.den, ()), ()) → ∀ (r_1 : El tW × Els [tR]), r_1 = (((wmul r.1.1 (toFr x.1.2.1) (toFr x.2.1.2.1)).2, ()), ((wmul r.1.1 (toFr x.1.2.1) (toFr x.2.1.2.1)).1.neg, (wmul r.1.1 (toFr x.1.2.1) (toFr x.2.1.2.1)).1.num, (wmul r.1.1 (toFr x.1.2.1) (toFr x.2.1.2.1)).1.den, ()), ()) → ∀ (r_2 : El tW × Els [tR]), r_2 = (((wsub r_1.1.1 (toFr r.2.1) (toFr r_1.2.1)).2, ()), ((wsub r_1.1.1 (toFr r.2.1) (toFr r_1.2.1)).1.neg, (wsub r_1.1.1 (toFr r.2.1) (toFr r_1.2.1)).1.num, (wsub r_1.1.1 (toFr r.2.1) (toFr r_1.2.1)).1.den, ()), ()) → ∀ (r : El tW × Els [tR]), r = (((wmul r_2.1.1 (toFr x.1.1) (toFr x.2.1.2.1)).2, ()), ((wmul r_2.1.1 (toFr x.1.1) (toFr x.2.1.2.1)).1.neg, (wmul r_2.1.1 (toFr x.1.1) (toFr x.2.1.2.1)).1.num, (wmul r_2.1.1 (toFr x.1.1) (toFr x.2.1.2.1)).1.den, ()), ()) → ∀ (r_3 : El tW × Els [tR]), r_3 = (((wmul r.1.1 (toFr x.1.2.1) (toFr x.2.1.1)).2, ()), ((wmul r.1.1 (toFr x.1.2.1) (toFr x.2.1.1)).1.neg, (wmul r.1.1 (toFr x.1.2.1) (toFr x.2.1.1)).1.num, (wmul r.1.1 (toFr x.1.2.1) (toFr x.2.1.1)).1.den, ()), ()) → ∀ (r_4 : El tW × Els [tR]), r_4 = (((wadd r_3.1.1 (toFr r.2.1) (toFr r_3.2.1)).2, ()), ((wadd r_3.1.1 (toFr r.2.1) (toFr r_3.2.1)).1.neg, (wadd r_3.1.1 (toFr r.2.1) (toFr r_3.2.1)).1.num, (wadd r_3.1.1 (toFr r.2.1) (toFr r_3.2.1)).1.den, ()), ()) → (r_4.1, r_2.2.1, r_4.2) = (((wprod y.1 (toGa x.1) (toGa x.2.1)).2.2, ()), ((wprod y.1 (toGa x.1) (toGa x.2.1)).1.neg, (wprod y.1 (toGa x.1) (toGa x.2.1)).1.num, (wprod y.1 (toGa x.1) (toGa x.2.1)).1.den, ()), ((wprod y.1 (toGa x.1) (toGa x.2.1)).2.1.neg, (wprod y.1 (toGa x.1) (toGa x.2.1)).2.1.num, (wprod y.1 (toGa x.1) (toGa x.2.1)).2.1.den, ()), ())) := by kernel_rfl
theorem m_product (y : El (tW)) (x : Els [tG, tG]) (h2 : wfE (tW) y) (h3 : wfEs [tG, tG] x) :
  (∀ (r : El tW × Els [tR]), r = (((wmul y.1 (toFr x.1.1) (toFr x.2.1.1)).2, ()), ((wmul y.1 (toFr x.1.1) (toFr x.2.1.1)).1.neg, (wmul y.1 (toFr x.1.1) (toFr x.2.1.1)).1.num, (wmul y.1 (toFr x.1.1) (toFr x.2.1.1)).1.den, ()), ()) → ∀ (r_1 : El tW × Els [tR]), r_1 = (((wmul r.1.1 (toFr x.1.2.1) (toFr x.2.1.2.1)).2, ()), ((wmul r.1.1 (toFr x.1.2.1) (toFr x.2.1.2.1)).1.neg, (wmul r.1.1 (toFr x.1.2.1) (toFr x.2.1.2.1)).1.num, (wmul r.1.1 (toFr x.1.2.1) (toFr x.2.1.2.1)).1.den, ()), ()) → ∀ (r_2 : El tW × Els [tR]), r_2 = (((wsub r_1.1.1 (toFr r.2.1) (toFr r_1.2.1)).2, ()), ((wsub r_1.1.1 (toFr r.2.1) (toFr r_1.2.1)).1.neg, (wsub r_1.1.1 (toFr r.2.1) (toFr r_1.2.1)).1.num, (wsub r_1.1.1 (toFr r.2.1) (toFr r_1.2.1)).1.den, ()), ()) → ∀ (r : El tW × Els [tR]), r = (((wmul r_2.1.1 (toFr x.1.1) (toFr x.2.1.2.1)).2, ()), ((wmul r_2.1.1 (toFr x.1.1) (toFr x.2.1.2.1)).1.neg, (wmul r_2.1.1 (toFr x.1.1) (toFr x.2.1.2.1)).1.num, (wmul r_2.1.1 (toFr x.1.1) (toFr x.2.1.2.1)).1.den, ()), ()) → ∀ (r_3 : El tW × Els [tR]), r_3 = (((wmul r.1.1 (toFr x.1.2.1) (toFr x.2.1.1)).2, ()), ((wmul r.1.1 (toFr x.1.2.1) (toFr x.2.1.1)).1.neg, (wmul r.1.1 (toFr x.1.2.1) (toFr x.2.1.1)).1.num, (wmul r.1.1 (toFr x.1.2.1) (toFr x.2.1.1)).1.den, ()), ()) → ∀ (r_4 : El tW × Els [tR]), r_4 = (((wadd r_3.1.1 (toFr r.2.1) (toFr r_3.2.1)).2, ()), ((wadd r_3.1.1 (toFr r.2.1) (toFr r_3.2.1)).1.neg, (wadd r_3.1.1 (toFr r.2.1) (toFr r_3.2.1)).1.num, (wadd r_3.1.1 (toFr r.2.1) (toFr r_3.2.1)).1.den, ()), ()) → (r_4.1, r_2.2.1, r_4.2) = (((wprod y.1 (toGa x.1) (toGa x.2.1)).2.2, ()), ((wprod y.1 (toGa x.1) (toGa x.2.1)).1.neg, (wprod y.1 (toGa x.1) (toGa x.2.1)).1.num, (wprod y.1 (toGa x.1) (toGa x.2.1)).1.den, ()), ((wprod y.1 (toGa x.1) (toGa x.2.1)).2.1.neg, (wprod y.1 (toGa x.1) (toGa x.2.1)).2.1.num, (wprod y.1 (toGa x.1) (toGa x.2.1)).2.1.den, ()), ())) := by
  rintro _ rfl _ rfl _ rfl _ rfl _ rfl _ rfl
  rfl
theorem fo_product : FnOk Tryz.prog 99 sp_product := fnOk_of (C := c_product) iv_product Tryz.func99 rfl (by kernel_rfl) tys_ok (prims_cons (spec_prim fo_wmul) (prims_cons (spec_prim fo_wsub) (prims_cons (spec_prim fo_wadd) prims_nil))) mixed_ (Nat.le_refl _) rfl fun y x h1 h2 h3 h4 =>
  Eq.mpr (w_product y x) (m_product y x h2 h3)
noncomputable def sp_norm : Spec := { q := tW, ps := [tG], rs := [tR], fresh := true, pre := fun _ _ => none, post := fun y x => (((wnorm y.1 (toGa x.1)).2, ()), (ofFr (wnorm y.1 (toGa x.1)).1, ())) }
noncomputable def iv_norm (y : El sp_norm.q) (x : Els sp_norm.ps) : Nat → Option Inv := fun _ => none
noncomputable abbrev c_norm : Cfg := cfgS (Tryz.f114).ntmps true [(145, sp_wmul.prim), (97, sp_wadd.prim)]
theorem w_norm (y : El sp_norm.q) (x : Els sp_norm.ps) : aW c_norm (iv_norm y x) Tryz.f114 sp_norm y x =
  (∀ (r : El tW × Els [tR]), r = (((wmul y.1 (toFr x.1.1) (toFr x.1.1)).2, ()), ((wmul y.1 (toFr x.1.1) (toFr x.1.1)).1.neg, (wmul y.1 (toFr x.1.1) (toFr x.1.1)).1.num, (wmul y.1 (toFr x.1.1) (toFr x.1.1)).1.den, ()), ()) → ∀ (r_1 : El tW × Els [tR]), r_1 = (((wmul r.1.1 (toFr x.1.2.1) (toFr x.1.2.1)).2, ()), ((wmul r.1.1 (toFr x.1.2.1) (toFr x.1.2.1)).1.neg, (wmul r.1.1 (toFr x.1.2.1) (toFr x.1.2.1)).1.num, (wmul r.1.1 (toFr x.1.2.1) (toFr x.1.2.1)).1.den, ()), ()) → ∀ (r_2 : El tW × Els [tR]), r_2 = (((wadd r_1.1.1 (toFr r.2.1) (toFr r_1.2.1)).2, ()), ((wadd r_1.1.1 (toFr r.2.1) (toFr r_1.2.1)).1.neg, (wadd r_1.1.1 (toFr r.2.1) (toFr r_1.2.1)).1.num, (wadd r_1.1.1 (toFr r.2.1) (toFr r_1.2.1)).1.den, ()), ()) → r_2 = (((wnorm y.1 (toGa x.1)).2, ()), ((wnorm y.1 (toGa x.1)).1.neg, (wnorm y.1 (toGa x.1)).1.num, (wnorm y.1 (toGa x.1)).1.den, ()), ())) := by kernel_rfl
theorem m_norm (y : El (tW)) (x : Els [tG]) (h2 : wfE (tW) y) (h3 : wfEs [tG] x) :
  (∀ (r : El tW × Els [tR]), r = (((wmul y.1 (toFr x.1.1) (toFr x.1.1)).2, ()), ((wmul y.1 (toFr x.1.1) (toFr x.1.1)).1.neg, (wmul y.1 (toFr x.1.1) (toFr x.1.1)).1.num, (wmul y.1 (toFr x.1.1) (toFr x.1.1)).1.den, ()), ()) → ∀ (r_1 : El tW × Els [tR]), r_1 = (((wmul r.1.1 (toFr x.1.2.1) (toFr x.1.2.1)).2, ()), ((wmul r.1.1 (toFr x.1.2.1) (toFr x.1.2.1)).1.neg, (wmul r.1.1 (toFr x.1.2.1) (toFr x.1.2.1)).1.num, (wmul r.1.1 (toFr x.1.2.1) (toFr x.1.2.1)).1.den, ()), ()) → ∀ (r_2 : El tW × Els [tR]), r_2 = (((wadd r_1.1.1 (toFr r.2.1) (toFr r_1.2.1)).2, ()), ((wadd r_1.1.1 (toFr r.2.1) (toFr r_1.2.1)).1.neg, (wadd r_1.1.1 (toFr r.2.1) (toFr r_1.2.1)).1.num, (wadd r_1.1.1 (toFr r.2.1) (toFr r_1.2.1)).1.den, ()), ()) → r_2 = (((wnorm y.1 (toGa x.1)).2, ()), ((wnorm y.1 (toGa x.1)).1.neg, (wnorm y.1 (toGa x.1)).1.num, (wnorm y.1 (toGa x.1)).1.den, ()), ())) := by
  rintro _ rfl _ rfl _ rfl
  rfl
theorem fo_norm : FnOk Tryz.prog 114 sp_norm := fnOk_of (C := c_norm) iv_norm Tryz.func114 rfl (by kernel_rfl) tys_ok (prims_cons (spec_prim fo_wmul) (prims_cons (spec_prim fo_wadd) prims_nil)) mixed_ (Nat.le_refl _) rfl fun y x h1 h2 h3 h4 =>
  Eq.mpr (w_norm y x) (m_norm y x h2 h3)
noncomputable def sp_gMul : Spec := spG2 gmul
noncomputable def iv_gMul (y : El sp_gMul.q) (x : Els sp_gMul.ps) : Nat → Option Inv := fun _ => none
noncomputable abbrev c_gMul : Cfg := cfgS (Tryz.f32).ntmps false [(96, sp_asked.prim), (99, sp_product.prim), (98, p_told)]
theorem w_gMul (y : El sp_gMul.q) (x : Els sp_gMul.ps) : aW c_gMul (iv_gMul y x) Tryz.f32 sp_gMul y x =
  (∀ (r : Ro [tW.pt]), r = ((), (gchks (0 : Int) [x.1, x.2.1], ()), ()) → ∀ (r_1 : El tW × Els [tR, tR]), r_1 = (((wprod r.2.1.1 (toGa x.1) (toGa x.2.1)).2.2, ()), ((wprod r.2.1.1 (toGa x.1) (toGa x.2.1)).1.neg, (wprod r.2.1.1 (toGa x.1) (toGa x.2.1)).1.num, (wprod r.2.1.1 (toGa x.1) (toGa x.2.1)).1.den, ()), ((wprod r.2.1.1 (toGa x.1) (toGa x.2.1)).2.1.neg, (wprod r.2.1.1 (toGa x.1) (toGa x.2.1)).2.1.num, (wprod r.2.1.1 (toGa x.1) (toGa x.2.1)).2.1.den, ()), ()) → (((bif decide (r_1.1.1 ≠ (0 : Int)) then false else r_1.2.1.1, bif decide (r_1.1.1 ≠ (0 : Int)) then [] else r_1.2.1.2.1, bif decide (r_1.1.1 ≠ (0 : Int)) then [] else r_1.2.1.2.2.1, ()), (bif decide (r_1.1.1 ≠ (0 : Int)) then false else r_1.2.2.1.1, bif decide (r_1.1.1 ≠ (0 : Int)) then [] else r_1.2.2.1.2.1, bif decide (r_1.1.1 ≠ (0 : Int)) then [] else r_1.2.2.1.2.2.1, ()), ()), r_1.1) = ((((gmul (toGa x.1) (toGa x.2.1)).1.re.neg, (gmul (toGa x.1) (toGa x.2.1)).1.re.num, (gmul (toGa x.1) (toGa x.2.1)).1.re.den, ()), ((gmul (toGa x.1) (toGa x.2.1)).1.im.neg, (gmul (toGa x.1) (toGa x.2.1)).1.im.num, (gmul (toGa x.1) (toGa x.2.1)).1.im.den, ()), ()), (gmul (toGa x.1) (toGa x.2.1)).2, ())) := by kernel_rfl
theorem m_gMul (y : El (.un)) (x : Els [tG, tG]) (h2 : wfE (.un) y) (h3 : wfEs [tG, tG] x) :
  (∀ (r : Ro [tW.pt]), r = ((), (gchks (0 : Int) [x.1, x.2.1], ()), ()) → ∀ (r_1 : El tW × Els [tR, tR]), r_1 = (((wprod r.2.1.1 (toGa x.1) (toGa x.2.1)).2.2, ()), ((wprod r.2.1.1 (toGa x.1) (toGa x.2.1)).1.neg, (wprod r.2.1.1 (toGa x.1) (toGa x.2.1)).1.num, (wprod r.2.1.1 (toGa x.1) (toGa x.2.1)).1.den, ()), ((wprod r.2.1.1 (toGa x.1) (toGa x.2.1)).2.1.neg, (wprod r.2.1.1 (toGa x.1) (toGa x.2.1)).2.1.num, (wprod r.2.1.1 (toGa x.1) (toGa x.2.1)).2.1.den, ()), ()) → (((bif decide (r_1.1.1 ≠ (0 : Int)) then false else r_1.2.1.1, bif decide (r_1.1.1 ≠ (0 : Int)) then [] else r_1.2.1.2.1, bif decide (r_1.1.1 ≠ (0 : Int)) then [] else r_1.2.1.2.2.1, ()), (bif decide (r_1.1.1 ≠ (0 : Int)) then false else r_1.2.2.1.1, bif decide (r_1.1.1 ≠ (0 : Int)) then [] else r_1.2.2.1.2.1, bif decide (r_1.1.1 ≠ (0 : Int)) then [] else r_1.2.2.1.2.2.1, ()), ()), r_1.1) = ((((gmul (toGa x.1) (toGa x.2.1)).1.re.neg, (gmul (toGa x.1) (toGa x.2.1)).1.re.num, (gmul (toGa x.1) (toGa x.2.1)).1.re.den, ()), ((gmul (toGa x.1) (toGa x.2.1)).1.im.neg, (gmul (toGa x.1) (toGa x.2.1)).1.im.num, (gmul (toGa x.1) (toGa x.2.1)).1.im.den, ()), ()), (gmul (toGa x.1) (toGa x.2.1)).2, ())) := by
  rintro _ rfl _ rfl
  have e : gchks 0 [x.1, x.2.1] = gchk2 (toGa x.1) (toGa x.2.1) := gchks2 _ _
  simp only [e, gmul, gtell]
  split <;> simp_all [Ga.zero, Fr.zero]
theorem fo_gMul : FnOk Tryz.prog 32 sp_gMul := fnOk_of (C := c_gMul) iv_gMul Tryz.func32 rfl (by kernel_rfl) tys_ok (prims_cons (spec_prim fo_asked) (prims_cons (spec_prim fo_product) (prims_cons pr_told prims_nil))) mixed_ (Nat.le_refl _) rfl fun y x h1 h2 h3 h4 =>
  Eq.mpr (w_gMul y x) (m_gMul y x h2 h3)
noncomputable def sp_turned : Spec := { q := .un, ps := [tG], rs := [tG], fresh := false, pre := fun _ _ => none, post := fun _ x => ((), (ofGa ⟨toFr x.1.1, (fneg (toFr x.1.2.1)).1⟩, ())) }
noncomputable def iv_turned (y : El sp_turned.q) (x : Els sp_turned.ps) : Nat → Option Inv := fun _ => none
noncomputable abbrev c_turned : Cfg := cfgS (Tryz.f115).ntmps false [(19, sp_rNeg.prim)]
theorem w_turned (y : El sp_turned.q) (x : Els sp_turned.ps) : aW c_turned (iv_turned y x) Tryz.f115 sp_turned y x =
  (∀ (r : Ro [tR, Ty.it IntKind.i64]), r = ((), ((fneg (toFr x.1.2.1)).1.neg, (fneg (toFr x.1.2.1)).1.num, (fneg (toFr x.1.2.1)).1.den, ()), (fneg (toFr x.1.2.1)).2, ()) → ((x.1.1, r.2.1, ()), ()) = ((((toFr x.1.1).neg, (toFr x.1.1).num, (toFr x.1.1).den, ()), ((fneg (toFr x.1.2.1)).1.neg, (fneg (toFr x.1.2.1)).1.num, (fneg (toFr x.1.2.1)).1.den, ()), ()), ())) := by kernel_rfl
theorem m_turned (y : El (.un)) (x : Els [tG]) (h2 : wfE (.un) y) (h3 : wfEs [tG] x) :
  (∀ (r : Ro [tR, Ty.it IntKind.i64]), r = ((), ((fneg (toFr x.1.2.1)).1.neg, (fneg (toFr x.1.2.1)).1.num, (fneg (toFr x.1.2.1)).1.den, ()), (fneg (toFr x.1.2.1)).2, ()) → ((x.1.1, r.2.1, ()), ()) = ((((toFr x.1.1).neg, (toFr x.1.1).num, (toFr x.1.1).den, ()), ((fneg (toFr x.1.2.1)).1.neg, (fneg (toFr x.1.2.1)).1.num, (fneg (toFr x.1.2.1)).1.den, ()), ()), ())) := by
  rintro _ rfl
  rfl
theorem fo_turned : FnOk Tryz.prog 115 sp_turned := fnOk_of (C := c_turned) iv_turned Tryz.func115 rfl (by kernel_rfl) tys_ok (prims_cons (spec_prim fo_rNeg) prims_nil) mixed_ (Nat.le_refl _) rfl fun y x h1 h2 h3 h4 =>
  Eq.mpr (w_turned y x) (m_turned y x h2 h3)
noncomputable def sp_gNorm : Spec := { q := .un, ps := [tG], rs := [tR, .it .i64], fresh := true, pre := fun _ _ => none, post := fun _ x => pR (gnorm (toGa x.1)) }
noncomputable def iv_gNorm (y : El sp_gNorm.q) (x : Els sp_gNorm.ps) : Nat → Option Inv := fun _ => none
noncomputable abbrev c_gNorm : Cfg := cfgS (Tryz.f101).ntmps false [(96, sp_asked.prim), (114, sp_norm.prim)]
theorem w_gNorm (y : El sp_gNorm.q) (x : Els sp_gNorm.ps) : aW c_gNorm (iv_gNorm y x) Tryz.f101 sp_gNorm y x =
  (∀ (r : Ro [tW.pt]), r = ((), (gchks (0 : Int) [x.1], ()), ()) → ∀ (r_1 : El tW × Els [tR]), r_1 = (((wnorm r.2.1.1 (toGa x.1)).2, ()), ((wnorm r.2.1.1 (toGa x.1)).1.neg, (wnorm r.2.1.1 (toGa x.1)).1.num, (wnorm r.2.1.1 (toGa x.1)).1.den, ()), ()) → ((r_1.1.1 != (0 : Int)) = true → ((false, [], [], ()), r_1.1) = (((gnorm (toGa x.1)).1.neg, (gnorm (toGa x.1)).1.num, (gnorm (toGa x.1)).1.den, ()), (gnorm (toGa x.1)).2, ())) ∧ ((r_1.1.1 != (0 : Int)) = false → (r_1.2.1, (0 : Int), ()) = (((gnorm (toGa x.1)).1.neg, (gnorm (toGa x.1)).1.num, (gnorm (toGa x.1)).1.den, ()), (gnorm (toGa x.1)).2, ()))) := by kernel_rfl
theorem m_gNorm (y : El (.un)) (x : Els [tG]) (h2 : wfE (.un) y) (h3 : wfEs [tG] x) :
  (∀ (r : Ro [tW.pt]), r = ((), (gchks (0 : Int) [x.1], ()), ()) → ∀ (r_1 : El tW × Els [tR]), r_1 = (((wnorm r.2.1.1 (toGa x.1)).2, ()), ((wnorm r.2.1.1 (toGa x.1)).1.neg, (wnorm r.2.1.1 (toGa x.1)).1.num, (wnorm r.2.1.1 (toGa x.1)).1.den, ()), ()) → ((r_1.1.1 != (0 : Int)) = true → ((false, [], [], ()), r_1.1) = (((gnorm (toGa x.1)).1.neg, (gnorm (toGa x.1)).1.num, (gnorm (toGa x.1)).1.den, ()), (gnorm (toGa x.1)).2, ())) ∧ ((r_1.1.1 != (0 : Int)) = false → (r_1.2.1, (0 : Int), ()) = (((gnorm (toGa x.1)).1.neg, (gnorm (toGa x.1)).1.num, (gnorm (toGa x.1)).1.den, ()), (gnorm (toGa x.1)).2, ()))) := by
  rintro _ rfl _ rfl
  have e : gchks 0 [x.1] = gchk (toGa x.1) := gchks1 _
  simp only [e, gnorm]
  refine ⟨fun h => ?_, fun h => ?_⟩
  all_goals simp_all [Fr.zero]
theorem fo_gNorm : FnOk Tryz.prog 101 sp_gNorm := fnOk_of (C := c_gNorm) iv_gNorm Tryz.func101 rfl (by kernel_rfl) tys_ok (prims_cons (spec_prim fo_asked) (prims_cons (spec_prim fo_norm) prims_nil)) mixed_ (Nat.le_refl _) rfl fun y x h1 h2 h3 h4 =>
  Eq.mpr (w_gNorm y x) (m_gNorm y x h2 h3)
noncomputable def sp_gInt : Spec := { q := .un, ps := [.it .i64, .it .i64], rs := [tG], fresh := true, pre := fun _ _ => none, post := fun _ x => ((), (ofGa ⟨(fsmall x.1 1).1, (fsmall x.2.1 1).1⟩, ())) }
noncomputable def iv_gInt (y : El sp_gInt.q) (x : Els sp_gInt.ps) : Nat → Option Inv := fun _ => none
noncomputable abbrev c_gInt : Cfg := cfgS (Tryz.f50).ntmps false [(69, sp_rSmall.prim)]
theorem w_gInt (y : El sp_gInt.q) (x : Els sp_gInt.ps) : aW c_gInt (iv_gInt y x) Tryz.f50 sp_gInt y x =
  (∀ (r : Ro [tR, Ty.it IntKind.i64]), r = ((), ((fsmall x.1 (1 : Int)).1.neg, (fsmall x.1 (1 : Int)).1.num, (fsmall x.1 (1 : Int)).1.den, ()), (fsmall x.1 (1 : Int)).2, ()) → ∀ (r_1 : Ro [tR, Ty.it IntKind.i64]), r_1 = ((), ((fsmall x.2.1 (1 : Int)).1.neg, (fsmall x.2.1 (1 : Int)).1.num, (fsmall x.2.1 (1 : Int)).1.den, ()), (fsmall x.2.1 (1 : Int)).2, ()) → ((r.2.1, r_1.2.1, ()), ()) = ((((fsmall x.1 (1 : Int)).1.neg, (fsmall x.1 (1 : Int)).1.num, (fsmall x.1 (1 : Int)).1.den, ()), ((fsmall x.2.1 (1 : Int)).1.neg, (fsmall x.2.1 (1 : Int)).1.num, (fsmall x.2.1 (1 : Int)).1.den, ()), ()), ())) := by kernel_rfl
theorem m_gInt (y : El (.un)) (x : Els [.it .i64, .it .i64]) (h2 : wfE (.un) y) (h3 : wfEs [.it .i64, .it .i64] x) :
  (∀ (r : Ro [tR, Ty.it IntKind.i64]), r = ((), ((fsmall x.1 (1 : Int)).1.neg, (fsmall x.1 (1 : Int)).1.num, (fsmall x.1 (1 : Int)).1.den, ()), (fsmall x.1 (1 : Int)).2, ()) → ∀ (r_1 : Ro [tR, Ty.it IntKind.i64]), r_1 = ((), ((fsmall x.2.1 (1 : Int)).1.neg, (fsmall x.2.1 (1 : Int)).1.num, (fsmall x.2.1 (1 : Int)).1.den, ()), (fsmall x.2.1 (1 : Int)).2, ()) → ((r.2.1, r_1.2.1, ()), ()) = ((((fsmall x.1 (1 : Int)).1.neg, (fsmall x.1 (1 : Int)).1.num, (fsmall x.1 (1 : Int)).1.den, ()), ((fsmall x.2.1 (1 : Int)).1.neg, (fsmall x.2.1 (1 : Int)).1.num, (fsmall x.2.1 (1 : Int)).1.den, ()), ()), ())) := by
  rintro _ rfl _ rfl
  rfl
theorem fo_gInt : FnOk Tryz.prog 50 sp_gInt := fnOk_of (C := c_gInt) iv_gInt Tryz.func50 rfl (by kernel_rfl) tys_ok (prims_cons (spec_prim fo_rSmall) prims_nil) mixed_ (Nat.le_refl _) rfl fun y x h1 h2 h3 h4 =>
  Eq.mpr (w_gInt y x) (m_gInt y x h2 h3)
end Go.Proofs.YtjoonfegjobgbaaGreatDoor
