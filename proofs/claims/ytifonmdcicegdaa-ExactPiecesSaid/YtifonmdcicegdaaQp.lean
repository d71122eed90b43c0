/- Texts of this claim, joined: B4 B5 B6 B7 B8 B9 A26 Y2 U3 Y4 B10 B11 Y5 Y7 U15 B12. -/
import Derived.OneCell
import Derived.Deep.AppendLies
import Derived.Deep.RegionHeldLaw
import Derived.Test.YtifonmdcicegdaaQo
set_option linter.unusedVariables false
set_option linter.unusedSimpArgs false
namespace Go.Proofs.Ytifonmdcicegdaa
open Go Go.RowKit

theorem way_of {gw : Nat} {e : Int} {w : World} {et : TypeId} (h : w.heap[gw]? = some (.cells #[.int .i64 e] et (0, 0))) : Way gw e w := ⟨cell_of_one h, fun o => by simp [World.frozen?, h]⟩
/-- the way's whole block -/
def WayH (gw : Nat) (e : Int) (w : World) : Prop := ∃ et, w.heap[gw]? = some (.cells #[.int .i64 e] et (0, 0))
theorem WayH.ext {gw : Nat} {e : Int} {w w' : World} (h : WayH gw e w) (x : Ext w w') : WayH gw e w' := let ⟨et, h⟩ := h; ⟨et, (x.block gw (lt_of_block h)).trans h⟩
theorem WayH.set {gw : Nat} {e e' : Int} {w : World} (h : WayH gw e w) : WayH gw e' (w.setCell ⟨gw, 0, none⟩ (.int .i64 e')) := let ⟨et, h⟩ := h; ⟨et, one_setCell h⟩
theorem WayH.setNe {gw : Nat} {e : Int} {w : World} {p : Addr} {u : Value} (h : WayH gw e w) (hp : p.block ≠ gw) : WayH gw e (w.setCell p u) := let ⟨et, h⟩ := h; ⟨et, (Below.heap_setCell _ _ _ _ (Ne.symm hp)).trans h⟩
set_option maxHeartbeats 1000000 in
theorem made_h (gw : Nat) (e0 : Int) (s : Bool) (n m : Nat) (er : Int) (A B : Option Addr) (c1 c2 : Nat) (w : World) (hw : WayH gw e0 w) :
    Calls Try.prog 73 #[.pointer (some ⟨gw, 0, none⟩), .agg #[.bool s, .slice A n c1, .slice B m c2], .int .i64 er] w fun e w' =>
      (e0 ≠ 0 → e = .returned (.agg #[.bool false, .slice none 0 0, .slice none 0 0])) ∧ (e0 = 0 → e = .returned (.agg #[.bool s, .slice A n c1, .slice B m c2])) ∧ w.grownBy w' (some gw) ∧ WayH gw (if e0 ≠ 0 then e0 else er) w' := by
  have hl : gw < w.heap.size := lt_of_block hw.choose_spec
  have HW := Lib.hid hw
  have hw0 := way_of hw.choose_spec
  have hc := hw0.c
  have hf := hw0.f 0
  have hg := fun o => (hw0.ext ((Ext.refl w).alloc o)).c
  clear hw hw0
  by_cases h0 : e0 ≠ 0
  · have hb : (e0 != 0) = true := bne_iff_ne.2 h0
    rw [if_pos h0]
    go_enter Try.func73, Try.ntmps73
    go_wp2_with fail
    exact bodyPost_ret (v := .agg #[.bool false, .slice none 0 0, .slice none 0 0]) (by simp [results, Try.results73, go_sem]) rfl ⟨fun _ => rfl, fun h => absurd h h0, (by repeat (first | (with_reducible exact World.grownBy.refl w _) | (with_reducible refine grown_alloc ?_ _) | (with_reducible refine grown_setWay ?_) | (with_reducible refine grown_setNewU ?_ (by simp)))), by repeat (first | (with_reducible exact HW.out) | (with_reducible refine WayH.setNe ?_ (by simp; omega)) | refine WayH.ext ?_ ((Ext.refl _).alloc _))⟩
  · obtain rfl : e0 = 0 := by simpa using h0
    have hb : ((0 : Int) != 0) = false := rfl
    rw [if_neg (by simp)]
    go_enter Try.func73, Try.ntmps73
    go_wp2_with fail
    exact bodyPost_ret (v := .agg #[.bool s, .slice A n c1, .slice B m c2]) (by simp [results, Try.results73, go_sem]) rfl ⟨fun h => absurd rfl h, fun _ => rfl, (by repeat (first | (with_reducible exact World.grownBy.refl w _) | (with_reducible refine grown_alloc ?_ _) | (with_reducible refine grown_setWay ?_) | (with_reducible refine grown_setNewU ?_ (by simp)))), WayH.ext (WayH.set HW.out) (((Ext.refl _).alloc _).alloc _)⟩

section
variable {P : Program} {C : Cfg} {gp : Option Nat} {Z0 Z Z' : Nat → Prop} {w0 w w' : World} {D D' : Nat → Prop} {c c' : Cf} {T : Nat → Option AV} {O O' : Store} {a : Act} {N : Nat}
/-- only a variable turns -/
theorem Sim.var_step (S : Sim gp Z0 w0 N D c T O a.tmps w) {i g : Nat} {cs cs' : List Ce} {e : Ent} {cells : Array Value} {et : TypeId} (h1 : O i = some (.var cs)) (h2 : c.m i = some e) (h3 : e.bl = some g) (hg : w.grownBy w' (some g)) (h4 : w'.heap[g]? = some (.cells cells et (0, 0))) (h5 : RL c w' cells.toList cs') :
    Sim gp Z0 w0 N D c T (upO O [(i, .var cs')]) a.tmps w' ∧ Stay c.Z w w' := by
  have st : Stay c.Z w w' := fun k hz => hg.block k (S.zl k hz) (fun e0 => by cases e0; exact S.zo i _ e g h1 rfl h2 (Ent.has_bl h3) hz)
  have lk : ∀ k o, look [(i, Ob.var cs')] k = some o → k = i ∧ o = .var cs' := fun k o h => by
    rw [look_one] at h
    split at h
    · rename_i h0; cases h; exact ⟨h0, rfl⟩
    · cases h
  refine ⟨S.step (d := none) (v := .bool true) (av := .c .tt) (ob := [(i, .var cs')]) (c' := c) (w' := w') (D' := D) rfl (Cf.Le.refl c) st rfl (fun k o q1 q2 q3 f b q4 q5 => ?_) (fun k o h => ?_) (fun k o f b h hl hf hb => ?_) (fun k m o p f f' b q1 q2 _ _ q5 => ?_) (fun b hz => ⟨Nat.lt_of_lt_of_le (S.zl b hz) hg.size, S.zz b hz, fun k o f q1 _ q3 q4 q5 => S.zo k o f b q1 q3 q4 q5 hz⟩) S.dom ?_ (fun k cs1 o q1 q2 => ⟨cs', (lk k o q2).2⟩), st⟩
  · refine hg.block b ((S.obj k o q1).lt q3 f b q4 q5) (fun e0 => ?_)
    have e0 : b = g := Option.some.inj e0
    by_cases hk : k = i
    · subst hk
      rw [look_one, if_pos rfl] at q2; cases q2
    · exact S.inj k i o _ f e b q1 h1 q3 rfl hk q4 h2 q5 (e0 ▸ Ent.has_bl h3)
  · obtain ⟨rfl, rfl⟩ := lk k o h
    obtain ⟨e', _, _, _, y1, _, y2, _⟩ := S.obj k _ h1
    rw [h2] at y1; cases y1
    exact ⟨e, g, cells, et, h2, h3, y2, h4, h5⟩
  · obtain ⟨rfl, rfl⟩ := lk k o h
    refine ⟨.inl ⟨k, _, e, h1, rfl, h2, ?_, by rw [h]; rfl⟩, fun hz => S.zo k _ f b h1 rfl hf hb hz⟩
    rw [h2] at hf; cases hf; exact hb
  · exact absurd ((lk k o q1).1.trans (lk m p q2).1.symm) q5
  · refine ⟨hg.os.trans S.gr.os, hg.tape.trans S.gr.tape, hg.output.trans S.gr.output, Nat.le_trans S.gr.size hg.size, fun k hk hr => ?_⟩
    refine (hg.block k (Nat.lt_of_lt_of_le hk S.gr.size) (fun e0 => ?_)).trans (S.gr.block k hk hr)
    have e0 : k = g := Option.some.inj e0
    rcases S.bs i _ e k h1 rfl h2 (e0 ▸ Ent.has_bl h3) with h | h
    · omega
    · exact hr h.symm
/-- nothing turns -/
theorem Sim.same_step (S : Sim gp Z0 w0 N D c T O a.tmps w) (hx : Below w.heap.size w w') : Sim gp Z0 w0 N D c T O a.tmps w' ∧ Stay c.Z w w' := by
  have st : Stay c.Z w w' := fun k hz => Ext.size (w := w) (w' := w') hx |> fun _ => (show Ext w w' from hx).block k (S.zl k hz)
  refine ⟨S.step (d := none) (v := .bool true) (av := .c .tt) (ob := []) (c' := c) (w' := w') (D' := D) rfl (Cf.Le.refl c) st rfl (fun k o q1 _ q3 f b q4 q5 => (show Ext w w' from hx).block b ((S.obj k o q1).lt q3 f b q4 q5)) (fun _ _ h => by cases h) (fun _ _ _ _ h => by cases h) (fun _ _ _ _ _ _ _ h => by cases h) (fun b hz => ⟨Nat.lt_of_lt_of_le (S.zl b hz) (Below.size hx), S.zz b hz, fun k o f q1 _ q3 q4 q5 => S.zo k o f b q1 q3 q4 q5 hz⟩) S.dom (grown_trans S.gr ((show Ext w w' from hx).by_ _)) (fun _ _ _ _ h => by cases h), st⟩
end
def isB : Ce → Bool
  | .tt => true
  | .ff => true
  | .sc (.bool _) => true
  | _ => false
def isR : Ce → Bool
  | .ow _ => true
  | .nl => true
  | _ => false
theorem isB_val {c : Cf} {w : World} {v : Value} {x : Ce} (h : isB x = true) (hv : RC c w v x) : ∃ b, v = .bool b := by
  unfold isB at h
  split at h
  · exact ⟨_, hv⟩
  · exact ⟨_, hv⟩
  · exact ⟨_, hv.1⟩
  · cases h
theorem isR_val {c : Cf} {w : World} {v : Value} {x : Ce} (h : isR x = true) (hv : RC c w v x) : ∃ A n m, v = .slice A n m := by
  unfold isR at h
  split at h
  · obtain ⟨e, _, h⟩ := hv; exact ⟨_, _, _, h⟩
  · exact ⟨_, _, _, hv⟩
  · cases h
def p_made : Prim := fun xs O n => match xs with
  | [.c (.pv i 0), .ag [s, x, y], .c (.sc (.int .i64 er))] => match O i with
    | some (.var [.sc (.int .i64 e0)]) => bif isB s && isR x && isR y then match mvCs (decide (e0 ≠ 0)) (upO O [(i, .var [.sc (.int .i64 (if e0 ≠ 0 then e0 else er))])]) [s, x, y] n with
      | some (ys, ob, m) => some (none, .e ⟨.ag ys, ob ++ [(i, .var [.sc (.int .i64 (if e0 ≠ 0 then e0 else er))])], m - n⟩)
      | none => none else none
    | _ => none
  | _ => none
def p_told : Prim := fun xs O n => match xs with
  | [.c (.pv i 0), .ag [s, x, y], .ag [t, u, z]] => match O i with
    | some (.var [.sc (.int .i64 e0)]) => bif isB s && isR x && isR y && isB t && isR u && isR z then match mvCs (decide (e0 ≠ 0)) O [s, x, y, t, u, z] n with
      | some (ys, ob, m) => some (none, .e ⟨.tu [(true, ys), (false, [.sc (.int .i64 e0)])], ob, m - n⟩)
      | none => none else none
    | _ => none
  | _ => none
theorem pr_made : PrimOk Try.prog 73 p_made := by
  refine ⟨callFunc_enter Try.func73 (by kernel_rfl) rfl, fun gp Z0 w0 N D c T O O' a w xs vs n cd G S hO hl hv h hfr hc => ?_⟩
  unfold p_made at h
  split at h
  · rename_i i s x y er
    split at h
    · rename_i e0 hi
      cases hb : (isB s && isR x && isR y) with
      | false => rw [hb] at h; cases h
      | true =>
        rw [hb] at h
        simp only [cond_true] at h
        split at h
        · rename_i ys ob m hm
          cases h
          simp only [Bool.and_eq_true] at hb
          obtain ⟨⟨hb1, hb2⟩, hb3⟩ := hb
          match vs, hl with
          | ⟨[v0, v1, v2]⟩, _ =>
            obtain ⟨e, g, p1, p2, rfl⟩ := hv 0 v0 _ rfl rfl
            obtain ⟨us, rfl, q⟩ := hv 1 v1 _ rfl rfl
            obtain ⟨rfl, p3⟩ := hv 2 v2 _ rfl rfl
            have hlen := q.1
            match hus : us, hlen with
            | ⟨[u0, u1, u2]⟩, _ =>
              obtain ⟨b, rfl⟩ := isB_val hb1 (q.2 0 u0 s rfl rfl)
              obtain ⟨A, n1, c1, rfl⟩ := isR_val hb2 (q.2 1 u1 x rfl rfl)
              obtain ⟨B, n2, c2, rfl⟩ := isR_val hb3 (q.2 2 u2 y rfl rfl)
              have hOi := hO _ _ hi
              obtain ⟨e', g', cells, et, r1, r2, r0, r3, r4⟩ := S.obj i _ hOi
              rw [p1] at r1; cases r1
              rw [p2] at r2; cases r2
              have hcells : cells = #[.int .i64 e0] ∧ okv (.int .i64 e0) := by
                obtain ⟨v, e1, e2, e3⟩ := r4.single
                subst e2
                exact ⟨Array.ext' e1, e3⟩
              obtain ⟨rfl, hok⟩ := hcells
              refine (made_h g e0 b n1 n2 er A B c1 c2 w ⟨et, r3⟩).mono ?_
              rintro e w' ⟨k1, k2, k3, et', k4⟩
              have hok' : okv (.int .i64 (if e0 ≠ 0 then e0 else er)) := by
                split
                · exact hok
                · exact p3
              obtain ⟨S1, st⟩ := S.var_step hOi p1 p2 k3 k4 (cs' := [.sc (.int .i64 (if e0 ≠ 0 then e0 else er))]) (RL.one ⟨rfl, hok'⟩)
              obtain ⟨l0, c', l1, l2, l3⟩ := mvCs_sound (O' := upO O' [(i, .var [.sc (.int .i64 (if e0 ≠ 0 then e0 else er))])]) S1 (fun k o h => by
                unfold upO at h ⊢
                split at h
                · exact h
                · exact hO k o h) hm (fun k h1 h2 => hfr k h1 (by show k < n + (m - n); omega)) (q.mono (Cf.Le.refl c) st)
              refine ⟨.agg (bif decide (e0 ≠ 0) then [Value.bool b, .slice A n1 c1, .slice B n2 c2].map zV else [Value.bool b, .slice A n1 c1, .slice B n2 c2]).toArray, c', ?_, fun d hd => ?_⟩
              · by_cases h0 : e0 ≠ 0
                · rw [k1 h0, decide_eq_true h0]; rfl
                · rw [k2 (by simpa using h0), decide_eq_false h0]; rfl
              · have := l2.value (v := .agg (bif decide (e0 ≠ 0) then [Value.bool b, .slice A n1 c1, .slice B n2 c2].map zV else [Value.bool b, .slice A n1 c1, .slice B n2 c2]).toArray) hd (av := .ag ys) ⟨_, rfl, l3⟩
                rw [upO_upO] at this
                have e : (fun k => D k ∨ (n ≤ k ∧ k < m)) = (fun k => D k ∨ n ≤ k ∧ k < n + (m - n)) := by
                  rw [show n + (m - n) = m by omega]
                rw [e] at this
                exact this
        · cases h
    · cases h
  · cases h
theorem pr_told : PrimOk Try.prog 46 p_told := by
  refine ⟨callFunc_enter Try.func46 (by kernel_rfl) rfl, fun gp Z0 w0 N D c T O O' a w xs vs n cd G S hO hl hv h hfr hc => ?_⟩
  unfold p_told at h
  split at h
  · rename_i i s x y t u z
    split at h
    · rename_i e0 hi
      cases hb : (isB s && isR x && isR y && isB t && isR u && isR z) with
      | false => rw [hb] at h; cases h
      | true =>
        rw [hb] at h
        simp only [cond_true] at h
        split at h
        · rename_i ys ob m hm
          cases h
          simp only [Bool.and_eq_true] at hb
          obtain ⟨⟨⟨⟨⟨hb1, hb2⟩, hb3⟩, hb4⟩, hb5⟩, hb6⟩ := hb
          match vs, hl with
          | ⟨[v0, v1, v2]⟩, _ =>
            obtain ⟨e, g, p1, p2, rfl⟩ := hv 0 v0 _ rfl rfl
            obtain ⟨us, rfl, q⟩ := hv 1 v1 _ rfl rfl
            obtain ⟨us', rfl, q'⟩ := hv 2 v2 _ rfl rfl
            have hlen := q.1
            have hlen' := q'.1
            match hus : us, hlen, hus' : us', hlen' with
            | ⟨[u0, u1, u2]⟩, _, ⟨[u3, u4, u5]⟩, _ =>
              obtain ⟨b, rfl⟩ := isB_val hb1 (q.2 0 u0 s rfl rfl)
              obtain ⟨A, n1, c1, rfl⟩ := isR_val hb2 (q.2 1 u1 x rfl rfl)
              obtain ⟨B, n2, c2, rfl⟩ := isR_val hb3 (q.2 2 u2 y rfl rfl)
              obtain ⟨b', rfl⟩ := isB_val hb4 (q'.2 0 u3 t rfl rfl)
              obtain ⟨A', n3, c3, rfl⟩ := isR_val hb5 (q'.2 1 u4 u rfl rfl)
              obtain ⟨B', n4, c4, rfl⟩ := isR_val hb6 (q'.2 2 u5 z rfl rfl)
              have hOi := hO _ _ hi
              obtain ⟨e', g', cells, et, r1, r2, r0, r3, r4⟩ := S.obj i _ hOi
              rw [p1] at r1; cases r1
              rw [p2] at r2; cases r2
              have hcells : cells = #[.int .i64 e0] ∧ okv (.int .i64 e0) := by
                obtain ⟨v, e1, e2, e3⟩ := r4.single
                subst e2
                exact ⟨Array.ext' e1, e3⟩
              obtain ⟨rfl, hok⟩ := hcells
              have hcall := told_any g e0 ⟨b, List.replicate n1 0, List.replicate n2 0⟩ ⟨b', List.replicate n3 0, List.replicate n4 0⟩ A B A' B' c1 c2 c3 c4 w (way_of r3)
              simp only [List.length_replicate] at hcall
              refine hcall.mono ?_
              rintro e w' ⟨k1, k2, k3⟩
              obtain ⟨S1, st⟩ := S.same_step k3
              have q2 := (q.append q').mono (Cf.Le.refl c) st
              obtain ⟨l0, c', l1, l2, l3⟩ := mvCs_sound (O' := O') S1 hO hm (fun k h1 h2 => hfr k h1 (by show k < n + (m - n); omega)) q2
              refine ⟨.tuple #[.agg (bif decide (e0 ≠ 0) then [Value.bool b, .slice A n1 c1, .slice B n2 c2, Value.bool b', .slice A' n3 c3, .slice B' n4 c4].map zV else [Value.bool b, .slice A n1 c1, .slice B n2 c2, Value.bool b', .slice A' n3 c3, .slice B' n4 c4]).toArray, .int .i64 e0], c', ?_, fun d hd => ?_⟩
              · by_cases h0 : e0 ≠ 0
                · rw [k1 h0, decide_eq_true h0]; rfl
                · have h0' : e0 = 0 := by simpa using h0
                  rw [k2 h0', decide_eq_false h0, h0']; rfl
              · have := l2.value (v := .tuple #[.agg (bif decide (e0 ≠ 0) then [Value.bool b, .slice A n1 c1, .slice B n2 c2, Value.bool b', .slice A' n3 c3, .slice B' n4 c4].map zV else [Value.bool b, .slice A n1 c1, .slice B n2 c2, Value.bool b', .slice A' n3 c3, .slice B' n4 c4]).toArray, .int .i64 e0]) hd (av := .tu [(true, ys), (false, [.sc (.int .i64 e0)])]) ⟨_, rfl, rfl, fun k v p e1 e2 => by
                  match k with
                  | 0 => cases e1; cases e2; unfold RP; rw [if_pos rfl]; exact ⟨_, rfl, l3⟩
                  | 1 => cases e1; cases e2; unfold RP; rw [if_neg (by simp)]; exact ⟨_, rfl, rfl, hok⟩
                  | k + 2 => simp at e2⟩
                have e : (fun k => D k ∨ (n ≤ k ∧ k < m)) = (fun k => D k ∨ n ≤ k ∧ k < n + (m - n)) := by
                  rw [show n + (m - n) = m by omega]
                rw [e] at this
                exact this
        · cases h
    · cases h
  · cases h
/-- a complex fraction and an error -/
def pG (t : Ga × Int) : El .un × Els [tG, .it .i64] := ((), (ofGa t.1, t.2, ()))
def spG2 (F : Ga → Ga → Ga × Int) : Spec := { q := .un, ps := [tG, tG], rs := [tG, .it .i64], fresh := true, pre := fun _ _ => none, post := fun _ x => pG (F (toGa x.1) (toGa x.2.1)) }
end Go.Proofs.Ytifonmdcicegdaa

namespace Go.Proofs.Ytifonmdcicegdaa
open Go Go.RowKit

noncomputable def sp_wadd : Spec := { q := tW, ps := [tR, tR], rs := [tR], fresh := true, pre := fun _ _ => none, post := fun y x => (((wadd y.1 (toFr x.1) (toFr x.2.1)).2, ()), (ofFr (wadd y.1 (toFr x.1) (toFr x.2.1)).1, ())) }
noncomputable def iv_wadd (y : El sp_wadd.q) (x : Els sp_wadd.ps) : Nat → Option Inv := fun _ => none
noncomputable abbrev c_wadd : Cfg := cfgS (Try.f45).ntmps true [(17, sp_rAdd.prim), (73, p_made)]
set_option maxRecDepth 100000 in
theorem w_wadd (y : El sp_wadd.q) (x : Els sp_wadd.ps) : aw c_wadd (iv_wadd y x) (codeOf Try.f45) 0 (retQ c_wadd sp_wadd (Try.f45).results.toList y x) (startT sp_wadd x) (startO sp_wadd y) 1 =
  (∀ (r : El Ty.un × Els [tR, Ty.it IntKind.i64]), r = ((), ((fadd (toFr x.fst) (toFr x.snd.fst)).fst.neg, (fadd (toFr x.fst) (toFr x.snd.fst)).fst.num, (fadd (toFr x.fst) (toFr x.snd.fst)).fst.den, ()), (fadd (toFr x.fst) (toFr x.snd.fst)).snd, ()) → ((if y.fst ≠ (0 : Int) then y.fst else r.snd.snd.fst, ()), (bif decide (y.fst ≠ (0 : Int)) then false else r.snd.fst.fst, bif decide (y.fst ≠ (0 : Int)) then [] else r.snd.fst.snd.fst, bif decide (y.fst ≠ (0 : Int)) then [] else r.snd.fst.snd.snd.fst, ()), ()) = (((wadd y.fst (toFr x.fst) (toFr x.snd.fst)).snd, ()), ((wadd y.fst (toFr x.fst) (toFr x.snd.fst)).fst.neg, (wadd y.fst (toFr x.fst) (toFr x.snd.fst)).fst.num, (wadd y.fst (toFr x.fst) (toFr x.snd.fst)).fst.den, ()), ())) := by kernel_rfl
theorem fo_wadd : FnOk Try.prog 45 sp_wadd := fnOk_of (C := c_wadd) iv_wadd Try.func45 rfl (by kernel_rfl) tys_ok (prims_cons (spec_prim fo_rAdd) (prims_cons pr_made prims_nil)) mixed_ (Nat.le_refl _) rfl fun y x h1 h2 h3 h4 => by
  refine Eq.mpr (w_wadd y x) ?_
  rintro _ rfl
  by_cases h : y.1 ≠ 0 <;> simp [wadd, stp, h, Fr.zero]
noncomputable def sp_wsub : Spec := { q := tW, ps := [tR, tR], rs := [tR], fresh := true, pre := fun _ _ => none, post := fun y x => (((wsub y.1 (toFr x.1) (toFr x.2.1)).2, ()), (ofFr (wsub y.1 (toFr x.1) (toFr x.2.1)).1, ())) }
noncomputable def iv_wsub (y : El sp_wsub.q) (x : Els sp_wsub.ps) : Nat → Option Inv := fun _ => none
noncomputable abbrev c_wsub : Cfg := cfgS (Try.f87).ntmps true [(102, sp_rSub.prim), (73, p_made)]
set_option maxRecDepth 100000 in
theorem w_wsub (y : El sp_wsub.q) (x : Els sp_wsub.ps) : aw c_wsub (iv_wsub y x) (codeOf Try.f87) 0 (retQ c_wsub sp_wsub (Try.f87).results.toList y x) (startT sp_wsub x) (startO sp_wsub y) 1 =
  (∀ (r : El Ty.un × Els [tR, Ty.it IntKind.i64]), r = ((), ((fsub (toFr x.fst) (toFr x.snd.fst)).fst.neg, (fsub (toFr x.fst) (toFr x.snd.fst)).fst.num, (fsub (toFr x.fst) (toFr x.snd.fst)).fst.den, ()), (fsub (toFr x.fst) (toFr x.snd.fst)).snd, ()) → ((if y.fst ≠ (0 : Int) then y.fst else r.snd.snd.fst, ()), (bif decide (y.fst ≠ (0 : Int)) then false else r.snd.fst.fst, bif decide (y.fst ≠ (0 : Int)) then [] else r.snd.fst.snd.fst, bif decide (y.fst ≠ (0 : Int)) then [] else r.snd.fst.snd.snd.fst, ()), ()) = (((wsub y.fst (toFr x.fst) (toFr x.snd.fst)).snd, ()), ((wsub y.fst (toFr x.fst) (toFr x.snd.fst)).fst.neg, (wsub y.fst (toFr x.fst) (toFr x.snd.fst)).fst.num, (wsub y.fst (toFr x.fst) (toFr x.snd.fst)).fst.den, ()), ())) := by kernel_rfl
theorem fo_wsub : FnOk Try.prog 87 sp_wsub := fnOk_of (C := c_wsub) iv_wsub Try.func87 rfl (by kernel_rfl) tys_ok (prims_cons (spec_prim fo_rSub) (prims_cons pr_made prims_nil)) mixed_ (Nat.le_refl _) rfl fun y x h1 h2 h3 h4 => by
  refine Eq.mpr (w_wsub y x) ?_
  rintro _ rfl
  by_cases h : y.1 ≠ 0 <;> simp [wsub, stp, h, Fr.zero]
noncomputable def sp_wmul : Spec := { q := tW, ps := [tR, tR], rs := [tR], fresh := true, pre := fun _ _ => none, post := fun y x => (((wmul y.1 (toFr x.1) (toFr x.2.1)).2, ()), (ofFr (wmul y.1 (toFr x.1) (toFr x.2.1)).1, ())) }
noncomputable def iv_wmul (y : El sp_wmul.q) (x : Els sp_wmul.ps) : Nat → Option Inv := fun _ => none
noncomputable abbrev c_wmul : Cfg := cfgS (Try.f86).ntmps true [(101, sp_rMul.prim), (73, p_made)]
set_option maxRecDepth 100000 in
theorem w_wmul (y : El sp_wmul.q) (x : Els sp_wmul.ps) : aw c_wmul (iv_wmul y x) (codeOf Try.f86) 0 (retQ c_wmul sp_wmul (Try.f86).results.toList y x) (startT sp_wmul x) (startO sp_wmul y) 1 =
  (∀ (r : El Ty.un × Els [tR, Ty.it IntKind.i64]), r = ((), ((fmul (toFr x.fst) (toFr x.snd.fst)).fst.neg, (fmul (toFr x.fst) (toFr x.snd.fst)).fst.num, (fmul (toFr x.fst) (toFr x.snd.fst)).fst.den, ()), (fmul (toFr x.fst) (toFr x.snd.fst)).snd, ()) → ((if y.fst ≠ (0 : Int) then y.fst else r.snd.snd.fst, ()), (bif decide (y.fst ≠ (0 : Int)) then false else r.snd.fst.fst, bif decide (y.fst ≠ (0 : Int)) then [] else r.snd.fst.snd.fst, bif decide (y.fst ≠ (0 : Int)) then [] else r.snd.fst.snd.snd.fst, ()), ()) = (((wmul y.fst (toFr x.fst) (toFr x.snd.fst)).snd, ()), ((wmul y.fst (toFr x.fst) (toFr x.snd.fst)).fst.neg, (wmul y.fst (toFr x.fst) (toFr x.snd.fst)).fst.num, (wmul y.fst (toFr x.fst) (toFr x.snd.fst)).fst.den, ()), ())) := by kernel_rfl
theorem fo_wmul : FnOk Try.prog 86 sp_wmul := fnOk_of (C := c_wmul) iv_wmul Try.func86 rfl (by kernel_rfl) tys_ok (prims_cons (spec_prim fo_rMul) (prims_cons pr_made prims_nil)) mixed_ (Nat.le_refl _) rfl fun y x h1 h2 h3 h4 => by
  refine Eq.mpr (w_wmul y x) ?_
  rintro _ rfl
  by_cases h : y.1 ≠ 0 <;> simp [wmul, stp, h, Fr.zero]
def gchks (e : Int) (l : List (El tG)) : Int := l.foldl (fun e g => chks e [g.1, g.2.1]) e
theorem gchks_succ (e : Int) (l : List (El tG)) (i : Nat) (h : i < l.length) : gchks e (l.take (i + 1)) = chks (gchks e (l.take i)) [(l.getD i (dfl tG)).1, (l.getD i (dfl tG)).2.1] := by
  unfold gchks
  rw [List.take_add_one, List.getElem?_eq_getElem h, Option.toList_some, List.foldl_append, List.getD_eq_getElem?_getD, List.getElem?_eq_getElem h]
  rfl
noncomputable def sp_asked : Spec := { q := .un, ps := [.sl tG], rs := [.pt tW], fresh := true, pre := fun _ _ => none, post := fun _ x => ((), ((gchks 0 x.1, ()), ())) }
noncomputable def iv_asked (y : El sp_asked.q) (x : Els sp_asked.ps) : Nat → Option Inv := fun k => if k = 0 then some { X := Nat, tm := fun i => [(3, .c (.pv 1 0)), (7, .c (.sl tG x.1)), (8, .c (.sc (.int .i64 x.1.length))), (9, .c (.sc (.int .i64 i)))], ob := fun i => [(1, .var [.sc (.int .i64 (gchks 0 (x.1.take i)))])], n := 2, I := fun i => i ≤ x.1.length, μ := fun i => x.1.length - i } else none
noncomputable abbrev c_asked : Cfg := cfgS (Try.f44).ntmps false [(72, sp_wcheck.prim)]
set_option maxRecDepth 100000 in
theorem w_asked (y : El sp_asked.q) (x : Els sp_asked.ps) : aw c_asked (iv_asked y x) (codeOf Try.f44) 0 (retQ c_asked sp_asked (Try.f44).results.toList y x) (startT sp_asked x) (startO sp_asked y) 1 =
  ((∃ (x_1 : Nat), x.fst = x.fst ∧ (↑(List.length x.fst) : Int) = (↑(List.length x.fst) : Int) ∧ (↑x_1 : Int) = (0 : Int) ∧ gchks (0 : Int) (List.take x_1 x.fst) = (0 : Int) ∧ x_1.le (List.length x.fst)) ∧ ∀ (x_1 : Nat), x_1.le (List.length x.fst) → (decide ((↑x_1 : Int) < (↑(List.length x.fst) : Int)) = true → ((0 : Int) ≤ (↑x_1 : Int) ∧ (↑x_1 : Int) < (↑(List.length x.fst) : Int)) ∧ ∀ (r : El tW × Els []), r = ((chks (gchks (0 : Int) (List.take x_1 x.fst)) [(List.getD x.fst (↑x_1 : Int).toNat (dfl tG)).fst, (List.getD x.fst (↑x_1 : Int).toNat (dfl tG)).snd.fst], ()), ()) → ((-9223372036854775808 : Int) ≤ (↑x_1 : Int) + (1 : Int) ∧ (↑x_1 : Int) + (1 : Int) ≤ (9223372036854775807 : Int)) ∧ ∃ (x' : Nat), x.fst = x.fst ∧ (↑(List.length x.fst) : Int) = (↑(List.length x.fst) : Int) ∧ (↑x' : Int) = (↑x_1 : Int) + (1 : Int) ∧ gchks (0 : Int) (List.take x' x.fst) = r.fst.fst ∧ x'.le (List.length x.fst) ∧ List.length x.fst - x' < List.length x.fst - x_1) ∧ (decide ((↑x_1 : Int) < (↑(List.length x.fst) : Int)) = false → ((gchks (0 : Int) (List.take x_1 x.fst), ()), ()) = ((gchks (0 : Int) x.fst, ()), ()))) := by kernel_rfl
theorem fo_asked : FnOk Try.prog 44 sp_asked := fnOk_of (C := c_asked) iv_asked Try.func44 rfl (by kernel_rfl) tys_ok (prims_cons (spec_prim fo_wcheck) prims_nil) mixed_ (Nat.le_refl _) rfl fun y x h1 h2 h3 h4 => by
  refine Eq.mpr (w_asked y x) ?_
  have hl : x.1.length ≤ 9223372036854775807 := h3.1.1
  refine ⟨⟨0, rfl, rfl, rfl, rfl, Nat.zero_le _⟩, fun i hi => ⟨fun h => ?_, fun h => ?_⟩⟩
  · have h := of_decide_eq_true h
    have hi' : i < x.1.length := by omega
    refine ⟨⟨by omega, h⟩, fun r hr => ⟨by omega, i + 1, rfl, rfl, rfl, ?_, hi', by omega⟩⟩
    rw [gchks_succ _ _ _ hi', hr]; rfl
  · have h := of_decide_eq_false h
    rw [List.take_of_length_le (by omega)]
end Go.Proofs.Ytifonmdcicegdaa

namespace Go.Proofs.Ytifonmdcicegdaa
open Go Go.RowKit

theorem chks2 (e : Int) (r i : El tR) : chks e [r, i] = if e ≠ 0 then e else fchk2 (toFr r) (toFr i) := by
  show (if (if e ≠ 0 then e else fchk (toFr r)) ≠ 0 then (if e ≠ 0 then e else fchk (toFr r)) else fchk (toFr i)) = _
  by_cases h : e ≠ 0
  · simp [h]
  · rw [if_neg h, if_neg h]; rfl
theorem gchks1 (a : El tG) : gchks 0 [a] = gchk (toGa a) := (chks2 0 a.1 a.2.1).trans (if_neg (by simp))
theorem gchks2 (a b : El tG) : gchks 0 [a, b] = gchk2 (toGa a) (toGa b) := by
  show chks (gchks 0 [a]) [b.1, b.2.1] = _
  rw [gchks1, chks2]
  rfl
noncomputable def sp_gCheck : Spec := { q := .un, ps := [tG], rs := [.it .i64], fresh := true, pre := fun _ _ => none, post := fun _ x => ((), (gchk (toGa x.1), ())) }
noncomputable def iv_gCheck (y : El sp_gCheck.q) (x : Els sp_gCheck.ps) : Nat → Option Inv := fun _ => none
noncomputable abbrev c_gCheck : Cfg := cfgS (Try.f62).ntmps false [(44, sp_asked.prim)]
set_option maxRecDepth 100000 in
theorem w_gCheck (y : El sp_gCheck.q) (x : Els sp_gCheck.ps) : aw c_gCheck (iv_gCheck y x) (codeOf Try.f62) 0 (retQ c_gCheck sp_gCheck (Try.f62).results.toList y x) (startT sp_gCheck x) (startO sp_gCheck y) 1 =
  (∀ (r : El Ty.un × Els [tW.pt]), r = ((), (gchks (0 : Int) [x.fst], ()), ()) → r.snd.fst = (gchk (toGa x.fst), ())) := by kernel_rfl
theorem m_gCheck (y : El (.un)) (x : Els [tG]) (h2 : wfE (.un) y) (h3 : wfEs [tG] x) :
  (∀ (r : El Ty.un × Els [tW.pt]), r = ((), (gchks (0 : Int) [x.fst], ()), ()) → r.snd.fst = (gchk (toGa x.fst), ())) := by
  rintro _ rfl
  exact congrArg (fun e => (e, ())) (gchks1 x.1)
set_option maxRecDepth 100000 in
theorem fo_gCheck : FnOk Try.prog 62 sp_gCheck := fnOk_of (C := c_gCheck) iv_gCheck Try.func62 rfl (by kernel_rfl) tys_ok (prims_cons (spec_prim fo_asked) prims_nil) mixed_ (Nat.le_refl _) rfl fun y x h1 h2 h3 h4 =>
  Eq.mpr (w_gCheck y x) (m_gCheck y x h2 h3)
noncomputable def sp_gSame : Spec := { q := .un, ps := [tG, tG], rs := [.bo], fresh := true, pre := fun _ _ => none, post := fun _ x => ((), (gsame (toGa x.1) (toGa x.2.1), ())) }
noncomputable def iv_gSame (y : El sp_gSame.q) (x : Els sp_gSame.ps) : Nat → Option Inv := fun _ => none
noncomputable abbrev c_gSame : Cfg := cfgS (Try.f20).ntmps false [(44, sp_asked.prim), (12, sp_rSame.prim)]
set_option maxRecDepth 100000 in
theorem w_gSame (y : El sp_gSame.q) (x : Els sp_gSame.ps) : aw c_gSame (iv_gSame y x) (codeOf Try.f20) 0 (retQ c_gSame sp_gSame (Try.f20).results.toList y x) (startT sp_gSame x) (startO sp_gSame y) 1 =
  (∀ (r : El Ty.un × Els [tW.pt]), r = ((), (gchks (0 : Int) [x.fst, x.snd.fst], ()), ()) → ((r.snd.fst.fst == (0 : Int)) = true → ∀ (r : El Ty.un × Els [Ty.bo]), r = ((), decide (toFr x.fst.fst = toFr x.snd.fst.fst), ()) → (r.snd.fst = true → ∀ (r : El Ty.un × Els [Ty.bo]), r = ((), decide (toFr x.fst.snd.fst = toFr x.snd.fst.snd.fst), ()) → r.snd = (gsame (toGa x.fst) (toGa x.snd.fst), ())) ∧ (r.snd.fst = false → (false, ()) = (gsame (toGa x.fst) (toGa x.snd.fst), ()))) ∧ ((r.snd.fst.fst == (0 : Int)) = false → (false, ()) = (gsame (toGa x.fst) (toGa x.snd.fst), ()))) := by kernel_rfl
theorem m_gSame (y : El (.un)) (x : Els [tG, tG]) (h2 : wfE (.un) y) (h3 : wfEs [tG, tG] x) :
  (∀ (r : El Ty.un × Els [tW.pt]), r = ((), (gchks (0 : Int) [x.fst, x.snd.fst], ()), ()) → ((r.snd.fst.fst == (0 : Int)) = true → ∀ (r : El Ty.un × Els [Ty.bo]), r = ((), decide (toFr x.fst.fst = toFr x.snd.fst.fst), ()) → (r.snd.fst = true → ∀ (r : El Ty.un × Els [Ty.bo]), r = ((), decide (toFr x.fst.snd.fst = toFr x.snd.fst.snd.fst), ()) → r.snd = (gsame (toGa x.fst) (toGa x.snd.fst), ())) ∧ (r.snd.fst = false → (false, ()) = (gsame (toGa x.fst) (toGa x.snd.fst), ()))) ∧ ((r.snd.fst.fst == (0 : Int)) = false → (false, ()) = (gsame (toGa x.fst) (toGa x.snd.fst), ()))) := by
  rintro _ rfl
  have e : gchks 0 [x.1, x.2.1] = gchk2 (toGa x.1) (toGa x.2.1) := gchks2 _ _
  simp only [e]
  refine ⟨fun h => ?_, fun h => ?_⟩
  · rintro _ rfl
    refine ⟨fun k => ?_, fun k => ?_⟩
    · rintro _ rfl
      simp_all [gsame]
    · simp_all [gsame]
  · simp_all [gsame]
set_option maxRecDepth 100000 in
theorem fo_gSame : FnOk Try.prog 20 sp_gSame := fnOk_of (C := c_gSame) iv_gSame Try.func20 rfl (by kernel_rfl) tys_ok (prims_cons (spec_prim fo_asked) (prims_cons (spec_prim fo_rSame) prims_nil)) mixed_ (Nat.le_refl _) rfl fun y x h1 h2 h3 h4 =>
  Eq.mpr (w_gSame y x) (m_gSame y x h2 h3)
noncomputable def sp_gAdd : Spec := spG2 gadd
noncomputable def iv_gAdd (y : El sp_gAdd.q) (x : Els sp_gAdd.ps) : Nat → Option Inv := fun _ => none
noncomputable abbrev c_gAdd : Cfg := cfgS (Try.f19).ntmps false [(44, sp_asked.prim), (45, sp_wadd.prim), (46, p_told)]
set_option maxRecDepth 100000 in
theorem w_gAdd (y : El sp_gAdd.q) (x : Els sp_gAdd.ps) : aw c_gAdd (iv_gAdd y x) (codeOf Try.f19) 0 (retQ c_gAdd sp_gAdd (Try.f19).results.toList y x) (startT sp_gAdd x) (startO sp_gAdd y) 1 =
  (∀ (r : El Ty.un × Els [tW.pt]), r = ((), (gchks (0 : Int) [x.fst, x.snd.fst], ()), ()) → ∀ (r_1 : El tW × Els [tR]), r_1 = (((wadd r.snd.fst.fst (toFr x.fst.fst) (toFr x.snd.fst.fst)).snd, ()), ((wadd r.snd.fst.fst (toFr x.fst.fst) (toFr x.snd.fst.fst)).fst.neg, (wadd r.snd.fst.fst (toFr x.fst.fst) (toFr x.snd.fst.fst)).fst.num, (wadd r.snd.fst.fst (toFr x.fst.fst) (toFr x.snd.fst.fst)).fst.den, ()), ()) → ∀ (r : El tW × Els [tR]), r = (((wadd r_1.fst.fst (toFr x.fst.snd.fst) (toFr x.snd.fst.snd.fst)).snd, ()), ((wadd r_1.fst.fst (toFr x.fst.snd.fst) (toFr x.snd.fst.snd.fst)).fst.neg, (wadd r_1.fst.fst (toFr x.fst.snd.fst) (toFr x.snd.fst.snd.fst)).fst.num, (wadd r_1.fst.fst (toFr x.fst.snd.fst) (toFr x.snd.fst.snd.fst)).fst.den, ()), ()) → (((bif decide (r.fst.fst ≠ (0 : Int)) then false else r_1.snd.fst.fst, bif decide (r.fst.fst ≠ (0 : Int)) then [] else r_1.snd.fst.snd.fst, bif decide (r.fst.fst ≠ (0 : Int)) then [] else r_1.snd.fst.snd.snd.fst, ()), (bif decide (r.fst.fst ≠ (0 : Int)) then false else r.snd.fst.fst, bif decide (r.fst.fst ≠ (0 : Int)) then [] else r.snd.fst.snd.fst, bif decide (r.fst.fst ≠ (0 : Int)) then [] else r.snd.fst.snd.snd.fst, ()), ()), r.fst) = ((((gadd (toGa x.fst) (toGa x.snd.fst)).fst.re.neg, (gadd (toGa x.fst) (toGa x.snd.fst)).fst.re.num, (gadd (toGa x.fst) (toGa x.snd.fst)).fst.re.den, ()), ((gadd (toGa x.fst) (toGa x.snd.fst)).fst.im.neg, (gadd (toGa x.fst) (toGa x.snd.fst)).fst.im.num, (gadd (toGa x.fst) (toGa x.snd.fst)).fst.im.den, ()), ()), (gadd (toGa x.fst) (toGa x.snd.fst)).snd, ())) := by kernel_rfl
theorem m_gAdd (y : El (.un)) (x : Els [tG, tG]) (h2 : wfE (.un) y) (h3 : wfEs [tG, tG] x) :
  (∀ (r : El Ty.un × Els [tW.pt]), r = ((), (gchks (0 : Int) [x.fst, x.snd.fst], ()), ()) → ∀ (r_1 : El tW × Els [tR]), r_1 = (((wadd r.snd.fst.fst (toFr x.fst.fst) (toFr x.snd.fst.fst)).snd, ()), ((wadd r.snd.fst.fst (toFr x.fst.fst) (toFr x.snd.fst.fst)).fst.neg, (wadd r.snd.fst.fst (toFr x.fst.fst) (toFr x.snd.fst.fst)).fst.num, (wadd r.snd.fst.fst (toFr x.fst.fst) (toFr x.snd.fst.fst)).fst.den, ()), ()) → ∀ (r : El tW × Els [tR]), r = (((wadd r_1.fst.fst (toFr x.fst.snd.fst) (toFr x.snd.fst.snd.fst)).snd, ()), ((wadd r_1.fst.fst (toFr x.fst.snd.fst) (toFr x.snd.fst.snd.fst)).fst.neg, (wadd r_1.fst.fst (toFr x.fst.snd.fst) (toFr x.snd.fst.snd.fst)).fst.num, (wadd r_1.fst.fst (toFr x.fst.snd.fst) (toFr x.snd.fst.snd.fst)).fst.den, ()), ()) → (((bif decide (r.fst.fst ≠ (0 : Int)) then false else r_1.snd.fst.fst, bif decide (r.fst.fst ≠ (0 : Int)) then [] else r_1.snd.fst.snd.fst, bif decide (r.fst.fst ≠ (0 : Int)) then [] else r_1.snd.fst.snd.snd.fst, ()), (bif decide (r.fst.fst ≠ (0 : Int)) then false else r.snd.fst.fst, bif decide (r.fst.fst ≠ (0 : Int)) then [] else r.snd.fst.snd.fst, bif decide (r.fst.fst ≠ (0 : Int)) then [] else r.snd.fst.snd.snd.fst, ()), ()), r.fst) = ((((gadd (toGa x.fst) (toGa x.snd.fst)).fst.re.neg, (gadd (toGa x.fst) (toGa x.snd.fst)).fst.re.num, (gadd (toGa x.fst) (toGa x.snd.fst)).fst.re.den, ()), ((gadd (toGa x.fst) (toGa x.snd.fst)).fst.im.neg, (gadd (toGa x.fst) (toGa x.snd.fst)).fst.im.num, (gadd (toGa x.fst) (toGa x.snd.fst)).fst.im.den, ()), ()), (gadd (toGa x.fst) (toGa x.snd.fst)).snd, ())) := by
  rintro _ rfl _ rfl _ rfl
  have e : gchks 0 [x.1, x.2.1] = gchk2 (toGa x.1) (toGa x.2.1) := gchks2 _ _
  simp only [e, gadd, gtell]
  split <;> simp_all [Ga.zero, Fr.zero]
set_option maxRecDepth 100000 in
theorem fo_gAdd : FnOk Try.prog 19 sp_gAdd := fnOk_of (C := c_gAdd) iv_gAdd Try.func19 rfl (by kernel_rfl) tys_ok (prims_cons (spec_prim fo_asked) (prims_cons (spec_prim fo_wadd) (prims_cons pr_told prims_nil))) mixed_ (Nat.le_refl _) rfl fun y x h1 h2 h3 h4 =>
  Eq.mpr (w_gAdd y x) (m_gAdd y x h2 h3)
noncomputable def sp_product : Spec := { q := tW, ps := [tG, tG], rs := [tR, tR], fresh := true, pre := fun _ _ => none, post := fun y x => (((wprod y.1 (toGa x.1) (toGa x.2.1)).2.2, ()), (ofFr (wprod y.1 (toGa x.1) (toGa x.2.1)).1, ofFr (wprod y.1 (toGa x.1) (toGa x.2.1)).2.1, ())) }
noncomputable def iv_product (y : El sp_product.q) (x : Els sp_product.ps) : Nat → Option Inv := fun _ => none
noncomputable abbrev c_product : Cfg := cfgS (Try.f66).ntmps true [(86, sp_wmul.prim), (87, sp_wsub.prim), (45, sp_wadd.prim)]
set_option maxRecDepth 100000 in
theorem w_product (y : El sp_product.q) (x : Els sp_product.ps) : aw c_product (iv_product y x) (codeOf Try.f66) 0 (retQ c_product sp_product (Try.f66).results.toList y x) (startT sp_product x) (startO sp_product y) 1 =
  (∀ (r : El tW × Els [tR]), r = (((wmul y.fst (toFr x.fst.fst) (toFr x.snd.fst.fst)).snd, ()), ((wmul y.fst (toFr x.fst.fst) (toFr x.snd.fst.fst)).fst.neg, (wmul y.fst (toFr x.fst.fst) (toFr x.snd.fst.fst)).fst.num, (wmul y.fst (toFr x.fst.fst) (toFr x.snd.fst.fst)).fst.den, ()), ()) → ∀ (r_1 : El tW × Els [tR]), r_1 = (((wmul r.fst.fst (toFr x.fst.snd.fst) (toFr x.snd.fst.snd.fst)).snd, ()), ((wmul r.fst.fst (toFr x.fst.snd.fst) (toFr x.snd.fst.snd.fst)).fst.neg, (wmul r.fst.fst (toFr x.fst.snd.fst) (toFr x.snd.fst.snd.fst)).fst.num, (wmul r.fst.fst (toFr x.fst.snd.fst) (toFr x.snd.fst.snd.fst)).fst.den, ()), ()) → ∀ (r_2 : El tW × Els [tR]), r_2 = (((wsub r_1.fst.fst (toFr r.snd.fst) (toFr r_1.snd.fst)).snd, ()), ((wsub r_1.fst.fst (toFr r.snd.fst) (toFr r_1.snd.fst)).fst.neg, (wsub r_1.fst.fst (toFr r.snd.fst) (toFr r_1.snd.fst)).fst.num, (wsub r_1.fst.fst (toFr r.snd.fst) (toFr r_1.snd.fst)).fst.den, ()), ()) → ∀ (r : El tW × Els [tR]), r = (((wmul r_2.fst.fst (toFr x.fst.fst) (toFr x.snd.fst.snd.fst)).snd, ()), ((wmul r_2.fst.fst (toFr x.fst.fst) (toFr x.snd.fst.snd.fst)).fst.neg, (wmul r_2.fst.fst (toFr x.fst.fst) (toFr x.snd.fst.snd.fst)).fst.num, (wmul r_2.fst.fst (toFr x.fst.fst) (toFr x.snd.fst.snd.fst)).fst.den, ()), ()) → ∀ (r_3 : El tW × Els [tR]), r_3 = (((wmul r.fst.fst (toFr x.fst.snd.fst) (toFr x.snd.fst.fst)).snd, ()), ((wmul r.fst.fst (toFr x.fst.snd.fst) (toFr x.snd.fst.fst)).fst.neg, (wmul r.fst.fst (toFr x.fst.snd.fst) (toFr x.snd.fst.fst)).fst.num, (wmul r.fst.fst (toFr x.fst.snd.fst) (toFr x.snd.fst.fst)).fst.den, ()), ()) → ∀ (r_4 : El tW × Els [tR]), r_4 = (((wadd r_3.fst.fst (toFr r.snd.fst) (toFr r_3.snd.fst)).snd, ()), ((wadd r_3.fst.fst (toFr r.snd.fst) (toFr r_3.snd.fst)).fst.neg, (wadd r_3.fst.fst (toFr r.snd.fst) (toFr r_3.snd.fst)).fst.num, (wadd r_3.fst.fst (toFr r.snd.fst) (toFr r_3.snd.fst)).fst.den, ()), ()) → (r_4.fst, r_2.snd.fst, r_4.snd) = (((wprod y.fst (toGa x.fst) (toGa x.snd.fst)).snd.snd, ()), ((wprod y.fst (toGa x.fst) (toGa x.snd.fst)).fst.neg, (wprod y.fst (toGa x.fst) (toGa x.snd.fst)).fst.num, (wprod y.fst (toGa x.fst) (toGa x.snd.fst)).fst.den, ()), ((wprod y.fst (toGa x.fst) (toGa x.snd.fst)).snd.fst.neg, (wprod y.fst (toGa x.fst) (toGa x.snd.fst)).snd.fst.num, (wprod y.fst (toGa x.fst) (toGa x.snd.fst)).snd.fst.den, ()), ())) := by kernel_rfl
theorem m_product (y : El (tW)) (x : Els [tG, tG]) (h2 : wfE (tW) y) (h3 : wfEs [tG, tG] x) :
  (∀ (r : El tW × Els [tR]), r = (((wmul y.fst (toFr x.fst.fst) (toFr x.snd.fst.fst)).snd, ()), ((wmul y.fst (toFr x.fst.fst) (toFr x.snd.fst.fst)).fst.neg, (wmul y.fst (toFr x.fst.fst) (toFr x.snd.fst.fst)).fst.num, (wmul y.fst (toFr x.fst.fst) (toFr x.snd.fst.fst)).fst.den, ()), ()) → ∀ (r_1 : El tW × Els [tR]), r_1 = (((wmul r.fst.fst (toFr x.fst.snd.fst) (toFr x.snd.fst.snd.fst)).snd, ()), ((wmul r.fst.fst (toFr x.fst.snd.fst) (toFr x.snd.fst.snd.fst)).fst.neg, (wmul r.fst.fst (toFr x.fst.snd.fst) (toFr x.snd.fst.snd.fst)).fst.num, (wmul r.fst.fst (toFr x.fst.snd.fst) (toFr x.snd.fst.snd.fst)).fst.den, ()), ()) → ∀ (r_2 : El tW × Els [tR]), r_2 = (((wsub r_1.fst.fst (toFr r.snd.fst) (toFr r_1.snd.fst)).snd, ()), ((wsub r_1.fst.fst (toFr r.snd.fst) (toFr r_1.snd.fst)).fst.neg, (wsub r_1.fst.fst (toFr r.snd.fst) (toFr r_1.snd.fst)).fst.num, (wsub r_1.fst.fst (toFr r.snd.fst) (toFr r_1.snd.fst)).fst.den, ()), ()) → ∀ (r : El tW × Els [tR]), r = (((wmul r_2.fst.fst (toFr x.fst.fst) (toFr x.snd.fst.snd.fst)).snd, ()), ((wmul r_2.fst.fst (toFr x.fst.fst) (toFr x.snd.fst.snd.fst)).fst.neg, (wmul r_2.fst.fst (toFr x.fst.fst) (toFr x.snd.fst.snd.fst)).fst.num, (wmul r_2.fst.fst (toFr x.fst.fst) (toFr x.snd.fst.snd.fst)).fst.den, ()), ()) → ∀ (r_3 : El tW × Els [tR]), r_3 = (((wmul r.fst.fst (toFr x.fst.snd.fst) (toFr x.snd.fst.fst)).snd, ()), ((wmul r.fst.fst (toFr x.fst.snd.fst) (toFr x.snd.fst.fst)).fst.neg, (wmul r.fst.fst (toFr x.fst.snd.fst) (toFr x.snd.fst.fst)).fst.num, (wmul r.fst.fst (toFr x.fst.snd.fst) (toFr x.snd.fst.fst)).fst.den, ()), ()) → ∀ (r_4 : El tW × Els [tR]), r_4 = (((wadd r_3.fst.fst (toFr r.snd.fst) (toFr r_3.snd.fst)).snd, ()), ((wadd r_3.fst.fst (toFr r.snd.fst) (toFr r_3.snd.fst)).fst.neg, (wadd r_3.fst.fst (toFr r.snd.fst) (toFr r_3.snd.fst)).fst.num, (wadd r_3.fst.fst (toFr r.snd.fst) (toFr r_3.snd.fst)).fst.den, ()), ()) → (r_4.fst, r_2.snd.fst, r_4.snd) = (((wprod y.fst (toGa x.fst) (toGa x.snd.fst)).snd.snd, ()), ((wprod y.fst (toGa x.fst) (toGa x.snd.fst)).fst.neg, (wprod y.fst (toGa x.fst) (toGa x.snd.fst)).fst.num, (wprod y.fst (toGa x.fst) (toGa x.snd.fst)).fst.den, ()), ((wprod y.fst (toGa x.fst) (toGa x.snd.fst)).snd.fst.neg, (wprod y.fst (toGa x.fst) (toGa x.snd.fst)).snd.fst.num, (wprod y.fst (toGa x.fst) (toGa x.snd.fst)).snd.fst.den, ()), ())) := by
  rintro _ rfl _ rfl _ rfl _ rfl _ rfl _ rfl
  rfl
set_option maxRecDepth 100000 in
theorem fo_product : FnOk Try.prog 66 sp_product := fnOk_of (C := c_product) iv_product Try.func66 rfl (by kernel_rfl) tys_ok (prims_cons (spec_prim fo_wmul) (prims_cons (spec_prim fo_wsub) (prims_cons (spec_prim fo_wadd) prims_nil))) mixed_ (Nat.le_refl _) rfl fun y x h1 h2 h3 h4 =>
  Eq.mpr (w_product y x) (m_product y x h2 h3)
noncomputable def sp_gMul : Spec := spG2 gmul
noncomputable def iv_gMul (y : El sp_gMul.q) (x : Els sp_gMul.ps) : Nat → Option Inv := fun _ => none
noncomputable abbrev c_gMul : Cfg := cfgS (Try.f39).ntmps false [(44, sp_asked.prim), (66, sp_product.prim), (46, p_told)]
set_option maxRecDepth 100000 in
theorem w_gMul (y : El sp_gMul.q) (x : Els sp_gMul.ps) : aw c_gMul (iv_gMul y x) (codeOf Try.f39) 0 (retQ c_gMul sp_gMul (Try.f39).results.toList y x) (startT sp_gMul x) (startO sp_gMul y) 1 =
  (∀ (r : El Ty.un × Els [tW.pt]), r = ((), (gchks (0 : Int) [x.fst, x.snd.fst], ()), ()) → ∀ (r_1 : El tW × Els [tR, tR]), r_1 = (((wprod r.snd.fst.fst (toGa x.fst) (toGa x.snd.fst)).snd.snd, ()), ((wprod r.snd.fst.fst (toGa x.fst) (toGa x.snd.fst)).fst.neg, (wprod r.snd.fst.fst (toGa x.fst) (toGa x.snd.fst)).fst.num, (wprod r.snd.fst.fst (toGa x.fst) (toGa x.snd.fst)).fst.den, ()), ((wprod r.snd.fst.fst (toGa x.fst) (toGa x.snd.fst)).snd.fst.neg, (wprod r.snd.fst.fst (toGa x.fst) (toGa x.snd.fst)).snd.fst.num, (wprod r.snd.fst.fst (toGa x.fst) (toGa x.snd.fst)).snd.fst.den, ()), ()) → (((bif decide (r_1.fst.fst ≠ (0 : Int)) then false else r_1.snd.fst.fst, bif decide (r_1.fst.fst ≠ (0 : Int)) then [] else r_1.snd.fst.snd.fst, bif decide (r_1.fst.fst ≠ (0 : Int)) then [] else r_1.snd.fst.snd.snd.fst, ()), (bif decide (r_1.fst.fst ≠ (0 : Int)) then false else r_1.snd.snd.fst.fst, bif decide (r_1.fst.fst ≠ (0 : Int)) then [] else r_1.snd.snd.fst.snd.fst, bif decide (r_1.fst.fst ≠ (0 : Int)) then [] else r_1.snd.snd.fst.snd.snd.fst, ()), ()), r_1.fst) = ((((gmul (toGa x.fst) (toGa x.snd.fst)).fst.re.neg, (gmul (toGa x.fst) (toGa x.snd.fst)).fst.re.num, (gmul (toGa x.fst) (toGa x.snd.fst)).fst.re.den, ()), ((gmul (toGa x.fst) (toGa x.snd.fst)).fst.im.neg, (gmul (toGa x.fst) (toGa x.snd.fst)).fst.im.num, (gmul (toGa x.fst) (toGa x.snd.fst)).fst.im.den, ()), ()), (gmul (toGa x.fst) (toGa x.snd.fst)).snd, ())) := by kernel_rfl
theorem m_gMul (y : El (.un)) (x : Els [tG, tG]) (h2 : wfE (.un) y) (h3 : wfEs [tG, tG] x) :
  (∀ (r : El Ty.un × Els [tW.pt]), r = ((), (gchks (0 : Int) [x.fst, x.snd.fst], ()), ()) → ∀ (r_1 : El tW × Els [tR, tR]), r_1 = (((wprod r.snd.fst.fst (toGa x.fst) (toGa x.snd.fst)).snd.snd, ()), ((wprod r.snd.fst.fst (toGa x.fst) (toGa x.snd.fst)).fst.neg, (wprod r.snd.fst.fst (toGa x.fst) (toGa x.snd.fst)).fst.num, (wprod r.snd.fst.fst (toGa x.fst) (toGa x.snd.fst)).fst.den, ()), ((wprod r.snd.fst.fst (toGa x.fst) (toGa x.snd.fst)).snd.fst.neg, (wprod r.snd.fst.fst (toGa x.fst) (toGa x.snd.fst)).snd.fst.num, (wprod r.snd.fst.fst (toGa x.fst) (toGa x.snd.fst)).snd.fst.den, ()), ()) → (((bif decide (r_1.fst.fst ≠ (0 : Int)) then false else r_1.snd.fst.fst, bif decide (r_1.fst.fst ≠ (0 : Int)) then [] else r_1.snd.fst.snd.fst, bif decide (r_1.fst.fst ≠ (0 : Int)) then [] else r_1.snd.fst.snd.snd.fst, ()), (bif decide (r_1.fst.fst ≠ (0 : Int)) then false else r_1.snd.snd.fst.fst, bif decide (r_1.fst.fst ≠ (0 : Int)) then [] else r_1.snd.snd.fst.snd.fst, bif decide (r_1.fst.fst ≠ (0 : Int)) then [] else r_1.snd.snd.fst.snd.snd.fst, ()), ()), r_1.fst) = ((((gmul (toGa x.fst) (toGa x.snd.fst)).fst.re.neg, (gmul (toGa x.fst) (toGa x.snd.fst)).fst.re.num, (gmul (toGa x.fst) (toGa x.snd.fst)).fst.re.den, ()), ((gmul (toGa x.fst) (toGa x.snd.fst)).fst.im.neg, (gmul (toGa x.fst) (toGa x.snd.fst)).fst.im.num, (gmul (toGa x.fst) (toGa x.snd.fst)).fst.im.den, ()), ()), (gmul (toGa x.fst) (toGa x.snd.fst)).snd, ())) := by
  rintro _ rfl _ rfl
  have e : gchks 0 [x.1, x.2.1] = gchk2 (toGa x.1) (toGa x.2.1) := gchks2 _ _
  simp only [e, gmul, gtell]
  split <;> simp_all [Ga.zero, Fr.zero]
set_option maxRecDepth 100000 in
theorem fo_gMul : FnOk Try.prog 39 sp_gMul := fnOk_of (C := c_gMul) iv_gMul Try.func39 rfl (by kernel_rfl) tys_ok (prims_cons (spec_prim fo_asked) (prims_cons (spec_prim fo_product) (prims_cons pr_told prims_nil))) mixed_ (Nat.le_refl _) rfl fun y x h1 h2 h3 h4 =>
  Eq.mpr (w_gMul y x) (m_gMul y x h2 h3)
noncomputable def sp_gInt : Spec := { q := .un, ps := [.it .i64, .it .i64], rs := [tG], fresh := true, pre := fun _ _ => none, post := fun _ x => ((), (ofGa ⟨(fsmall x.1 1).1, (fsmall x.2.1 1).1⟩, ())) }
noncomputable def iv_gInt (y : El sp_gInt.q) (x : Els sp_gInt.ps) : Nat → Option Inv := fun _ => none
noncomputable abbrev c_gInt : Cfg := cfgS (Try.f18).ntmps false [(43, sp_rSmall.prim)]
set_option maxRecDepth 100000 in
theorem w_gInt (y : El sp_gInt.q) (x : Els sp_gInt.ps) : aw c_gInt (iv_gInt y x) (codeOf Try.f18) 0 (retQ c_gInt sp_gInt (Try.f18).results.toList y x) (startT sp_gInt x) (startO sp_gInt y) 1 =
  (∀ (r : El Ty.un × Els [tR, Ty.it IntKind.i64]), r = ((), ((fsmall x.fst (1 : Int)).fst.neg, (fsmall x.fst (1 : Int)).fst.num, (fsmall x.fst (1 : Int)).fst.den, ()), (fsmall x.fst (1 : Int)).snd, ()) → ∀ (r_1 : El Ty.un × Els [tR, Ty.it IntKind.i64]), r_1 = ((), ((fsmall x.snd.fst (1 : Int)).fst.neg, (fsmall x.snd.fst (1 : Int)).fst.num, (fsmall x.snd.fst (1 : Int)).fst.den, ()), (fsmall x.snd.fst (1 : Int)).snd, ()) → ((r.snd.fst, r_1.snd.fst, ()), ()) = ((((fsmall x.fst (1 : Int)).fst.neg, (fsmall x.fst (1 : Int)).fst.num, (fsmall x.fst (1 : Int)).fst.den, ()), ((fsmall x.snd.fst (1 : Int)).fst.neg, (fsmall x.snd.fst (1 : Int)).fst.num, (fsmall x.snd.fst (1 : Int)).fst.den, ()), ()), ())) := by kernel_rfl
theorem m_gInt (y : El (.un)) (x : Els [.it .i64, .it .i64]) (h2 : wfE (.un) y) (h3 : wfEs [.it .i64, .it .i64] x) :
  (∀ (r : El Ty.un × Els [tR, Ty.it IntKind.i64]), r = ((), ((fsmall x.fst (1 : Int)).fst.neg, (fsmall x.fst (1 : Int)).fst.num, (fsmall x.fst (1 : Int)).fst.den, ()), (fsmall x.fst (1 : Int)).snd, ()) → ∀ (r_1 : El Ty.un × Els [tR, Ty.it IntKind.i64]), r_1 = ((), ((fsmall x.snd.fst (1 : Int)).fst.neg, (fsmall x.snd.fst (1 : Int)).fst.num, (fsmall x.snd.fst (1 : Int)).fst.den, ()), (fsmall x.snd.fst (1 : Int)).snd, ()) → ((r.snd.fst, r_1.snd.fst, ()), ()) = ((((fsmall x.fst (1 : Int)).fst.neg, (fsmall x.fst (1 : Int)).fst.num, (fsmall x.fst (1 : Int)).fst.den, ()), ((fsmall x.snd.fst (1 : Int)).fst.neg, (fsmall x.snd.fst (1 : Int)).fst.num, (fsmall x.snd.fst (1 : Int)).fst.den, ()), ()), ())) := by
  rintro _ rfl _ rfl
  rfl
set_option maxRecDepth 100000 in
theorem fo_gInt : FnOk Try.prog 18 sp_gInt := fnOk_of (C := c_gInt) iv_gInt Try.func18 rfl (by kernel_rfl) tys_ok (prims_cons (spec_prim fo_rSmall) prims_nil) mixed_ (Nat.le_refl _) rfl fun y x h1 h2 h3 h4 =>
  Eq.mpr (w_gInt y x) (m_gInt y x h2 h3)
end Go.Proofs.Ytifonmdcicegdaa

namespace Go.Proofs.Ytifonmdcicegdaa
open Go Go.RowKit

theorem fsmall_nought_ : fsmall 0 1 = (enc 0, 0) := by
  unfold fsmall
  rw [if_neg (by decide), show (0 : Int).natAbs = 0 from rfl, sg_zero, show mkRat 0 (Int.natAbs 1) = 0 from rfl]
  exact tell_ok (lng_of (by rw [show (0 : Rat).num.natAbs = 0 from rfl, wd_zero]; decide) (by rw [show (0 : Rat).den = 1 from rfl, wd_one]; decide))
end Go.Proofs.Ytifonmdcicegdaa

namespace Go.Proofs.Ytifonmdcicegdaa
open Go Go.RowKit

theorem ne_ {e : Int} (h : (e != 0) = true) : e ≠ 0 := by simpa using h
theorem eq_ {e : Int} (h : (e != 0) = false) : e = 0 := by simpa using h
end Go.Proofs.Ytifonmdcicegdaa

namespace Go.Proofs.Ytifonmdcicegdaa
open Go Go.RowKit

noncomputable def sp_kSameWords : Spec := { q := .un, ps := [tW32, tW32], rs := [.bo], fresh := true, pre := fun _ _ => none, post := fun _ x => ((), (decide (x.1 = x.2.1), ())) }
noncomputable def iv_kSameWords (y : El sp_kSameWords.q) (x : Els sp_kSameWords.ps) : Nat → Option Inv := fun k => if k = 0 then some { X := Nat, tm := fun i => [(0, .c (.sl (.it .u32) x.1)), (1, .c (.sl (.it .u32) x.2.1)), (5, .c (.sc (.int .i64 i)))], ob := fun _ => [], n := 1, I := fun i => i ≤ x.1.length ∧ x.1.length = x.2.1.length ∧ x.1.take i = x.2.1.take i, μ := fun i => x.1.length - i } else none
noncomputable abbrev c_kSameWords : Cfg := cfgS (Try.f58).ntmps false []
set_option maxRecDepth 100000 in
theorem w_kSameWords (y : El sp_kSameWords.q) (x : Els sp_kSameWords.ps) : aw c_kSameWords (iv_kSameWords y x) (codeOf Try.f58) 0 (retQ c_kSameWords sp_kSameWords (Try.f58).results.toList y x) (startT sp_kSameWords x) (startO sp_kSameWords y) 1 =
  ((((↑(List.length x.fst) : Int) != (↑(List.length x.snd.fst) : Int)) = true → (false, ()) = (decide (x.fst = x.snd.fst), ())) ∧ (((↑(List.length x.fst) : Int) != (↑(List.length x.snd.fst) : Int)) = false → (∃ (x_1 : Nat), x.fst = x.fst ∧ x.snd.fst = x.snd.fst ∧ (↑x_1 : Int) = (0 : Int) ∧ x_1 ≤ List.length x.fst ∧ List.length x.fst = List.length x.snd.fst ∧ List.take x_1 x.fst = List.take x_1 x.snd.fst) ∧ ∀ (x_1 : Nat), x_1 ≤ List.length x.fst ∧ List.length x.fst = List.length x.snd.fst ∧ List.take x_1 x.fst = List.take x_1 x.snd.fst → (decide ((↑x_1 : Int) < (↑(List.length x.fst) : Int)) = true → ((0 : Int) ≤ (↑x_1 : Int) ∧ (↑x_1 : Int) < (↑(List.length x.fst) : Int)) ∧ ((0 : Int) ≤ (↑x_1 : Int) ∧ (↑x_1 : Int) < (↑(List.length x.snd.fst) : Int)) ∧ ((List.getD x.fst (↑x_1 : Int).toNat (dfl (Ty.it IntKind.u32)) != List.getD x.snd.fst (↑x_1 : Int).toNat (dfl (Ty.it IntKind.u32))) = true → (false, ()) = (decide (x.fst = x.snd.fst), ())) ∧ ((List.getD x.fst (↑x_1 : Int).toNat (dfl (Ty.it IntKind.u32)) != List.getD x.snd.fst (↑x_1 : Int).toNat (dfl (Ty.it IntKind.u32))) = false → ((-9223372036854775808 : Int) ≤ (↑x_1 : Int) + (1 : Int) ∧ (↑x_1 : Int) + (1 : Int) ≤ (9223372036854775807 : Int)) ∧ ∃ (x' : Nat), x.fst = x.fst ∧ x.snd.fst = x.snd.fst ∧ (↑x' : Int) = (↑x_1 : Int) + (1 : Int) ∧ (x' ≤ List.length x.fst ∧ List.length x.fst = List.length x.snd.fst ∧ List.take x' x.fst = List.take x' x.snd.fst) ∧ List.length x.fst - x' < List.length x.fst - x_1)) ∧ (decide ((↑x_1 : Int) < (↑(List.length x.fst) : Int)) = false → (true, ()) = (decide (x.fst = x.snd.fst), ())))) := by kernel_rfl
theorem m_kSameWords (y : El (.un)) (x : Els [tW32, tW32]) (h2 : wfE (.un) y) (h3 : wfEs [tW32, tW32] x) :
  ((((↑(List.length x.fst) : Int) != (↑(List.length x.snd.fst) : Int)) = true → (false, ()) = (decide (x.fst = x.snd.fst), ())) ∧ (((↑(List.length x.fst) : Int) != (↑(List.length x.snd.fst) : Int)) = false → (∃ (x_1 : Nat), x.fst = x.fst ∧ x.snd.fst = x.snd.fst ∧ (↑x_1 : Int) = (0 : Int) ∧ x_1 ≤ List.length x.fst ∧ List.length x.fst = List.length x.snd.fst ∧ List.take x_1 x.fst = List.take x_1 x.snd.fst) ∧ ∀ (x_1 : Nat), x_1 ≤ List.length x.fst ∧ List.length x.fst = List.length x.snd.fst ∧ List.take x_1 x.fst = List.take x_1 x.snd.fst → (decide ((↑x_1 : Int) < (↑(List.length x.fst) : Int)) = true → ((0 : Int) ≤ (↑x_1 : Int) ∧ (↑x_1 : Int) < (↑(List.length x.fst) : Int)) ∧ ((0 : Int) ≤ (↑x_1 : Int) ∧ (↑x_1 : Int) < (↑(List.length x.snd.fst) : Int)) ∧ ((List.getD x.fst (↑x_1 : Int).toNat (dfl (Ty.it IntKind.u32)) != List.getD x.snd.fst (↑x_1 : Int).toNat (dfl (Ty.it IntKind.u32))) = true → (false, ()) = (decide (x.fst = x.snd.fst), ())) ∧ ((List.getD x.fst (↑x_1 : Int).toNat (dfl (Ty.it IntKind.u32)) != List.getD x.snd.fst (↑x_1 : Int).toNat (dfl (Ty.it IntKind.u32))) = false → ((-9223372036854775808 : Int) ≤ (↑x_1 : Int) + (1 : Int) ∧ (↑x_1 : Int) + (1 : Int) ≤ (9223372036854775807 : Int)) ∧ ∃ (x' : Nat), x.fst = x.fst ∧ x.snd.fst = x.snd.fst ∧ (↑x' : Int) = (↑x_1 : Int) + (1 : Int) ∧ (x' ≤ List.length x.fst ∧ List.length x.fst = List.length x.snd.fst ∧ List.take x' x.fst = List.take x' x.snd.fst) ∧ List.length x.fst - x' < List.length x.fst - x_1)) ∧ (decide ((↑x_1 : Int) < (↑(List.length x.fst) : Int)) = false → (true, ()) = (decide (x.fst = x.snd.fst), ())))) := by
  have hL : x.1.length ≤ 9223372036854775807 := h3.1.1
  refine ⟨fun h => ?_, fun h => ⟨⟨0, rfl, rfl, rfl, Nat.zero_le _, by simpa [Int.ofNat_inj] using h, rfl⟩, fun i hi => ⟨fun hl => ?_, fun hl => ?_⟩⟩⟩
  · have : x.1 ≠ x.2.1 := fun e => by rw [e] at h; simp at h
    rw [decide_eq_false this]
  · obtain ⟨h0, h1, h2⟩ := hi
    have hl := of_decide_eq_true hl
    have a1 : i < x.1.length := by omega
    have a2 : i < x.2.1.length := by omega
    have g1 : x.1.getD ((i : Int)).toNat (dfl (Ty.it IntKind.u32)) = x.1[i] := by
      rw [Int.toNat_natCast, List.getD_eq_getElem?_getD, List.getElem?_eq_getElem a1]; rfl
    have g2 : x.2.1.getD ((i : Int)).toNat (dfl (Ty.it IntKind.u32)) = x.2.1[i] := by
      rw [Int.toNat_natCast, List.getD_eq_getElem?_getD, List.getElem?_eq_getElem a2]; rfl
    rw [g1, g2]
    refine ⟨⟨by omega, hl⟩, ⟨by omega, by omega⟩, fun k => ?_, fun k => ⟨by omega, i + 1, rfl, rfl, rfl, ⟨a1, h1, ?_⟩, by omega⟩⟩
    · have k := bne_iff_ne.1 k
      have : x.1 ≠ x.2.1 := fun e => k (by congr 1)
      rw [decide_eq_false this]
    · have k : x.1[i] = x.2.1[i] := by simpa using k
      rw [List.take_add_one, List.take_add_one, h2, List.getElem?_eq_getElem a1, List.getElem?_eq_getElem a2, k]
  · obtain ⟨h0, h1, h2⟩ := hi
    have hl := of_decide_eq_false hl
    rw [List.take_of_length_le (by omega), List.take_of_length_le (by omega)] at h2
    rw [decide_eq_true h2]
set_option maxRecDepth 100000 in
theorem fo_kSameWords : FnOk Try.prog 58 sp_kSameWords := fnOk_of (C := c_kSameWords) iv_kSameWords Try.func58 rfl (by kernel_rfl) tys_ok prims_nil mixed_ (Nat.le_refl _) rfl fun y x h1 h2 h3 h4 =>
  Eq.mpr (w_kSameWords y x) (m_kSameWords y x h2 h3)
noncomputable def sp_kSameRatio : Spec := { q := .un, ps := [tR, tR], rs := [.bo], fresh := true, pre := fun _ _ => none, post := fun _ x => ((), (decide (toFr x.1 = toFr x.2.1), ())) }
noncomputable def iv_kSameRatio (y : El sp_kSameRatio.q) (x : Els sp_kSameRatio.ps) : Nat → Option Inv := fun _ => none
noncomputable abbrev c_kSameRatio : Cfg := cfgS (Try.f30).ntmps false [(58, sp_kSameWords.prim)]
set_option maxRecDepth 100000 in
theorem w_kSameRatio (y : El sp_kSameRatio.q) (x : Els sp_kSameRatio.ps) : aw c_kSameRatio (iv_kSameRatio y x) (codeOf Try.f30) 0 (retQ c_kSameRatio sp_kSameRatio (Try.f30).results.toList y x) (startT sp_kSameRatio x) (startO sp_kSameRatio y) 1 =
  (((x.fst.fst == x.snd.fst.fst) = true → ∀ (r : El Ty.un × Els [Ty.bo]), r = ((), decide (x.fst.snd.fst = x.snd.fst.snd.fst), ()) → (r.snd.fst = true → ∀ (r : El Ty.un × Els [Ty.bo]), r = ((), decide (x.fst.snd.snd.fst = x.snd.fst.snd.snd.fst), ()) → r.snd = (decide (toFr x.fst = toFr x.snd.fst), ())) ∧ (r.snd.fst = false → (false, ()) = (decide (toFr x.fst = toFr x.snd.fst), ()))) ∧ ((x.fst.fst == x.snd.fst.fst) = false → (false, ()) = (decide (toFr x.fst = toFr x.snd.fst), ()))) := by kernel_rfl
theorem m_kSameRatio (y : El (.un)) (x : Els [tR, tR]) (h2 : wfE (.un) y) (h3 : wfEs [tR, tR] x) :
  (((x.fst.fst == x.snd.fst.fst) = true → ∀ (r : El Ty.un × Els [Ty.bo]), r = ((), decide (x.fst.snd.fst = x.snd.fst.snd.fst), ()) → (r.snd.fst = true → ∀ (r : El Ty.un × Els [Ty.bo]), r = ((), decide (x.fst.snd.snd.fst = x.snd.fst.snd.snd.fst), ()) → r.snd = (decide (toFr x.fst = toFr x.snd.fst), ())) ∧ (r.snd.fst = false → (false, ()) = (decide (toFr x.fst = toFr x.snd.fst), ()))) ∧ ((x.fst.fst == x.snd.fst.fst) = false → (false, ()) = (decide (toFr x.fst = toFr x.snd.fst), ()))) := by
  obtain ⟨⟨s, a, b, _⟩, ⟨t, c, d, _⟩, _⟩ := x
  refine ⟨fun h => ?_, fun h => ?_⟩
  · rintro _ rfl
    refine ⟨fun k => ?_, fun k => ?_⟩
    · rintro _ rfl
      have hs : s = t := by simpa using h
      have hk : a = c := by simpa using k
      subst hs
      subst hk
      simp [toFr]
    · have k : a ≠ c := by simpa using k
      simp [toFr, k]
  · have h : s ≠ t := by simpa using h
    simp [toFr, h]
set_option maxRecDepth 100000 in
theorem fo_kSameRatio : FnOk Try.prog 30 sp_kSameRatio := fnOk_of (C := c_kSameRatio) iv_kSameRatio Try.func30 rfl (by kernel_rfl) tys_ok (prims_cons (spec_prim fo_kSameWords) prims_nil) mixed_ (Nat.le_refl _) rfl fun y x h1 h2 h3 h4 =>
  Eq.mpr (w_kSameRatio y x) (m_kSameRatio y x h2 h3)
end Go.Proofs.Ytifonmdcicegdaa

namespace Go.Proofs.Ytifonmdcicegdaa
open Go Go.RowKit

section
variable {gp : Option Nat} {Z0 : Nat → Prop} {w0 w w' : World} {D : Nat → Prop} {c : Cf} {T : Nat → Option AV} {O : Store} {a : Act} {N : Nat}
end
end Go.Proofs.Ytifonmdcicegdaa

namespace Go.Proofs.Ytifonmdcicegdaa
open Go Go.RowKit

section
variable {wb w0 w w' : World} {row : Option Nat} {V : List (Nat × List Value)} {R : List (Adr × Fr)}

end

end Go.Proofs.Ytifonmdcicegdaa

namespace Go.Proofs.Ytifonmdcicegdaa
open Go Go.RowKit

end Go.Proofs.Ytifonmdcicegdaa

namespace Go.Proofs.Ytifonmdcicegdaa
open Go Go.RowKit

end Go.Proofs.Ytifonmdcicegdaa

namespace Go.Proofs.Ytifonmdcicegdaa
open Go Go.RowKit

end Go.Proofs.Ytifonmdcicegdaa

namespace Go.Proofs.Ytifonmdcicegdaa
open Go Go.RowKit

end Go.Proofs.Ytifonmdcicegdaa

namespace Go.Proofs.Ytifonmdcicegdaa
open Go Go.RowKit

/-- rows picked out of a state's -/
def pick {α : Type} (R : List α) : List Nat → List α
  | [] => []
  | i :: I => match R[i]? with
    | some x => x :: pick R I
    | none => pick R I
section
variable {wb w0 w w' : World} {row : Option Nat} {V : List (Nat × List Value)} {R : List (Adr × Fr)}
end
section
variable {wb w0 w w' : World} {row : Option Nat} {V : List (Nat × List Value)} {R : List (Adr × Fr)}
end
end Go.Proofs.Ytifonmdcicegdaa

namespace Go.Proofs.Ytifonmdcicegdaa
open Go Go.RowKit

end Go.Proofs.Ytifonmdcicegdaa

namespace Go.Proofs.Ytifonmdcicegdaa
open Go Go.RowKit

end Go.Proofs.Ytifonmdcicegdaa

namespace Go.Proofs.Ytifonmdcicegdaa
open Go Go.RowKit

section
variable {gp : Option Nat} {Z0 : Nat → Prop} {w0 w w' : World} {D : Nat → Prop} {c : Cf} {T : Nat → Option AV} {O : Store} {a : Act} {N : Nat}
end
/-- the world's first blocks alone -/
def cut (w : World) (n : Nat) : World := { w with heap := w.heap.extract 0 n }
end Go.Proofs.Ytifonmdcicegdaa

