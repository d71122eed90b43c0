/- Texts of this claim, joined: B1 B2 B3 A25 U1 U2 B4 B5 B6 B7 B8 B9 A26 Y2 U3 Y4 B10 Y5 Y7 U15 B12 A27 A30 A31 A32 A33 A29 B19 R14 G21 B26 R2 R3 R15 E1 B11 B13 B14. -/
import Derived.RegionTactic
import Derived.ChangeAlike
import Derived.OneCell
import Derived.Deep.AppendLies
import Derived.Deep.RegionHeldLaw
import Derived.Test.YtemlaompalbgiaaGreatDoorQm
set_option linter.unusedVariables false
set_option linter.unusedSimpArgs false
set_option maxRecDepth 100000
namespace Go.Proofs.YtemlaompalbgiaaGreatDoor
open Go Go.RowKit
abbrev toFr (x : El tR) : Fr := ⟨x.1, x.2.1, x.2.2.1⟩
abbrev ofFr (x : Fr) : El tR := (x.neg, x.num, x.den, ())
abbrev toGa (x : El tG) : Ga := ⟨toFr x.1, toFr x.2.1⟩
abbrev ofGa (x : Ga) : El tG := (ofFr x.re, ofFr x.im, ())
def Er (e : Int) : Prop := 0 ≤ e ∧ e ≤ 1000
theorem adr_add (g o j : Nat) : (⟨g, o, none⟩ : Addr).add j = ⟨g, o + j, none⟩ := by
  unfold Addr.add
  split
  · rename_i h; subst h; rfl
  · rfl
theorem rd_of {Z : Nat → Prop} {w : World} {l : List Int} {vs : List Value} (h : RT Z w tW32 l vs) : ∃ A c, vs = [.slice A l.length c] ∧ Rd w A c l ∧ Wf l := by
  have hw := h.wf32
  rw [RT] at h
  obtain ⟨A, c, h1, h2, h3, h4, h5⟩ := h
  refine ⟨A, c, h1, ⟨h2, h3, h4, fun j hj => ?_⟩, hw⟩
  obtain ⟨g, o, us, e1, _, e3, e4⟩ := h5 j hj
  rw [RT] at e3
  refine ⟨_, e1, ?_⟩
  rw [e3.1] at e4
  have := e4 0 _ rfl
  rw [nth_lt l j hj, adr_add]
  simpa [Ty.size] using this
theorem rv_fr {Z : Nat → Prop} {w : World} {x : El tR} {v : Value} (h : RV Z w tR x v) : ∃ p : Adr, v = .agg #[.bool (toFr x).neg, .slice p.A (toFr x).num.length p.c, .slice p.B (toFr x).den.length p.d] ∧ RF w p (toFr x) := by
  unfold RV at h
  rw [if_pos (show tR.agg = true from rfl)] at h
  obtain ⟨us, rfl, h⟩ := h
  obtain ⟨u1, u2, e, h1, h2⟩ : ∃ u u', us.toList = u ++ u' ∧ RT Z w .bo x.1 u ∧ RT Z w (.pr tW32 (.pr tW32 .un)) x.2 u' := by rw [RT] at h; exact h
  obtain ⟨u3, u4, rfl, h3, h4⟩ : ∃ u u', u2 = u ++ u' ∧ RT Z w tW32 x.2.1 u ∧ RT Z w (.pr tW32 .un) x.2.2 u' := by rw [RT] at h2; exact h2
  obtain ⟨u5, u6, rfl, h5, h6⟩ : ∃ u u', u4 = u ++ u' ∧ RT Z w tW32 x.2.2.1 u ∧ RT Z w .un x.2.2.2 u' := by rw [RT] at h4; exact h4
  have h1 : u1 = [.bool x.1] := by rw [RT] at h1; exact h1
  have h6 : u6 = [] := by rw [RT] at h6; exact h6
  subst h1 h6
  obtain ⟨A, c, rfl, r1, w1⟩ := rd_of h3
  obtain ⟨B, d, rfl, r2, w2⟩ := rd_of h5
  refine ⟨⟨A, c, B, d⟩, ?_, r1, r2, w1, w2⟩
  congr 1
  apply Array.ext'
  rw [e]; rfl
def blkA : Option Addr → List Nat
  | none => []
  | some a => [a.block]
theorem rowQ_words {Z : Nat → Prop} {w : World} {base : Nat} {g c : Nat} {cur : Array Value} {xs : List Int} {m n : Nat} (hb : base ≤ g) (h2 : w.heap[g]? = some (.cells cur 91 (0, 0))) (h5 : cur.size = c) (h3 : xs.length + (mks m (.it .u32)).length ≤ c) (h4 : c ≤ maxI) (hw : Wf xs)
    (hc : ∀ (j : Nat) (h : j < xs.length), w.cell? ⟨g, j, none⟩ = some (.int .u32 (xs[j]'h))) (hm : MK w 1 (mks m (.it .u32)) g xs.length) : rowQ w base (.it .u32) (fun x us b => RQ true Z w base (.it .u32) x us b) xs (mks m (.it .u32)) n [.slice (some ⟨g, 0, none⟩) n c] [g] := by
  have := rowQ_of_ty (Z := Z) (Z' := Z) (w := w) (base := base) (t := .it .u32) (l := xs) (m := m) (g := g) (e := ⟨some g, n, c, []⟩) (vs := cur) rfl rfl hb rfl h2 (by rw [h5]; exact (Nat.mul_one c).symm) h3 h4 (fun j hj => ⟨[.int .u32 (xs[j]'hj)], ?_, fun i u hu => ?_⟩) (by rw [show xs.length * (Ty.it IntKind.u32).size = xs.length from Nat.mul_one _]; exact hm)
  · exact this
  · rw [RT]
    obtain ⟨e1, e2⟩ := hw _ (List.getElem_mem hj)
    exact ⟨rfl, e1, Int.le_of_lt_add_one e2⟩
  · cases i with
    | zero =>
      cases hu
      rw [show 0 + (j * (Ty.it IntKind.u32).size + 0) = j by show 0 + (j * 1 + 0) = j; omega]
      exact hc j hj
    | succ i => simp at hu
theorem rq_own {Z : Nat → Prop} {w : World} {base : Nat} {A : Option Addr} {c : Nat} {xs : List Int} (h : Own w base A c xs) (hw : Wf xs) : RQ true Z w base tW32 xs [.slice A xs.length c] (blkA A) := by
  unfold RQ
  rw [if_pos rfl]
  rcases h.cases with ⟨rfl, rfl, rfl⟩ | ⟨g, cur, rfl, h1, h2, h3, h4, h5, h6⟩
  · exact .inl ⟨rfl, rfl, rfl⟩
  · refine .inr (rowQ_words (m := 0) h1 h2 h5 h3 h4 hw (fun j hj => ?_) (fun j us hj => by simp [mks] at hj))
    obtain ⟨a, ha, hc⟩ := h.rd.at_ j hj
    cases ha
    rw [nth_lt xs j hj, adr_add] at hc
    simpa using hc
theorem rq_fr {Z : Nat → Prop} {w : World} {base : Nat} {p : Adr} {f : Fr} (h : OF w base p f) : RQ true Z w base tR (ofFr f) [.bool f.neg, .slice p.A f.num.length p.c, .slice p.B f.den.length p.d] (blkA p.A ++ blkA p.B) :=
  ⟨[_], _, [], _, rfl, rfl, ⟨by rw [RT], rfl⟩, [_], [_], _, _, rfl, rfl, rq_own h.num h.wf.num, [_], [], _, [], rfl, (List.append_nil _).symm, rq_own h.den h.wf.den, rfl, rfl⟩
theorem blkA_nodup {p : Adr} (h : ∀ a b, p.A = some a → p.B = some b → a.block ≠ b.block) : (blkA p.A ++ blkA p.B).Nodup := by
  cases hA : p.A <;> cases hB : p.B <;> simp [blkA]
  exact h _ _ hA hB
theorem blkA_base {w : World} {base : Nat} {p : Adr} {f : Fr} (h : OF w base p f) : ∀ g ∈ blkA p.A ++ blkA p.B, base ≤ g := fun g hg => by
  rcases List.mem_append.1 hg with hg | hg
  · cases hA : p.A with
    | none => rw [hA] at hg; simp [blkA] at hg
    | some a => rw [hA] at hg; simp [blkA] at hg; have := h.num; rw [hA] at this; rw [hg]; exact this.block.1
  · cases hB : p.B with
    | none => rw [hB] at hg; simp [blkA] at hg
    | some a => rw [hB] at hg; simp [blkA] at hg; have := h.den; rw [hB] at this; rw [hg]; exact this.block.1
theorem rv_int {Z : Nat → Prop} {w : World} {k : IntKind} {x : Int} {v : Value} (h : RV Z w (.it k) x v) : v = .int k x ∧ k.min ≤ x ∧ x ≤ k.max := by
  unfold RV at h
  rw [if_neg (by simp [Ty.agg]), RT] at h
  exact ⟨by simpa using h.1, h.2⟩
theorem rq_err {Z : Nat → Prop} {w : World} {base : Nat} {e : Int} (h : Er e) : RQ true Z w base (.it .i64) e [.int .i64 e] [] := by
  refine ⟨?_, rfl⟩
  rw [RT]
  refine ⟨rfl, ?_, ?_⟩
  · exact Int.le_trans (by decide) h.1
  · exact Int.le_trans h.2 (by decide)
def pR (t : Fr × Int) : El .un × Els [tR, .it .i64] := ((), (ofFr t.1, t.2, ()))
def spI (F : Int → Int → Fr × Int) : Spec := { q := .un, ps := [.it .i64, .it .i64], rs := [tR, .it .i64], fresh := true, pre := fun _ _ => none, post := fun _ x => pR (F x.1 x.2.1) }
def spE1 (F : Fr → Int) : Spec := { q := .un, ps := [tR], rs := [.it .i64], fresh := true, pre := fun _ _ => none, post := fun _ x => ((), (F (toFr x.1), ())) }
theorem told_new {gv : Nat} {S : Spec} {Z : Nat → Prop} {w w' : World} {us : List Value} {bs : List Nat} {r : Els S.rs} {v : Value} (hS : S.ptr = false) (hf : S.fresh = true) (ht : told_ us v) (hZ : ∀ g, Z g → g < w.heap.size) (hr : RQs true Z w' w.heap.size S.rs r us bs) (hn : bs.Nodup) (hb : ∀ g ∈ bs, w.heap.size ≤ g) (x : Below w.heap.size w w') {q : El S.q} :
    ∃ v' us bs Z', Ending.returned v = .returned v' ∧ told_ us v' ∧ RQs S.fresh Z' w' w.heap.size S.rs r us bs ∧ bs.Nodup ∧ (∀ g ∈ bs, ¬ Z' g) ∧
      (∀ g, Z g → Z' g) ∧ (∀ g, Z' g → Z g ∨ w.heap.size ≤ g) ∧ (∀ g, Z' g → g < w'.heap.size) ∧ w.grownBy w' (if S.ptr = true then some gv else none) ∧
      (S.ptr = true → ∃ cells et, w'.heap[gv]? = some (.cells cells et (0, 0)) ∧ RT Z' w' S.q q cells.toList) :=
  ⟨v, us, bs, Z, rfl, ht, by rw [hf]; exact hr, hn, fun g hg hz => absurd (hZ g hz) (by have := hb g hg; omega), fun g h => h, fun g h => .inl h, fun g h => Nat.lt_of_lt_of_le (hZ g h) (Below.size x), by rw [hS]; exact Ext.by_ x none, fun h => by rw [hS] at h; cases h⟩
theorem told_TF {gv : Nat} {S : Spec} {Z : Nat → Prop} {w w' : World} {t : Fr × Int} {e : Ending} (hS : S.ptr = false) (hf : S.fresh = true) (hrs : S.rs = [tR, .it .i64]) (he : Er t.2) (h : TF w t e w') (hZ : ∀ g, Z g → g < w.heap.size) {q : El S.q} {r : Els S.rs} (hr : r = hrs ▸ (ofFr t.1, t.2, ())) :
    ∃ v us bs Z', e = .returned v ∧ told_ us v ∧ RQs S.fresh Z' w' w.heap.size S.rs r us bs ∧ bs.Nodup ∧ (∀ g ∈ bs, ¬ Z' g) ∧
      (∀ g, Z g → Z' g) ∧ (∀ g, Z' g → Z g ∨ w.heap.size ≤ g) ∧ (∀ g, Z' g → g < w'.heap.size) ∧ w.grownBy w' (if S.ptr = true then some gv else none) ∧
      (S.ptr = true → ∃ cells et, w'.heap[gv]? = some (.cells cells et (0, 0)) ∧ RT Z' w' S.q q cells.toList) := by
  obtain ⟨p, rfl, h1, h2⟩ := h
  refine told_new (us := [.agg #[.bool t.1.neg, .slice p.A t.1.num.length p.c, .slice p.B t.1.den.length p.d], .int .i64 t.2]) (bs := blkA p.A ++ blkA p.B) hS hf (.inr ⟨by simp, rfl⟩) hZ ?_ (blkA_nodup h1.ap) (blkA_base h1) h2
  obtain ⟨qq, ps, rs, fresh, pre, post⟩ := S
  cases hrs
  subst hr
  exact ⟨_, [], (List.append_nil _).symm, ⟨_, rfl, rq_fr h1⟩, [], [], rfl, rq_err (base := w.heap.size) he, rfl⟩
section
variable {f : Nat} (hc : ∀ (vs : Array Value) (w : World), (callFunc f vs).run Tryz.prog w = .ok (.enter f vs) w)
include hc
theorem fnOk_I {F : Int → Int → Fr × Int} (he : ∀ a b, Er (F a b).2) (h : ∀ (n d : Int) (w : World), -9223372036854775808 ≤ n → n ≤ 9223372036854775807 → -9223372036854775808 ≤ d → d ≤ 9223372036854775807 → Calls Tryz.prog f #[.int .i64 n, .int .i64 d] w (TF w (F n d))) : FnOk Tryz.prog f (spI F) := by
  refine ⟨hc, fun Z w gv vs y x hZ hv _ _ _ => ?_⟩
  match vs, hv with
  | [u, v], ⟨h1, h2, _⟩ =>
    obtain ⟨rfl, k1, k2⟩ := rv_int h1
    obtain ⟨rfl, l1, l2⟩ := rv_int h2
    exact (h _ _ w k1 k2 l1 l2).mono fun e w' ht => told_TF (S := spI F) rfl rfl rfl (he _ _) ht hZ rfl
theorem fnOk_E1 {F : Fr → Int} (he : ∀ a, Er (F a)) (h : ∀ (a : Fr) (p : Adr) (w : World), RF w p a → Calls Tryz.prog f #[.agg #[.bool a.neg, .slice p.A a.num.length p.c, .slice p.B a.den.length p.d]] w fun e w' => e = .returned (.int .i64 (F a)) ∧ Below w.heap.size w w') : FnOk Tryz.prog f (spE1 F) := by
  refine ⟨hc, fun Z w gv vs y x hZ hv _ _ _ => ?_⟩
  match vs, hv with
  | [u], ⟨h1, _⟩ =>
    obtain ⟨p, rfl, k1⟩ := rv_fr h1
    refine (h _ p w k1).mono fun e w' ⟨e1, e2⟩ => ?_
    subst e1
    exact told_new (S := spE1 F) (r := (F (toFr x.1), ())) (us := [_]) (bs := []) rfl rfl (.inl ⟨_, rfl, rfl⟩) hZ ⟨[], [], rfl, rq_err (base := w.heap.size) (he _), rfl⟩ List.nodup_nil (fun g hg => by simp at hg) e2
end
theorem Er.zero : Er 0 := ⟨by decide, by decide⟩
theorem er_fchk (a : Fr) : Er (fchk a) := by
  unfold fchk
  repeat' split
  all_goals exact ⟨by decide, by decide⟩
theorem er_tell (q : Rat) : Er (tell q).2 := by
  unfold tell
  split
  · exact ⟨by decide, by decide⟩
  · exact Er.zero
theorem er_small (n d : Int) : Er (fsmall n d).2 := by
  unfold fsmall
  split
  · exact ⟨by decide, by decide⟩
  · exact er_tell _
abbrev tW : Ty := .pr (.it .i64) .un
def tysS : List (Nat × (Ty × Nat)) := [(4, (.bo, 0)), (3, (.it .i64, 0)), (91, (.it .u32, 0)), (22, (tW32, 91)),
 (24, (tR, 0)),
 (30, (tG, 0)),
 (31, (.it .i64, 0)),
 (62, (.sl tG, 30)),
 (39, (.sl tR, 24)),
 (127, (tW, 0)),
 (21, (.it .i32, 0)),
 (5, (.it .u8, 0)),
 (35, (tRot, 0)),
 (78, (.sl tRot, 35)),
 (37, (tTide, 0)),
 (25, (.sl tTide, 37)),
 (27, (tPort, 0)),
 (56, (tRule, 0)),
 (58, (tFault, 0)),
 (98, (tWhole, 0)),
 (9, (.st, 0)),
 (211, (.it .u64, 0)),
 (173, (.un, 0)),
  (2, (.it .i64, 0))]
theorem tys_ok : tyB Tryz.prog tysS tysS = true := by kernel_rfl
abbrev cfgS (N : Nat) (hp : Bool) (pr : List (Nat × Prim)) : Cfg := { N, hp, ty := tysS, pr }
def codeOf (f : Func) : Code := match f.body with
  | some c => c
  | none => .skip
theorem mixed_ : Tryz.prog.follows .mixedOrders = true := by kernel_rfl
theorem prims_nil {P : Program} : ∀ f p, look ([] : List (Nat × Prim)) f = some p → PrimOk P f p := fun _ _ h => by cases h
theorem prims_cons {P : Program} {f : Nat} {p : Prim} {l : List (Nat × Prim)} (h : PrimOk P f p) (k : ∀ f p, look l f = some p → PrimOk P f p) : ∀ g q, look ((f, p) :: l) g = some q → PrimOk P g q := fun g q e => by
  unfold look at e
  cases hb : Nat.beq f g with
  | true => rw [hb] at e; cases e; rw [← Nat.eq_of_beq_eq_true hb]; exact h
  | false => rw [hb] at e; exact k g q e
theorem rcheck_rf_ (a : Fr) (p : Adr) (w : World) (ha : RF w p a) : Calls Tryz.prog 58 #[.agg #[.bool a.neg, .slice p.A a.num.length p.c, .slice p.B a.den.length p.d]] w fun e w' => e = .returned (.int .i64 (fchk a)) ∧ Below w.heap.size w w' :=
  rcheck_any a.neg p.A p.B a.num a.den p.c p.d w ha.num ha.den ha.wf.num ha.wf.den
def sp_rCheck : Spec := spE1 fchk
theorem fo_rCheck : FnOk Tryz.prog 58 sp_rCheck := fnOk_E1 (callFunc_enter Tryz.func58 (by kernel_rfl) rfl) er_fchk (fun a p w ha => rcheck_rf_ a p w ha)
def sp_rSmall : Spec := spI fsmall
theorem fo_rSmall : FnOk Tryz.prog 59 sp_rSmall := fnOk_I (callFunc_enter Tryz.func59 (by kernel_rfl) rfl) er_small (fun n d w h0 h1 k0 k1 => rSmall n d w h0 h1 k0 k1)
abbrev Ro (l : List Ty) : Type := El .un × Els l
abbrev aW (C : Cfg) (iv : Nat → Option Inv) (f : Func) (S : Spec) (y : El S.q) (x : Els S.ps) : Prop := aw C iv (codeOf f) 0 (retQ C S f.results.toList y x) (startT S x) (startO S y) 1
def chks (e : Int) (l : List (El tR)) : Int := l.foldl (fun e r => if e ≠ 0 then e else fchk (toFr r)) e
theorem chks_succ (e : Int) (l : List (El tR)) (i : Nat) (h : i < l.length) : chks e (l.take (i + 1)) = if chks e (l.take i) ≠ 0 then chks e (l.take i) else fchk (toFr (l.getD i (dfl tR))) := by
  unfold chks
  rw [List.take_add_one, List.getElem?_eq_getElem h, Option.toList_some, List.foldl_append, List.getD_eq_getElem?_getD, List.getElem?_eq_getElem h]
  rfl
noncomputable def sp_wcheck : Spec := { q := tW, ps := [.sl tR], rs := [], fresh := true, pre := fun _ _ => none, post := fun y x => ((chks y.1 x.1, ()), ()) }
noncomputable def iv_wcheck (y : El sp_wcheck.q) (x : Els sp_wcheck.ps) : Nat → Option Inv := fun k => if k = 0 then some { X := Nat, tm := fun i => [(0, .c (.pv 0 0)), (6, .c (.sl tR x.1)), (7, .c (.sc (.int .i64 x.1.length))), (8, .c (.sc (.int .i64 i)))], ob := fun i => [(0, .var [.sc (.int .i64 (chks y.1 (x.1.take i)))])], n := 1, I := fun i => i ≤ x.1.length, μ := fun i => x.1.length - i } else none
noncomputable abbrev c_wcheck : Cfg := cfgS (Tryz.f171).ntmps true [(58, sp_rCheck.prim)]
theorem w_wcheck (y : El sp_wcheck.q) (x : Els sp_wcheck.ps) : aW c_wcheck (iv_wcheck y x) Tryz.f171 sp_wcheck y x =
  ((∃ (x_1 : Nat), x.1 = x.1 ∧ (x.1.length : Int) = (x.1.length : Int) ∧ (↑x_1 : Int) = (0 : Int) ∧ chks y.1 (List.take x_1 x.1) = y.1 ∧ x_1.le (List.length x.1)) ∧ ∀ (x_1 : Nat), x_1.le (List.length x.1) → (decide ((↑x_1 : Int) < (x.1.length : Int)) = true → ((0 : Int) ≤ (↑x_1 : Int) ∧ (↑x_1 : Int) < (x.1.length : Int)) ∧ ((chks y.1 (List.take x_1 x.1) == (0 : Int)) = true → ∀ (r : Ro [Ty.it IntKind.i64]), r = ((), fchk (toFr (List.getD x.1 (↑x_1 : Int).toNat (dfl tR))), ()) → ((-9223372036854775808 : Int) ≤ (↑x_1 : Int) + (1 : Int) ∧ (↑x_1 : Int) + (1 : Int) ≤ (9223372036854775807 : Int)) ∧ ∃ (x' : Nat), x.1 = x.1 ∧ (x.1.length : Int) = (x.1.length : Int) ∧ (↑x' : Int) = (↑x_1 : Int) + (1 : Int) ∧ chks y.1 (List.take x' x.1) = r.2.1 ∧ x'.le (List.length x.1) ∧ List.length x.1 - x' < List.length x.1 - x_1) ∧ ((chks y.1 (List.take x_1 x.1) == (0 : Int)) = false → ((-9223372036854775808 : Int) ≤ (↑x_1 : Int) + (1 : Int) ∧ (↑x_1 : Int) + (1 : Int) ≤ (9223372036854775807 : Int)) ∧ ∃ (x' : Nat), x.1 = x.1 ∧ (x.1.length : Int) = (x.1.length : Int) ∧ (↑x' : Int) = (↑x_1 : Int) + (1 : Int) ∧ chks y.1 (List.take x' x.1) = chks y.1 (List.take x_1 x.1) ∧ x'.le (List.length x.1) ∧ List.length x.1 - x' < List.length x.1 - x_1)) ∧ (decide ((↑x_1 : Int) < (x.1.length : Int)) = false → ((chks y.1 (List.take x_1 x.1), ()), ()) = ((chks y.1 x.1, ()), ()))) := by kernel_rfl
theorem fo_wcheck : FnOk Tryz.prog 171 sp_wcheck := fnOk_of (C := c_wcheck) iv_wcheck Tryz.func171 rfl (by kernel_rfl) tys_ok (prims_cons (spec_prim fo_rCheck) prims_nil) mixed_ (Nat.le_refl _) rfl fun y x h1 h2 h3 h4 => by
  refine Eq.mpr (w_wcheck y x) ?_
  have hl : x.1.length ≤ 9223372036854775807 := h3.1.1
  refine ⟨⟨0, rfl, rfl, rfl, rfl, Nat.zero_le _⟩, fun i hi => ⟨fun h => ?_, fun h => ?_⟩⟩
  · have h := of_decide_eq_true h
    have hi' : i < x.1.length := by omega
    refine ⟨⟨by omega, h⟩, fun hz r hr => ⟨by omega, i + 1, rfl, rfl, rfl, ?_, hi', by omega⟩, fun hz => ⟨by omega, i + 1, rfl, rfl, rfl, ?_, hi', by omega⟩⟩
    · rw [chks_succ _ _ _ hi', hr, if_neg (by simpa using hz)]; rfl
    · rw [chks_succ _ _ _ hi', if_pos (by simpa using hz)]
  · have h := of_decide_eq_false h
    rw [List.take_of_length_le (by omega)]
section
variable {P : Program} {C : Cfg} {gp : Option Nat} {Z0 Z Z' : Nat → Prop} {w0 : Base} {w w' : World} {D D' : Nat → Prop} {c c' : Cf} {T : Nat → Option AV} {O O' : Store} {a : Act} {o : Oper} {N : Nat}
end
section
variable {P : Program} {C : Cfg} {gp : Option Nat} {Z0 Z Z' : Nat → Prop} {w0 : Base} {w w' : World} {D D' : Nat → Prop} {c c' : Cf} {T : Nat → Option AV} {O O' : Store} {a : Act} {N : Nat}
end
def pG (t : Ga × Int) : El .un × Els [tG, .it .i64] := ((), (ofGa t.1, t.2, ()))
def gchks (e : Int) (l : List (El tG)) : Int := l.foldl (fun e g => chks e [g.1, g.2.1]) e
theorem gchks_succ (e : Int) (l : List (El tG)) (i : Nat) (h : i < l.length) : gchks e (l.take (i + 1)) = chks (gchks e (l.take i)) [(l.getD i (dfl tG)).1, (l.getD i (dfl tG)).2.1] := by
  unfold gchks
  rw [List.take_add_one, List.getElem?_eq_getElem h, Option.toList_some, List.foldl_append, List.getD_eq_getElem?_getD, List.getElem?_eq_getElem h]
  rfl
noncomputable def sp_asked : Spec := { q := .un, ps := [.sl tG], rs := [.pt tW], fresh := true, pre := fun _ _ => none, post := fun _ x => ((), ((gchks 0 x.1, ()), ())) }
noncomputable def iv_asked (y : El sp_asked.q) (x : Els sp_asked.ps) : Nat → Option Inv := fun k => if k = 0 then some { X := Nat, tm := fun i => [(3, .c (.pv 1 0)), (7, .c (.sl tG x.1)), (8, .c (.sc (.int .i64 x.1.length))), (9, .c (.sc (.int .i64 i)))], ob := fun i => [(1, .var [.sc (.int .i64 (gchks 0 (x.1.take i)))])], n := 2, I := fun i => i ≤ x.1.length, μ := fun i => x.1.length - i } else none
noncomputable abbrev c_asked : Cfg := cfgS (Tryz.f93).ntmps false [(171, sp_wcheck.prim)]
theorem w_asked (y : El sp_asked.q) (x : Els sp_asked.ps) : aW c_asked (iv_asked y x) Tryz.f93 sp_asked y x =
  ((∃ (x_1 : Nat), x.1 = x.1 ∧ (x.1.length : Int) = (x.1.length : Int) ∧ (↑x_1 : Int) = (0 : Int) ∧ gchks (0 : Int) (List.take x_1 x.1) = (0 : Int) ∧ x_1.le (List.length x.1)) ∧ ∀ (x_1 : Nat), x_1.le (List.length x.1) → (decide ((↑x_1 : Int) < (x.1.length : Int)) = true → ((0 : Int) ≤ (↑x_1 : Int) ∧ (↑x_1 : Int) < (x.1.length : Int)) ∧ ∀ (r : El tW × Els []), r = ((chks (gchks (0 : Int) (List.take x_1 x.1)) [(List.getD x.1 (↑x_1 : Int).toNat (dfl tG)).1, (List.getD x.1 (↑x_1 : Int).toNat (dfl tG)).2.1], ()), ()) → ((-9223372036854775808 : Int) ≤ (↑x_1 : Int) + (1 : Int) ∧ (↑x_1 : Int) + (1 : Int) ≤ (9223372036854775807 : Int)) ∧ ∃ (x' : Nat), x.1 = x.1 ∧ (x.1.length : Int) = (x.1.length : Int) ∧ (↑x' : Int) = (↑x_1 : Int) + (1 : Int) ∧ gchks (0 : Int) (List.take x' x.1) = r.1.1 ∧ x'.le (List.length x.1) ∧ List.length x.1 - x' < List.length x.1 - x_1) ∧ (decide ((↑x_1 : Int) < (x.1.length : Int)) = false → ((gchks (0 : Int) (List.take x_1 x.1), ()), ()) = ((gchks (0 : Int) x.1, ()), ()))) := by kernel_rfl
theorem fo_asked : FnOk Tryz.prog 93 sp_asked := fnOk_of (C := c_asked) iv_asked Tryz.func93 rfl (by kernel_rfl) tys_ok (prims_cons (spec_prim fo_wcheck) prims_nil) mixed_ (Nat.le_refl _) rfl fun y x h1 h2 h3 h4 => by
  refine Eq.mpr (w_asked y x) ?_
  have hl : x.1.length ≤ 9223372036854775807 := h3.1.1
  refine ⟨⟨0, rfl, rfl, rfl, rfl, Nat.zero_le _⟩, fun i hi => ⟨fun h => ?_, fun h => ?_⟩⟩
  · have h := of_decide_eq_true h
    have hi' : i < x.1.length := by omega
    refine ⟨⟨by omega, h⟩, fun r hr => ⟨by omega, i + 1, rfl, rfl, rfl, ?_, hi', by omega⟩⟩
    rw [gchks_succ _ _ _ hi', hr]; rfl
  · have h := of_decide_eq_false h
    rw [List.take_of_length_le (by omega)]
theorem chks2 (e : Int) (r i : El tR) : chks e [r, i] = if e ≠ 0 then e else fchk2 (toFr r) (toFr i) := by
  show (if (if e ≠ 0 then e else fchk (toFr r)) ≠ 0 then (if e ≠ 0 then e else fchk (toFr r)) else fchk (toFr i)) = _
  by_cases h : e ≠ 0
  · simp [h]
  · rw [if_neg h, if_neg h]; rfl
theorem gchks1 (a : El tG) : gchks 0 [a] = gchk (toGa a) := (chks2 0 a.1 a.2.1).trans (if_neg (by simp))
noncomputable def sp_gCheck : Spec := { q := .un, ps := [tG], rs := [.it .i64], fresh := true, pre := fun _ _ => none, post := fun _ x => ((), (gchk (toGa x.1), ())) }
noncomputable def iv_gCheck (y : El sp_gCheck.q) (x : Els sp_gCheck.ps) : Nat → Option Inv := fun _ => none
noncomputable abbrev c_gCheck : Cfg := cfgS (Tryz.f110).ntmps false [(93, sp_asked.prim)]
theorem w_gCheck (y : El sp_gCheck.q) (x : Els sp_gCheck.ps) : aW c_gCheck (iv_gCheck y x) Tryz.f110 sp_gCheck y x =
  (∀ (r : Ro [tW.pt]), r = ((), (gchks (0 : Int) [x.1], ()), ()) → r.2.1 = (gchk (toGa x.1), ())) := by kernel_rfl
theorem m_gCheck (y : El (.un)) (x : Els [tG]) (h2 : wfE (.un) y) (h3 : wfEs [tG] x) :
  (∀ (r : Ro [tW.pt]), r = ((), (gchks (0 : Int) [x.1], ()), ()) → r.2.1 = (gchk (toGa x.1), ())) := by
  rintro _ rfl
  exact congrArg (fun e => (e, ())) (gchks1 x.1)
theorem fo_gCheck : FnOk Tryz.prog 110 sp_gCheck := fnOk_of (C := c_gCheck) iv_gCheck Tryz.func110 rfl (by kernel_rfl) tys_ok (prims_cons (spec_prim fo_asked) prims_nil) mixed_ (Nat.le_refl _) rfl fun y x h1 h2 h3 h4 =>
  Eq.mpr (w_gCheck y x) (m_gCheck y x h2 h3)
theorem wf_i {l : List Int} (h : wfE tW32 l) : Wf l := fun x hx => ⟨(h.2 x hx).1, Int.lt_of_le_of_lt (h.2 x hx).2 (by decide)⟩
theorem wf_fr {a : El tR} (h : wfE tR a) : (toFr a).Wf := ⟨wf_i h.2.1, wf_i h.2.2.1⟩
theorem ne_ {e : Int} (h : (e != 0) = true) : e ≠ 0 := by simpa using h
theorem eq_ {e : Int} (h : (e != 0) = false) : e = 0 := by simpa using h
section
variable {gp : Option Nat} {Z0 : Nat → Prop} {w0 : Base} {w w' : World} {D : Nat → Prop} {c : Cf} {T : Nat → Option AV} {O : Store} {a : Act} {N : Nat}
end
section
variable {wb w0 w w' : World} {row : Option Nat} {V : List (Nat × List Value)} {R : List (Adr × Fr)}
end
def pick {α : Type} (R : List α) : List Nat → List α
  | [] => []
  | i :: I => match R[i]? with
    | some x => x :: pick R I
    | none => pick R I
section
variable {wb w0 w w' : World} {row : Option Nat} {V : List (Nat × List Value)} {R : List (Adr × Fr)}
end
section
variable {wb w0 w w' : World} {row : Option Nat} {V : List (Nat × List Value)} {R : List (Adr × Fr)}
end
section
variable {gp : Option Nat} {Z0 : Nat → Prop} {w0 : Base} {w w' : World} {D : Nat → Prop} {c : Cf} {T : Nat → Option AV} {O : Store} {a : Act} {N : Nat}
end
def cut (w : World) (n : Nat) : World := { w with heap := w.heap.extract 0 n }
theorem own_rq {Z : Nat → Prop} {w : World} {base : Nat} {xs : List Int} {v : Value} {bs : List Nat} (h : RQ true Z w base tW32 xs [v] bs) : ∃ A c, v = .slice A xs.length c ∧ bs = blkA A ∧ Own w base A c xs ∧ Wf xs := by
  unfold RQ at h
  rw [if_pos rfl] at h
  rcases h with ⟨rfl, h1, rfl⟩ | h
  · cases h1
    exact ⟨none, 0, rfl, rfl, Own.nil _ _, fun x hx => by cases hx⟩
  · obtain ⟨g, cp, cells, h1, rfl, h3, h4, h5, h6, h7, h8, _⟩ := ty_of_rowQ (Z := Z) (m := 0) rfl h
    cases h1
    have hl : xs.length ≤ cp := by simpa [mks] using h6
    have h5 : cells.size = cp := by rw [h5]; exact Nat.mul_one cp
    have el : ∀ (j : Nat) (hj : j < xs.length), (0 ≤ xs[j] ∧ xs[j] ≤ 4294967295) ∧ cells[j]? = some (.int .u32 xs[j]) := fun j hj => by
      obtain ⟨us, k1, k2⟩ := h8 j hj
      rw [RT] at k1
      obtain ⟨rfl, k3⟩ := k1
      refine ⟨k3, ?_⟩
      have := k2 0 _ rfl
      rw [cell_of h4, show 0 + (j * (Ty.it IntKind.u32).size + 0) = j by show 0 + (j * 1 + 0) = j; omega] at this
      exact this
    refine ⟨some ⟨g, 0, none⟩, cp, rfl, rfl, Own.mk h3 h4 hl h7 h5 ?_, fun x hx => ?_⟩
    · apply List.ext_getElem?
      intro j
      unfold nums
      rw [List.getElem?_map]
      by_cases hj : j < xs.length
      · rw [List.getElem?_take, if_pos hj, Array.getElem?_toList, (el j hj).2, List.getElem?_eq_getElem hj]; rfl
      · rw [List.getElem?_eq_none (by rw [List.length_take]; omega), List.getElem?_eq_none (by omega)]; rfl
    · obtain ⟨j, hj, rfl⟩ := List.getElem_of_mem hx
      have := (el j hj).1
      exact ⟨this.1, Int.lt_of_le_of_lt this.2 (by decide)⟩
def p_sure (p : Prim) : Prim := fun az O n => match p az O n with
  | some (c, G) => match G.ef with
    | ⟨.c (.sc (.bool b)), ob, k⟩ => some (some (oc c (b = true)), .e ⟨.c .tt, ob, k⟩)
    | _ => none
  | none => none
theorem Sim.tt {gp : Option Nat} {Z0 : Nat → Prop} {w0 : Base} {w : World} {N : Nat} {d : Option Nat} {D : Nat → Prop} {c : Cf} {T : Nat → Option AV} {O : Store} {tm : Array Value} (h : Sim gp Z0 w0 N D c (upT T d (.c (.sc (.bool true)))) O tm w) : Sim gp Z0 w0 N D c (upT T d (.c .tt)) O tm w := by
  cases d with
  | none => exact h
  | some d =>
    exact { h with
      tmp := fun t v hv => by
        have hv : (bif Nat.beq d t then some (.c .tt) else T t) = some v := hv
        cases e : Nat.beq d t with
        | true =>
          rw [e] at hv
          cases hv
          obtain ⟨u, h1, h2⟩ := h.tmp t (.c (.sc (.bool true))) (by show (bif Nat.beq d t then _ else _) = _; rw [e]; rfl)
          exact ⟨u, h1, h2.1⟩
        | false =>
          rw [e] at hv
          exact h.tmp t v (by show (bif Nat.beq d t then _ else _) = _; rw [e]; exact hv) }
theorem pr_sure {P : Program} {f : Nat} {p : Prim} (hp : PrimOk P f p) : PrimOk P f (p_sure p) := by
  refine ⟨hp.1, fun gp Z0 w0 N D c T O O' a w xs vs n cd G hS hO hl hv hG hD hc => ?_⟩
  unfold p_sure at hG
  cases h1 : p xs O' n with
  | none => rw [h1] at hG; cases hG
  | some q =>
    obtain ⟨c1, G1⟩ := q
    rw [h1] at hG
    dsimp only at hG
    split at hG
    · rename_i b ob k hef
      cases hG
      have hc : oc c1 (b = true) := hc
      have hb : b = true ∧ holds c1 := by
        cases c1 with
        | none => exact ⟨hc, trivial⟩
        | some X => exact ⟨hc.2, hc.1⟩
      obtain ⟨rfl, hc1⟩ := hb
      have := hp.2 gp Z0 w0 N D c T O O' a w xs vs n c1 G1 hS hO hl hv h1 (by rw [hef]; exact hD) hc1
      rw [hef] at this
      refine this.mono ?_
      rintro e w' ⟨v, c', rfl, h2⟩
      exact ⟨v, c', rfl, fun d hd => Sim.tt (h2 d hd)⟩
    · cases hG
def hf : Ob → Ob
  | .dp e t l m => .ty e t l m
  | o => o
section
variable {c c' : Cf} {w : World}
end
section
variable {gp : Option Nat} {Z0 : Nat → Prop} {w0 : Base} {w : World} {N : Nat} {D : Nat → Prop} {c : Cf} {T : Nat → Option AV} {O : Store} {tm : Array Value} {ob : List (Nat × Ob)}
end
structure RowF where
  ks : List IntKind
  pre : List Int → List Int → Prop
  f : List Int → List Int → List Int × Int
  k : Option IntKind
def scOne (k : IntKind) : AV → Option Int
  | .c (.sc (.int k' n)) => if k' = k then some n else none
  | _ => none
def scI : List IntKind → List AV → Option (List Int)
  | [], [] => some []
  | k :: ks, y :: ys => match scOne k y, scI ks ys with
    | some n, some zs => some (n :: zs)
    | _, _ => none
  | _, _ => none
def scV : List IntKind → List Int → List Value
  | k :: ks, n :: ns => .int k n :: scV ks ns
  | _, _ => []
def rowTu (k : Option IntKind) (n : Nat) (r : Int) : AV := match k with
  | none => .c (.ow n)
  | some k => .tu [(false, [.ow n]), (false, [.sc (.int k r)])]
def isTyI (O : Store) (i : Nat) : Bool := match O i with
  | some (.ty _ _ _ _) => true
  | _ => false
def p_row (R : RowF) : Prim := fun xs O n => match xs with
  | .c s :: ys => match frsE O tW32 [s], toR O tW32 [s], scI R.ks ys with
    | some ids, some l, some zs => bif nodupN ids && ids.all (isTyI O) then some (some (R.pre l zs), .g (List Int × Int) (R.f l zs) fun r => ⟨rowTu R.k n r.2, (n, .ty 91 (.it .u32) r.1 0) :: deads ids, 1⟩) else none
    | _, _, _ => none
  | _ => none
def rowVal (k : Option IntKind) (A : Option Addr) (l c : Nat) (r : Int) : Value := match k with
  | none => .slice A l c
  | some k => .tuple #[.slice A l c, .int k r]
def RowOk (P : Program) (f : Nat) (R : RowF) : Prop :=
  (∀ (vs : Array Value) (w : World), (callFunc f vs).run P w = .ok (.enter f vs) w) ∧
  ∀ (base : Nat) (A : Option Addr) (c : Nat) (l zs : List Int) (w : World), base ≤ w.heap.size → Own w base A c l → Wf l → zs.length = R.ks.length → R.pre l zs →
    Calls P f (.slice A l.length c :: scV R.ks zs).toArray w fun e w' => ∃ A' c', e = .returned (rowVal R.k A' (R.f l zs).1.length c' (R.f l zs).2) ∧ Own w' base A' c' (R.f l zs).1 ∧ Wf (R.f l zs).1 ∧ (∀ a, A' = some a → A.map (·.block) = some a.block ∨ w.heap.size ≤ a.block) ∧ w.grownBy w' (A.map (·.block)) ∧ ∀ k, R.k = some k → k.min ≤ (R.f l zs).2 ∧ (R.f l zs).2 ≤ k.max
theorem scOne_sound {c : Cf} {w : World} {k : IntKind} {y : AV} {n : Int} {u : Value} (h : scOne k y = some n) (hv : RA c w u y) : u = .int k n := by
  unfold scOne at h
  split at h
  · split at h
    · rename_i hk
      cases h
      subst hk
      exact hv.1
    · cases h
  · cases h
theorem scI_sound {c : Cf} {w : World} : ∀ {ks : List IntKind} {ys : List AV} {zs : List Int} {us : List Value}, scI ks ys = some zs → us.length = ys.length → (∀ (i : Nat) (v : Value) (x : AV), us[i]? = some v → ys[i]? = some x → RA c w v x) → us = scV ks zs ∧ zs.length = ks.length
  | [], [], zs, us, h, hl, _ => by
    cases h
    exact ⟨List.eq_nil_of_length_eq_zero hl, rfl⟩
  | [], _ :: _, _, _, h, _, _ => by cases h
  | _ :: _, [], _, _, h, _, _ => by cases h
  | k :: ks, y :: ys, zs, [], _, hl, _ => by cases hl
  | k :: ks, y :: ys, zs, u :: us, h, hl, hv => by
    have h : (match scOne k y, scI ks ys with
      | some n, some zs => some (n :: zs)
      | _, _ => none) = some zs := h
    split at h
    · rename_i n zs' h1 h2
      cases h
      obtain ⟨i1, i2⟩ := scI_sound h2 (by simpa using hl) (fun i v x a b => hv (i + 1) v x (by simpa using a) (by simpa using b))
      rw [scOne_sound h1 (hv 0 u y rfl rfl), i1]
      exact ⟨rfl, by rw [List.length_cons, List.length_cons, i2]⟩
    · cases h
theorem row_prim {P : Program} {f : Nat} {R : RowF} (hF : RowOk P f R) : PrimOk P f (p_row R) := by
  refine ⟨hF.1, fun gp Z0 w0 N D c T O O' a w xs vs n cd Gf S hO hl hv h hfr hc => ?_⟩
  unfold p_row at h
  split at h
  · rename_i s ys
    split at h
    · rename_i ids l zs h1 h2 h3
      cases hb : (nodupN ids && ids.all (isTyI O')) with
      | false => rw [hb] at h; cases h
      | true =>
        rw [hb] at h
        cases h
        simp only [Bool.and_eq_true] at hb
        obtain ⟨hnd, hty⟩ := hb
        have hc : R.pre l zs := hc
        have hl0 : vs.toList.length = ys.length + 1 := by simpa using hl
        match hvs : vs.toList, hl0 with
        | v0 :: vt, hl0 =>
          have hv' : ∀ (k : Nat) (v : Value) (z : AV), (v0 :: vt)[k]? = some v → (AV.c s :: ys)[k]? = some z → RA c w v z := fun k v z e1 e2 => hv k v z (by rw [← hvs] at e1; simpa using e1) e2
          obtain ⟨e1, e2⟩ := scI_sound h3 (by simpa using hl0) (fun i v x a b => hv' (i + 1) v x (by simpa using a) (by simpa using b))
          have r0 : RL c w [v0] [s] := RL.one (hv' 0 v0 _ rfl rfl)
          obtain ⟨q1, q2⟩ := frsE_sound S hO h1 h2 r0
          obtain ⟨A, cp, rfl, hbk, hown, hwf⟩ := own_rq q1
          have own : ∀ i ∈ ids, ∃ o, O i = some o ∧ o.live = true ∧ ∀ cs, o ≠ .var cs := fun i hi => by
            obtain ⟨o, o1, o2, _⟩ := q2 i hi
            refine ⟨o, o1, o2, fun cs e => ?_⟩
            subst e
            have := List.all_eq_true.1 hty i hi
            unfold isTyI at this
            split at this
            · rename_i e t l' m hi'
              rw [hO _ _ hi'] at o1
              cases o1
            · cases this
          have hown' : ∀ g, A.map (·.block) = some g → ∃ i q f, O i = some q ∧ q.live = true ∧ (∀ cs, q ≠ .var cs) ∧ c.m i = some f ∧ f.has g ∧ look (deads ids) i = some .dead := fun g hg => by
            have hm : g ∈ blks c ids := by
              rw [hbk]
              cases A with
              | none => cases hg
              | some a0 => cases hg; exact List.mem_singleton.2 rfl
            obtain ⟨i, e, hi, he, hh⟩ := blks_mem hm
            obtain ⟨o, o1, o2, o3⟩ := own i hi
            exact ⟨i, o, e, o1, o2, o3, he, hh, look_deads hi⟩
          have hcn : c.m n = none := by
            cases h : c.m n with
            | none => rfl
            | some f => exact absurd (S.dom n f h) (hfr n (Nat.le_refl _) (Nat.lt_succ_self _))
          have CALL := hF.2 w0.heap.size A cp l zs w S.gr.size hown hwf e2 hc
          rw [show (Value.slice A l.length cp :: scV R.ks zs).toArray = vs by rw [← e1, ← hvs, Array.toArray_toList]] at CALL
          refine CALL.mono ?_
          rintro e w' ⟨A', c', rfl, t1, t2, t3, t4, t5⟩
          have rq : RQ true c.Z w' w0.heap.size tW32 (R.f l zs).1 [.slice A' (R.f l zs).1.length c'] (blkA A') := rq_own t1 t2
          obtain ⟨es, k1, k2, k3⟩ := imE_sound (n := n) rfl (show (blkA A').Nodup by cases A' <;> simp [blkA]) rq
          have k1 : n + 1 = n + es.length := k1
          obtain ⟨en, rfl⟩ : ∃ en, es = [en] := by
            match es, k1 with
            | [en], _ => exact ⟨en, rfl⟩
            | [], k1 => simp at k1
            | _ :: _ :: _, k1 => simp at k1
          have k2 : en.all = blkA A' := by simpa using k2
          obtain ⟨p1, p2⟩ := k3 (c.add n en) (fun k e hk => by
            match k, hk with
            | 0, hk => cases hk; exact Cf.add_at _ _ _
            | k + 1, hk => simp at hk) (fun g h => h)
          have p1 : RL (c.add n en) w' [.slice A' (R.f l zs).1.length c'] [.ow n] := p1
          obtain ⟨v', hv'', hra⟩ := p1.single
          have hok : ObOk (c.add n en) w' n (.ty 91 (.it .u32) (R.f l zs).1 0) := (p2 (n, .ty 91 (.it .u32) (R.f l zs).1 0) List.mem_cons_self).2.2
          refine ⟨_, c.add n en, rfl, fun d hd => ?_⟩
          refine app_simG S hd hcn t4 ?_ (fun i q h => ?_) (fun g hg => hown' g hg) (fun g hg => ?_) hok
          · cases hv''
            show RA (c.add n en) w' (rowVal R.k A' (R.f l zs).1.length c' (R.f l zs).2) (rowTu R.k n (R.f l zs).2)
            cases hk : R.k with
            | none => exact hra
            | some k =>
              refine ⟨_, rfl, rfl, fun i v p e1 e2 => ?_⟩
              match i, e1, e2 with
              | 0, e1, e2 =>
                cases e1
                cases e2
                unfold RP
                rw [if_neg (by simp)]
                exact ⟨_, rfl, hra⟩
              | 1, e1, e2 =>
                cases e1
                cases e2
                unfold RP
                rw [if_neg (by simp)]
                exact ⟨_, rfl, rfl, t5 k hk⟩
              | i + 2, e1, _ => simp at e1
          · obtain ⟨rfl, hi⟩ := deads_look h
            obtain ⟨o, o1, _, o3⟩ := own i hi
            exact ⟨rfl, o, o1, o3⟩
          · have hg : g ∈ en.all := hg
            rw [k2] at hg
            cases A' with
            | none => cases hg
            | some a' =>
              have hg : g = a'.block := List.mem_singleton.1 hg
              subst hg
              rcases t3 a' rfl with h | h
              · obtain ⟨i, q, f, o1, o2, _, o3, o4, o5⟩ := hown' _ h
                exact .inl ⟨i, q, f, o1, o2, o3, o4, o5⟩
              · exact .inr h
    · cases h
  · cases h
theorem own_cells {base e g n c : Nat} : ∀ (vs : List Value) (k : Nat) (xs : List Value) (w : World), w.ownsRow base e 1 (.slice (some ⟨g, 0, none⟩) n c) n xs → k + vs.length ≤ n → (w.setCells g k vs).ownsRow base e 1 (.slice (some ⟨g, 0, none⟩) n c) n (xs.take k ++ vs ++ xs.drop (k + vs.length)) ∧ w.grownBy (w.setCells g k vs) (some g)
  | [], k, xs, w, h, _ => by
    refine ⟨?_, World.grownBy.refl w _⟩
    rw [List.append_nil, List.length_nil, Nat.add_zero, List.take_append_drop]
    exact h
  | v :: vs, k, xs, w, h, hk => by
    rw [List.length_cons] at hk
    have hx : xs.length = n := by have := h.1; simpa using this
    obtain ⟨h1, h2⟩ := World.ownsRow.stored h k v
    obtain ⟨h3, h4⟩ := own_cells vs (k + 1) _ _ h1 (by omega)
    refine ⟨?_, grown_trans h2 h4⟩
    show ((w.setCell ⟨g, k, none⟩ v).setCells g (k + 1) vs).ownsRow base e 1 _ n _
    have e1 : (xs.set k v).take (k + 1) = xs.take k ++ [v] := by
      rw [List.take_add_one, List.getElem?_set_self (by omega)]
      congr 1
      rw [List.take_set, List.set_eq_of_length_le (by rw [List.length_take]; omega)]
    have e2 : (xs.set k v).drop (k + 1 + vs.length) = xs.drop (k + (v :: vs).length) := by
      rw [List.drop_set_of_lt (by omega), List.length_cons]
      congr 1
      omega
    rw [e1, e2] at h3
    rw [List.append_assoc, show v :: vs = [v] ++ vs from rfl]
    simpa [List.append_assoc] using h3
def p_rev : Prim := fun xs O _ => match xs with
  | [.c (.ow i)] => match O i with
    | some (.ty e t l 0) => match cast_ t .st l with
      | some l => bif Nat.beq e 9 then some (some (l ≠ []), .e ⟨.tu [], [(i, .ty 9 .st l.reverse 0)], 0⟩) else none
      | none => none
    | _ => none
  | _ => none
def RevOk (P : Program) (f : Nat) : Prop :=
  (∀ (vs : Array Value) (w : World), (callFunc f vs).run P w = .ok (.enter f vs) w) ∧
  ∀ (g c : Nat) (xs : List ByteArray) (w : World), w.ownsRow 0 9 1 (.slice (some ⟨g, 0, none⟩) xs.length c) xs.length (xs.map Value.string) → xs.length ≤ 9223372036854775807 →
    Calls P f #[.slice (some ⟨g, 0, none⟩) xs.length c] w fun e w' => e = .returned (.tuple #[]) ∧ w'.ownsRow 0 9 1 (.slice (some ⟨g, 0, none⟩) xs.length c) xs.length (xs.reverse.map Value.string) ∧ w.grownBy w' (some g)
theorem rev_prim {P : Program} {f : Nat} (hF : RevOk P f) : PrimOk P f p_rev := by
  refine ⟨hF.1, fun gp Z0 w0 N D c T O O' a w xs vs n cd Gf S hO hl hv h hfr hc => ?_⟩
  unfold p_rev at h
  split at h
  · rename_i i
    split at h
    · rename_i e t l hi
      split at h
      · rename_i l' hcast
        cases hb : Nat.beq e 9 with
        | false => rw [hb] at h; cases h
        | true =>
          rw [hb] at h
          cases h
          have he := Nat.eq_of_beq_eq_true hb
          obtain ⟨rfl, rfl⟩ := cast_eq hcast
          subst he
          have hne : l' ≠ [] := hc
          have hi' := hO _ _ hi
          obtain ⟨en, q1, q0, q2, q3⟩ := S.obj i _ hi'
          rcases q3 with ⟨_, _, hn0, _⟩ | ⟨g, cur, b1, b2, b3, b4, b5, b6, b7⟩
          · exact absurd hn0 hne
          · have b4 : l'.length ≤ en.cp := by have : l'.length + 0 ≤ en.cp := b4; omega
            have q2 : en.ln = l'.length := q2
            have b3 : cur.size = en.cp := by rw [b3]; exact Nat.mul_one _
            match vs, hl with
            | ⟨[v]⟩, _ =>
              obtain ⟨en', z1, rfl⟩ := hv 0 v _ rfl rfl
              rw [q1] at z1
              cases z1
              have own0 : w.ownsRow 0 9 1 (.slice (some ⟨g, 0, none⟩) l'.length en.cp) l'.length (l'.map Value.string) := by
                refine ⟨by simp, .inr ⟨g, en.cp, cur, rfl, Nat.zero_le _, b2, b4, by simp only [maxLen]; exact b5, by rw [b3, Nat.mul_one], ?_⟩⟩
                rw [Nat.mul_one]
                refine List.ext_getElem? fun j => ?_
                rw [List.getElem?_take, List.getElem?_map]
                split
                · rename_i hj
                  obtain ⟨us, e1, e2⟩ := b6 j hj
                  rw [RT] at e1
                  obtain ⟨e1, _⟩ := e1
                  subst e1
                  have := e2 0 _ rfl
                  rw [List.getElem?_eq_getElem hj]
                  have e3 : w.cell? ⟨g, j, none⟩ = some (.string l'[j]) := by
                    have e4 : 0 + (j * Ty.st.size + 0) = j := by show 0 + (j * 1 + 0) = j; omega
                    rw [e4] at this
                    exact this
                  unfold World.cell? at e3
                  rw [b2] at e3
                  simpa using e3
                · rename_i hj
                  rw [List.getElem?_eq_none (by omega)]
                  rfl
              have CALL := hF.2 g en.cp l' w own0 (by simp only [maxI] at b5; omega)
              rw [show (⟨[Value.slice (en.bl.map fun g => ⟨g, 0, none⟩) en.ln en.cp]⟩ : Array Value) = #[.slice (some ⟨g, 0, none⟩) l'.length en.cp] by rw [b1, q2]; rfl]
              refine CALL.mono ?_
              rintro e w' ⟨rfl, t1, t2⟩
              refine ⟨_, c, rfl, fun d hd => ?_⟩
              have st : Stay c.Z w w' := fun k hk => t2.block k (S.zl k hk) (fun e => by
                cases e
                exact S.zo i _ en g hi' rfl q1 (Ent.has_bl b1) hk)
              have lk : ∀ j q, look [(i, Ob.ty 9 .st l'.reverse 0)] j = some q → j = i ∧ q = .ty 9 .st l'.reverse 0 := fun j q h => by
                rw [look_one] at h
                split at h
                · rename_i h0; cases h; exact ⟨h0, rfl⟩
                · cases h
              have hok : ObOk c w' i (.ty 9 .st l'.reverse 0) := by
                obtain ⟨y1, y2⟩ := t1
                rcases y2 with ⟨y3, _⟩ | ⟨g', cap, cur', y3, _, y4, y5, y6, y7, y8⟩
                · cases y3
                · injection y3 with z1 z2 z3
                  injection z1 with z1
                  injection z1 with z1
                  subst z1
                  subst z3
                  refine ⟨en, q1, q0, by rw [List.length_reverse]; exact q2, .inr ⟨g, cur', b1, y4, by rw [y7]; rfl, by rw [List.length_reverse]; exact b4, b5, fun j hj => ?_, fun j us hj => by simp [mks] at hj⟩⟩
                  have hj' : j < l'.length := by rw [List.length_reverse] at hj; exact hj
                  refine ⟨[.string l'.reverse[j]], ?_, fun k u hu => ?_⟩
                  · rw [RT]
                    refine ⟨rfl, ?_⟩
                    have hx : l'.reverse[j] ∈ l' := List.mem_reverse.1 (List.getElem_mem hj)
                    obtain ⟨m, hm, hx⟩ := List.getElem_of_mem hx
                    obtain ⟨us, e1, _⟩ := b6 m hm
                    rw [RT] at e1
                    rw [← hx]
                    exact e1.2
                  · match k, hu with
                    | 0, hu =>
                      cases hu
                      have e4 : 0 + (j * Ty.st.size + 0) = j := by show 0 + (j * 1 + 0) = j; omega
                      rw [e4]
                      have e8 : (cur'.toList.take l'.length)[j]? = (l'.reverse.map Value.string)[j]? := by
                        rw [Nat.mul_one] at y8
                        rw [y8]
                      rw [List.getElem?_take, if_pos hj', List.getElem?_map, List.getElem?_eq_getElem hj] at e8
                      unfold World.cell?
                      rw [y4]
                      simpa using e8
                    | k + 1, hu => simp at hu
              refine S.step hd (Cf.Le.refl c) st ⟨#[], rfl, rfl, fun i v p e1 => by simp at e1⟩ (fun j o h1 h2 h3 f k h4 h5 => ?_) (fun j q h => ?_) (fun j q f k h1 h2 h3 h4 => ?_) (fun j m q r f f' k h1 h2 h3 h4 h5 => ?_) (fun k hk => ?_) (fun j f h => ?_) ?_ (fun j cs q h1 h2 => ?_)
              · refine t2.block k ((S.obj j o h1).lt h3 f k h4 h5) (fun e => ?_)
                cases e
                exact S.inj i j _ o en f g hi' h1 rfl h3 (fun e => by
                  subst e
                  have h2 : look [(i, Ob.ty 9 .st l'.reverse 0)] i = none := h2
                  rw [look_one, if_pos rfl] at h2
                  cases h2) q1 h4 (Ent.has_bl b1) h5
              · obtain ⟨rfl, rfl⟩ := lk j q h
                exact hok
              · obtain ⟨rfl, rfl⟩ := lk j q h1
                exact ⟨.inl ⟨j, _, f, hi', rfl, h3, h4, by
                  show (look [(j, Ob.ty 9 .st l'.reverse 0)] j).isSome = true
                  rw [look_one, if_pos rfl]
                  rfl⟩, S.zo j _ f k hi' rfl h3 h4⟩
              · obtain ⟨rfl, rfl⟩ := lk j q h1
                obtain ⟨rfl, rfl⟩ := lk m r h2
                exact absurd rfl h5
              · exact ⟨Nat.lt_of_lt_of_le (S.zl k hk) t2.size, S.zz k hk, fun j p f h1 h2 h3 h4 h5 => S.zo j p f k h1 h3 h4 h5 hk⟩
              · exact .inl (S.dom j f h)
              · refine ⟨t2.os.trans S.gr.os, t2.tape.trans S.gr.tape, t2.output.trans S.gr.output, Nat.le_trans S.gr.size t2.size, fun k hk' hr' => ?_⟩
                refine (t2.block k (Nat.lt_of_lt_of_le hk' S.gr.size) (fun e0 => ?_)).trans (S.gr.block k hk' hr')
                cases e0
                have := S.gp_not hi' rfl (fun cs h => by cases h) q1 (Ent.has_bl b1)
                omega
              · obtain ⟨rfl, rfl⟩ := lk j q h2
                rw [hi'] at h1
                cases h1
      · cases h
    · cases h
  · cases h
def toN (l : List Int) : Nat := (val l).toNat
def nrm (l : List Int) : Prop := l = wd (toN l)
theorem toN_wd (n : Nat) : toN (wd n) = n := by
  unfold toN
  rw [val_wd]
  rfl
theorem nrm_wd (n : Nat) : nrm (wd n) := by
  unfold nrm
  rw [toN_wd]
theorem nrm_ex {l : List Int} (h : nrm l) : ∃ n, l = wd n := ⟨_, h⟩
theorem rv_wd {Z : Nat → Prop} {w : World} {l : List Int} {v : Value} (h : RV Z w tW32 l v) : ∃ A c, v = .slice A l.length c ∧ Rd w A c l ∧ Wf l := by
  unfold RV at h
  rw [if_neg (by simp [Ty.agg])] at h
  obtain ⟨A, c, e, h1, h2⟩ := rd_of h
  exact ⟨A, c, by simpa using e, h1, h2⟩
theorem blkA1_nodup (A : Option Addr) : (blkA A).Nodup := by cases A <;> simp [blkA]
theorem blkA1_base {w : World} {base : Nat} {A : Option Addr} {c : Nat} {xs : List Int} (h : Own w base A c xs) : ∀ g ∈ blkA A, base ≤ g := fun g hg => by
  cases hA : A with
  | none => rw [hA] at hg; simp [blkA] at hg
  | some a => rw [hA] at hg; simp [blkA] at hg; rw [hA] at h; rw [hg]; exact h.block.1
theorem cmp_rng (m n : Nat) : -1 ≤ cmp m n ∧ cmp m n ≤ 1 := by
  unfold cmp
  repeat' split
  all_goals omega
section
variable {f : Nat} (hc : ∀ (vs : Array Value) (w : World), (callFunc f vs).run Tryz.prog w = .ok (.enter f vs) w)
include hc
end
def sp_aCmp : Spec := { q := .un, ps := [tW32, tW32], rs := [.it .i64], fresh := true, pre := fun _ x => some (nrm x.1 ∧ nrm x.2.1), post := fun _ x => ((), (cmp (toN x.1) (toN x.2.1), ())) }
theorem fo_aCmp : FnOk Tryz.prog 122 sp_aCmp := by
  refine ⟨callFunc_enter Tryz.func122 (by kernel_rfl) rfl, fun Z w gv vs y x hZ hv hp _ _ => ?_⟩
  obtain ⟨xs, ys, u⟩ := x
  match vs, hv with
  | [u, v], ⟨h1, h2, _⟩ =>
    obtain ⟨p1, p2⟩ : nrm xs ∧ nrm ys := hp
    obtain ⟨m, rfl⟩ := nrm_ex p1
    obtain ⟨n, rfl⟩ := nrm_ex p2
    obtain ⟨A, c, rfl, k1, _⟩ := rv_wd h1
    obtain ⟨B, d, rfl, k2, _⟩ := rv_wd h2
    refine (compare_any A B m n c d w k1 k2).mono fun e w' ⟨e1, e2⟩ => ?_
    subst e1
    refine told_new (S := sp_aCmp) (r := (cmp (toN (wd m)) (toN (wd n)), ())) (us := [_]) (bs := []) rfl rfl (.inl ⟨_, rfl, rfl⟩) hZ ⟨[], [], rfl, ⟨?_, rfl⟩, rfl⟩ List.nodup_nil (fun g hg => by simp at hg) e2
    rw [RT, toN_wd, toN_wd]
    have := cmp_rng m n
    exact ⟨rfl, Int.le_trans (by decide) this.1, Int.le_trans this.2 (by decide)⟩
theorem told_WE {gv : Nat} {S : Spec} {Z : Nat → Prop} {w w' : World} {n : Nat} {e : Int} {A : Option Addr} {c : Nat} (hS : S.ptr = false) (hf : S.fresh = true) (hrs : S.rs = [tW32, .it .i64]) (he : Er e) (h1 : Own w' w.heap.size A c (wd n)) (h2 : Ext w w') (hZ : ∀ g, Z g → g < w.heap.size) {q : El S.q} {r : Els S.rs} (hr : r = hrs ▸ ((wd n, e, ()) : Els [tW32, .it .i64])) :
    ∃ v us bs Z', Ending.returned (.tuple #[.slice A (wd n).length c, .int .i64 e]) = .returned v ∧ told_ us v ∧ RQs S.fresh Z' w' w.heap.size S.rs r us bs ∧ bs.Nodup ∧ (∀ g ∈ bs, ¬ Z' g) ∧
      (∀ g, Z g → Z' g) ∧ (∀ g, Z' g → Z g ∨ w.heap.size ≤ g) ∧ (∀ g, Z' g → g < w'.heap.size) ∧ w.grownBy w' (if S.ptr = true then some gv else none) ∧
      (S.ptr = true → ∃ cells et, w'.heap[gv]? = some (.cells cells et (0, 0)) ∧ RT Z' w' S.q q cells.toList) := by
  refine told_new (us := [.slice A (wd n).length c, .int .i64 e]) (bs := blkA A) hS hf (.inr ⟨by simp, rfl⟩) hZ ?_ (blkA1_nodup A) (blkA1_base h1) h2
  obtain ⟨qq, ps, rs, fresh, pre, post⟩ := S
  cases hrs
  subst hr
  exact ⟨_, [], (List.append_nil _).symm, rq_own h1 (wf_wd n), [], [], rfl, rq_err (base := w.heap.size) he, rfl⟩
def sp_aGcd : Spec := { q := .un, ps := [tW32, tW32], rs := [tW32, .it .i64], fresh := true, pre := fun _ x => some (nrm x.1 ∧ nrm x.2.1 ∧ x.1.length ≤ 8192 ∧ x.2.1.length ≤ 8192), post := fun _ x => ((), (wd (Nat.gcd (toN x.1) (toN x.2.1)), 0, ())) }
theorem fo_aGcd : FnOk Tryz.prog 129 sp_aGcd := by
  refine ⟨callFunc_enter Tryz.func129 (by kernel_rfl) rfl, fun Z w gv vs y x hZ hv hp _ _ => ?_⟩
  obtain ⟨xs, ys, u⟩ := x
  match vs, hv with
  | [u, v], ⟨h1, h2, _⟩ =>
    obtain ⟨p1, p2, p3, p4⟩ : nrm xs ∧ nrm ys ∧ xs.length ≤ 8192 ∧ ys.length ≤ 8192 := hp
    obtain ⟨m, rfl⟩ := nrm_ex p1
    obtain ⟨n, rfl⟩ := nrm_ex p2
    obtain ⟨A, c, rfl, k1, _⟩ := rv_wd h1
    obtain ⟨B, d, rfl, k2, _⟩ := rv_wd h2
    refine (gcd_any A B m n c d w k1 k2 p3 p4).mono fun e w' ⟨A', c', e1, e2, e3⟩ => ?_
    subst e1
    exact told_WE (S := sp_aGcd) rfl rfl rfl Er.zero e2 e3 hZ (by show ((wd (Nat.gcd (toN (wd m)) (toN (wd n))), (0 : Int), ()) : Els [tW32, .it .i64]) = _; rw [toN_wd, toN_wd])
end Go.Proofs.YtemlaompalbgiaaGreatDoor
