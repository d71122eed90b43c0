/- Texts of this claim, joined: Y1 G1 G2 G3 G4 G5 G6 G7 G8 G9a G10 G11 G12 G13 G14 G15 G16 G17 G18 G19 G20 G9s Y3 B1 A29 B2 B19 R14 G21 B26 R2 R3 R15 E1 B3 A25 U1 U2 B4 B5 B6 B7 B8 B9 A26 Y2 U3 Y4 B10 B11 Y5 Y7 U15 B12 A27 B13 B14 B15 B16 B17 B18 H0 H1. -/
import Derived.Handy
import Derived.Lib.ItoaWalk
import Derived.Deep.RegionHeld3
import Derived.RegionTactic
import Derived.ChangeAlike
import Derived.OneCell
import Derived.Deep.AppendLies
import Derived.Deep.RegionHeldLaw
import Derived.Test.YtakaehdolpmelaaGreatDoorQo
set_option linter.unusedVariables false
set_option linter.unusedSimpArgs false
set_option maxRecDepth 100000
namespace Go.Proofs.YtakaehdolpmelaaGreatDoor
open Go Go.RowKit
structure Adr where
  A : Option Addr
  c : Nat
  B : Option Addr
  d : Nat
structure RF (w : World) (p : Adr) (f : Fr) : Prop where
  num : Rd w p.A p.c f.num
  den : Rd w p.B p.d f.den
  wf : f.Wf
structure OF (w : World) (base : Nat) (p : Adr) (f : Fr) : Prop where
  num : Own w base p.A p.c f.num
  den : Own w base p.B p.d f.den
  ap : ∀ a b, p.A = some a → p.B = some b → a.block ≠ b.block
  wf : f.Wf
def TF (w : World) (t : Fr × Int) (e : Ending) (w' : World) : Prop :=
  ∃ p : Adr, e = .returned (.tuple #[.agg #[.bool t.1.neg, .slice p.A t.1.num.length p.c, .slice p.B t.1.den.length p.d], .int .i64 t.2]) ∧ OF w' w.heap.size p t.1 ∧ Below w.heap.size w w'
theorem RatP.tf {w w' : World} {t : Fr × Int} {e : Ending} (h : RatP w t e w') (hg : t.1.Wf) : TF w t e w' := by
  obtain ⟨A, c, B, d, h1, h2, h3, h4, h5⟩ := h
  exact ⟨⟨A, c, B, d⟩, h1, ⟨h2, h3, h4, hg⟩, h5⟩
section
variable (a b : Fr) (p q : Adr) (w : World) (ha : RF w p a) (hb : RF w q b)
include ha hb
theorem rAdd : Calls Tryz.prog 35 #[.agg #[.bool a.neg, .slice p.A a.num.length p.c, .slice p.B a.den.length p.d], .agg #[.bool b.neg, .slice q.A b.num.length q.c, .slice q.B b.den.length q.d]] w (TF w (fadd a b)) :=
  (add_fr a b _ _ _ _ _ _ _ _ w ha.num ha.den hb.num hb.den ha.wf hb.wf).mono fun _ _ h => h.tf (fadd_good a b).wf
theorem rSub : Calls Tryz.prog 37 #[.agg #[.bool a.neg, .slice p.A a.num.length p.c, .slice p.B a.den.length p.d], .agg #[.bool b.neg, .slice q.A b.num.length q.c, .slice q.B b.den.length q.d]] w (TF w (fsub a b)) :=
  (sub_fr a b _ _ _ _ _ _ _ _ w ha.num ha.den hb.num hb.den ha.wf hb.wf).mono fun _ _ h => h.tf (fsub_good a b).wf
theorem rMul : Calls Tryz.prog 21 #[.agg #[.bool a.neg, .slice p.A a.num.length p.c, .slice p.B a.den.length p.d], .agg #[.bool b.neg, .slice q.A b.num.length q.c, .slice q.B b.den.length q.d]] w (TF w (fmul a b)) :=
  (mul_fr a b _ _ _ _ _ _ _ _ w ha.num ha.den hb.num hb.den ha.wf hb.wf).mono fun _ _ h => h.tf (fmul_good a b).wf
theorem rQuo : Calls Tryz.prog 39 #[.agg #[.bool a.neg, .slice p.A a.num.length p.c, .slice p.B a.den.length p.d], .agg #[.bool b.neg, .slice q.A b.num.length q.c, .slice q.B b.den.length q.d]] w (TF w (fquo a b)) :=
  (quo_fr a b _ _ _ _ _ _ _ _ w ha.num ha.den hb.num hb.den ha.wf hb.wf).mono fun _ _ h => h.tf (fquo_good a b).wf
end
theorem fneg_wf {a : Fr} (wa : a.Wf) : (fneg a).1.Wf := by
  unfold fneg
  split
  · exact Fr.zero_wf
  · exact enc_wf _
theorem rNeg (a : Fr) (p : Adr) (w : World) (ha : RF w p a) : Calls Tryz.prog 38 #[.agg #[.bool a.neg, .slice p.A a.num.length p.c, .slice p.B a.den.length p.d]] w (TF w (fneg a)) :=
  (neg_fr a _ _ _ _ w ha.num ha.den ha.wf).mono fun _ _ h => h.tf (fneg_wf ha.wf)
theorem rSame (a b : Fr) (p q : Adr) (w : World) (ha : RF w p a) (hb : RF w q b) : Calls Tryz.prog 34 #[.agg #[.bool a.neg, .slice p.A a.num.length p.c, .slice p.B a.den.length p.d], .agg #[.bool b.neg, .slice q.A b.num.length q.c, .slice q.B b.den.length q.d]] w fun e w' => e = .returned (.bool (decide (a = b))) ∧ Below w.heap.size w w' :=
  same_fr a b _ _ _ _ _ _ _ _ w ha.num ha.den hb.num hb.den _ rfl
theorem fsmall_wf (n d : Int) : (fsmall n d).1.Wf := by
  unfold fsmall
  split
  · exact Fr.zero_wf
  · exact tell_wf _
theorem rSmall (n d : Int) (w : World) (h0 : -9223372036854775808 ≤ n) (h1 : n ≤ 9223372036854775807) (k0 : -9223372036854775808 ≤ d) (k1 : d ≤ 9223372036854775807) : Calls Tryz.prog 40 #[.int .i64 n, .int .i64 d] w (TF w (fsmall n d)) :=
  (small_frac n d w h0 h1 k0 k1).mono fun _ _ h => h.tf (fsmall_wf n d)
section
variable (a b : Fr) (p q : Adr) (w : World) (ha : RF w p a) (hb : RF w q b)
include ha hb
end
abbrev toFr (x : El tR) : Fr := ⟨x.1, x.2.1, x.2.2.1⟩
abbrev ofFr (x : Fr) : El tR := (x.neg, x.num, x.den, ())
def Er (e : Int) : Prop := 0 ≤ e ∧ e ≤ 1000
theorem adr_add (g o j : Nat) : (⟨g, o, none⟩ : Addr).add j = ⟨g, o + j, none⟩ := by
  unfold Addr.add
  split
  · rename_i h; subst h; rfl
  · rfl
theorem rd_of {Z : Nat → Prop} {w : World} {l : List Int} {vs : List Value} (h : RT Z w tW32 l vs) : ∃ A c, vs = [.slice A l.length c] ∧ Rd w A c l ∧ Wf l := by
  have hw := h.wf32
  rw [RT] at h
  obtain ⟨A, c, h1, h2, h3, h4, h5⟩ := h
  refine ⟨A, c, h1, ⟨h2, h3, h4, fun j hj => ?_⟩, hw⟩
  obtain ⟨g, o, us, e1, _, e3, e4⟩ := h5 j hj
  rw [RT] at e3
  refine ⟨_, e1, ?_⟩
  rw [e3.1] at e4
  have := e4 0 _ rfl
  rw [nth_lt l j hj, adr_add]
  simpa [Ty.size] using this
theorem rv_fr {Z : Nat → Prop} {w : World} {x : El tR} {v : Value} (h : RV Z w tR x v) : ∃ p : Adr, v = .agg #[.bool (toFr x).neg, .slice p.A (toFr x).num.length p.c, .slice p.B (toFr x).den.length p.d] ∧ RF w p (toFr x) := by
  unfold RV at h
  rw [if_pos (show tR.agg = true from rfl)] at h
  obtain ⟨us, rfl, h⟩ := h
  obtain ⟨u1, u2, e, h1, h2⟩ : ∃ u u', us.toList = u ++ u' ∧ RT Z w .bo x.1 u ∧ RT Z w (.pr tW32 (.pr tW32 .un)) x.2 u' := by rw [RT] at h; exact h
  obtain ⟨u3, u4, rfl, h3, h4⟩ : ∃ u u', u2 = u ++ u' ∧ RT Z w tW32 x.2.1 u ∧ RT Z w (.pr tW32 .un) x.2.2 u' := by rw [RT] at h2; exact h2
  obtain ⟨u5, u6, rfl, h5, h6⟩ : ∃ u u', u4 = u ++ u' ∧ RT Z w tW32 x.2.2.1 u ∧ RT Z w .un x.2.2.2 u' := by rw [RT] at h4; exact h4
  have h1 : u1 = [.bool x.1] := by rw [RT] at h1; exact h1
  have h6 : u6 = [] := by rw [RT] at h6; exact h6
  subst h1 h6
  obtain ⟨A, c, rfl, r1, w1⟩ := rd_of h3
  obtain ⟨B, d, rfl, r2, w2⟩ := rd_of h5
  refine ⟨⟨A, c, B, d⟩, ?_, r1, r2, w1, w2⟩
  congr 1
  apply Array.ext'
  rw [e]; rfl
def blkA : Option Addr → List Nat
  | none => []
  | some a => [a.block]
theorem rowQ_words {Z : Nat → Prop} {w : World} {base : Nat} {g c : Nat} {cur : Array Value} {xs : List Int} {m n : Nat} (hb : base ≤ g) (h2 : w.heap[g]? = some (.cells cur 59 (0, 0))) (h5 : cur.size = c) (h3 : xs.length + (mks m (.it .u32)).length ≤ c) (h4 : c ≤ maxI) (hw : Wf xs)
    (hc : ∀ (j : Nat) (h : j < xs.length), w.cell? ⟨g, j, none⟩ = some (.int .u32 (xs[j]'h))) (hm : MK w 1 (mks m (.it .u32)) g xs.length) : rowQ w base (.it .u32) (fun x us b => RQ true Z w base (.it .u32) x us b) xs (mks m (.it .u32)) n [.slice (some ⟨g, 0, none⟩) n c] [g] := by
  have := rowQ_of_ty (Z := Z) (Z' := Z) (w := w) (base := base) (t := .it .u32) (l := xs) (m := m) (g := g) (e := ⟨some g, n, c, []⟩) (vs := cur) rfl rfl hb rfl h2 (by rw [h5]; exact (Nat.mul_one c).symm) h3 h4 (fun j hj => ⟨[.int .u32 (xs[j]'hj)], ?_, fun i u hu => ?_⟩) (by rw [show xs.length * (Ty.it IntKind.u32).size = xs.length from Nat.mul_one _]; exact hm)
  · exact this
  · rw [RT]
    obtain ⟨e1, e2⟩ := hw _ (List.getElem_mem hj)
    exact ⟨rfl, e1, Int.le_of_lt_add_one e2⟩
  · cases i with
    | zero =>
      cases hu
      rw [show 0 + (j * (Ty.it IntKind.u32).size + 0) = j by show 0 + (j * 1 + 0) = j; omega]
      exact hc j hj
    | succ i => simp at hu
theorem rq_own {Z : Nat → Prop} {w : World} {base : Nat} {A : Option Addr} {c : Nat} {xs : List Int} (h : Own w base A c xs) (hw : Wf xs) : RQ true Z w base tW32 xs [.slice A xs.length c] (blkA A) := by
  unfold RQ
  rw [if_pos rfl]
  rcases h.cases with ⟨rfl, rfl, rfl⟩ | ⟨g, cur, rfl, h1, h2, h3, h4, h5, h6⟩
  · exact .inl ⟨rfl, rfl, rfl⟩
  · refine .inr (rowQ_words (m := 0) h1 h2 h5 h3 h4 hw (fun j hj => ?_) (fun j us hj => by simp [mks] at hj))
    obtain ⟨a, ha, hc⟩ := h.rd.at_ j hj
    cases ha
    rw [nth_lt xs j hj, adr_add] at hc
    simpa using hc
theorem rq_fr {Z : Nat → Prop} {w : World} {base : Nat} {p : Adr} {f : Fr} (h : OF w base p f) : RQ true Z w base tR (ofFr f) [.bool f.neg, .slice p.A f.num.length p.c, .slice p.B f.den.length p.d] (blkA p.A ++ blkA p.B) :=
  ⟨[_], _, [], _, rfl, rfl, ⟨by rw [RT], rfl⟩, [_], [_], _, _, rfl, rfl, rq_own h.num h.wf.num, [_], [], _, [], rfl, (List.append_nil _).symm, rq_own h.den h.wf.den, rfl, rfl⟩
theorem blkA_nodup {p : Adr} (h : ∀ a b, p.A = some a → p.B = some b → a.block ≠ b.block) : (blkA p.A ++ blkA p.B).Nodup := by
  cases hA : p.A <;> cases hB : p.B <;> simp [blkA]
  exact h _ _ hA hB
theorem blkA_base {w : World} {base : Nat} {p : Adr} {f : Fr} (h : OF w base p f) : ∀ g ∈ blkA p.A ++ blkA p.B, base ≤ g := fun g hg => by
  rcases List.mem_append.1 hg with hg | hg
  · cases hA : p.A with
    | none => rw [hA] at hg; simp [blkA] at hg
    | some a => rw [hA] at hg; simp [blkA] at hg; have := h.num; rw [hA] at this; rw [hg]; exact this.block.1
  · cases hB : p.B with
    | none => rw [hB] at hg; simp [blkA] at hg
    | some a => rw [hB] at hg; simp [blkA] at hg; have := h.den; rw [hB] at this; rw [hg]; exact this.block.1
theorem rv_int {Z : Nat → Prop} {w : World} {k : IntKind} {x : Int} {v : Value} (h : RV Z w (.it k) x v) : v = .int k x ∧ k.min ≤ x ∧ x ≤ k.max := by
  unfold RV at h
  rw [if_neg (by simp [Ty.agg]), RT] at h
  exact ⟨by simpa using h.1, h.2⟩
theorem rq_err {Z : Nat → Prop} {w : World} {base : Nat} {e : Int} (h : Er e) : RQ true Z w base (.it .i64) e [.int .i64 e] [] := by
  refine ⟨?_, rfl⟩
  rw [RT]
  refine ⟨rfl, ?_, ?_⟩
  · exact Int.le_trans (by decide) h.1
  · exact Int.le_trans h.2 (by decide)
def pR (t : Fr × Int) : El .un × Els [tR, .it .i64] := ((), (ofFr t.1, t.2, ()))
def sp1 (F : Fr → Fr × Int) : Spec := { q := .un, ps := [tR], rs := [tR, .it .i64], fresh := true, pre := fun _ _ => none, post := fun _ x => pR (F (toFr x.1)) }
def sp2 (F : Fr → Fr → Fr × Int) : Spec := { q := .un, ps := [tR, tR], rs := [tR, .it .i64], fresh := true, pre := fun _ _ => none, post := fun _ x => pR (F (toFr x.1) (toFr x.2.1)) }
def spI (F : Int → Int → Fr × Int) : Spec := { q := .un, ps := [.it .i64, .it .i64], rs := [tR, .it .i64], fresh := true, pre := fun _ _ => none, post := fun _ x => pR (F x.1 x.2.1) }
def spE1 (F : Fr → Int) : Spec := { q := .un, ps := [tR], rs := [.it .i64], fresh := true, pre := fun _ _ => none, post := fun _ x => ((), (F (toFr x.1), ())) }
def spB2 (F : Fr → Fr → Bool) : Spec := { q := .un, ps := [tR, tR], rs := [.bo], fresh := true, pre := fun _ _ => none, post := fun _ x => ((), (F (toFr x.1) (toFr x.2.1), ())) }
theorem told_new {gv : Nat} {S : Spec} {Z : Nat → Prop} {w w' : World} {us : List Value} {bs : List Nat} {r : Els S.rs} {v : Value} (hS : S.ptr = false) (hf : S.fresh = true) (ht : told_ us v) (hZ : ∀ g, Z g → g < w.heap.size) (hr : RQs true Z w' w.heap.size S.rs r us bs) (hn : bs.Nodup) (hb : ∀ g ∈ bs, w.heap.size ≤ g) (x : Below w.heap.size w w') {q : El S.q} :
    ∃ v' us bs Z', Ending.returned v = .returned v' ∧ told_ us v' ∧ RQs S.fresh Z' w' w.heap.size S.rs r us bs ∧ bs.Nodup ∧ (∀ g ∈ bs, ¬ Z' g) ∧
      (∀ g, Z g → Z' g) ∧ (∀ g, Z' g → Z g ∨ w.heap.size ≤ g) ∧ (∀ g, Z' g → g < w'.heap.size) ∧ w.grownBy w' (if S.ptr = true then some gv else none) ∧
      (S.ptr = true → ∃ cells et, w'.heap[gv]? = some (.cells cells et (0, 0)) ∧ RT Z' w' S.q q cells.toList) :=
  ⟨v, us, bs, Z, rfl, ht, by rw [hf]; exact hr, hn, fun g hg hz => absurd (hZ g hz) (by have := hb g hg; omega), fun g h => h, fun g h => .inl h, fun g h => Nat.lt_of_lt_of_le (hZ g h) (Below.size x), by rw [hS]; exact Ext.by_ x none, fun h => by rw [hS] at h; cases h⟩
theorem told_TF {gv : Nat} {S : Spec} {Z : Nat → Prop} {w w' : World} {t : Fr × Int} {e : Ending} (hS : S.ptr = false) (hf : S.fresh = true) (hrs : S.rs = [tR, .it .i64]) (he : Er t.2) (h : TF w t e w') (hZ : ∀ g, Z g → g < w.heap.size) {q : El S.q} {r : Els S.rs} (hr : r = hrs ▸ (ofFr t.1, t.2, ())) :
    ∃ v us bs Z', e = .returned v ∧ told_ us v ∧ RQs S.fresh Z' w' w.heap.size S.rs r us bs ∧ bs.Nodup ∧ (∀ g ∈ bs, ¬ Z' g) ∧
      (∀ g, Z g → Z' g) ∧ (∀ g, Z' g → Z g ∨ w.heap.size ≤ g) ∧ (∀ g, Z' g → g < w'.heap.size) ∧ w.grownBy w' (if S.ptr = true then some gv else none) ∧
      (S.ptr = true → ∃ cells et, w'.heap[gv]? = some (.cells cells et (0, 0)) ∧ RT Z' w' S.q q cells.toList) := by
  obtain ⟨p, rfl, h1, h2⟩ := h
  refine told_new (us := [.agg #[.bool t.1.neg, .slice p.A t.1.num.length p.c, .slice p.B t.1.den.length p.d], .int .i64 t.2]) (bs := blkA p.A ++ blkA p.B) hS hf (.inr ⟨by simp, rfl⟩) hZ ?_ (blkA_nodup h1.ap) (blkA_base h1) h2
  obtain ⟨qq, ps, rs, fresh, pre, post⟩ := S
  cases hrs
  subst hr
  exact ⟨_, [], (List.append_nil _).symm, ⟨_, rfl, rq_fr h1⟩, [], [], rfl, rq_err (base := w.heap.size) he, rfl⟩
section
variable {f : Nat} (hc : ∀ (vs : Array Value) (w : World), (callFunc f vs).run Tryz.prog w = .ok (.enter f vs) w)
include hc
theorem fnOk_2 {F : Fr → Fr → Fr × Int} (he : ∀ a b, Er (F a b).2) (h : ∀ (a b : Fr) (p q : Adr) (w : World), RF w p a → RF w q b → Calls Tryz.prog f #[.agg #[.bool a.neg, .slice p.A a.num.length p.c, .slice p.B a.den.length p.d], .agg #[.bool b.neg, .slice q.A b.num.length q.c, .slice q.B b.den.length q.d]] w (TF w (F a b))) : FnOk Tryz.prog f (sp2 F) := by
  refine ⟨hc, fun Z w gv vs y x hZ hv _ _ _ => ?_⟩
  match vs, hv with
  | [u, v], ⟨h1, h2, _⟩ =>
    obtain ⟨p, rfl, k1⟩ := rv_fr h1
    obtain ⟨q, rfl, k2⟩ := rv_fr h2
    exact (h _ _ p q w k1 k2).mono fun e w' ht => told_TF (S := sp2 F) rfl rfl rfl (he _ _) ht hZ rfl
theorem fnOk_1 {F : Fr → Fr × Int} (he : ∀ a, Er (F a).2) (h : ∀ (a : Fr) (p : Adr) (w : World), RF w p a → Calls Tryz.prog f #[.agg #[.bool a.neg, .slice p.A a.num.length p.c, .slice p.B a.den.length p.d]] w (TF w (F a))) : FnOk Tryz.prog f (sp1 F) := by
  refine ⟨hc, fun Z w gv vs y x hZ hv _ _ _ => ?_⟩
  match vs, hv with
  | [u], ⟨h1, _⟩ =>
    obtain ⟨p, rfl, k1⟩ := rv_fr h1
    exact (h _ p w k1).mono fun e w' ht => told_TF (S := sp1 F) rfl rfl rfl (he _) ht hZ rfl
theorem fnOk_I {F : Int → Int → Fr × Int} (he : ∀ a b, Er (F a b).2) (h : ∀ (n d : Int) (w : World), -9223372036854775808 ≤ n → n ≤ 9223372036854775807 → -9223372036854775808 ≤ d → d ≤ 9223372036854775807 → Calls Tryz.prog f #[.int .i64 n, .int .i64 d] w (TF w (F n d))) : FnOk Tryz.prog f (spI F) := by
  refine ⟨hc, fun Z w gv vs y x hZ hv _ _ _ => ?_⟩
  match vs, hv with
  | [u, v], ⟨h1, h2, _⟩ =>
    obtain ⟨rfl, k1, k2⟩ := rv_int h1
    obtain ⟨rfl, l1, l2⟩ := rv_int h2
    exact (h _ _ w k1 k2 l1 l2).mono fun e w' ht => told_TF (S := spI F) rfl rfl rfl (he _ _) ht hZ rfl
theorem fnOk_E1 {F : Fr → Int} (he : ∀ a, Er (F a)) (h : ∀ (a : Fr) (p : Adr) (w : World), RF w p a → Calls Tryz.prog f #[.agg #[.bool a.neg, .slice p.A a.num.length p.c, .slice p.B a.den.length p.d]] w fun e w' => e = .returned (.int .i64 (F a)) ∧ Below w.heap.size w w') : FnOk Tryz.prog f (spE1 F) := by
  refine ⟨hc, fun Z w gv vs y x hZ hv _ _ _ => ?_⟩
  match vs, hv with
  | [u], ⟨h1, _⟩ =>
    obtain ⟨p, rfl, k1⟩ := rv_fr h1
    refine (h _ p w k1).mono fun e w' ⟨e1, e2⟩ => ?_
    subst e1
    exact told_new (S := spE1 F) (r := (F (toFr x.1), ())) (us := [_]) (bs := []) rfl rfl (.inl ⟨_, rfl, rfl⟩) hZ ⟨[], [], rfl, rq_err (base := w.heap.size) (he _), rfl⟩ List.nodup_nil (fun g hg => by simp at hg) e2
theorem fnOk_B2 {F : Fr → Fr → Bool} (h : ∀ (a b : Fr) (p q : Adr) (w : World), RF w p a → RF w q b → Calls Tryz.prog f #[.agg #[.bool a.neg, .slice p.A a.num.length p.c, .slice p.B a.den.length p.d], .agg #[.bool b.neg, .slice q.A b.num.length q.c, .slice q.B b.den.length q.d]] w fun e w' => e = .returned (.bool (F a b)) ∧ Below w.heap.size w w') : FnOk Tryz.prog f (spB2 F) := by
  refine ⟨hc, fun Z w gv vs y x hZ hv _ _ _ => ?_⟩
  match vs, hv with
  | [u, v], ⟨h1, h2, _⟩ =>
    obtain ⟨p, rfl, k1⟩ := rv_fr h1
    obtain ⟨q, rfl, k2⟩ := rv_fr h2
    refine (h _ _ p q w k1 k2).mono fun e w' ⟨e1, e2⟩ => ?_
    subst e1
    exact told_new (S := spB2 F) (r := (F (toFr x.1) (toFr x.2.1), ())) (us := [_]) (bs := []) rfl rfl (.inl ⟨_, rfl, rfl⟩) hZ ⟨[], [], rfl, ⟨by rw [RT], rfl⟩, rfl⟩ List.nodup_nil (fun g hg => by simp at hg) e2
end
theorem Er.zero : Er 0 := ⟨by decide, by decide⟩
theorem er_fchk (a : Fr) : Er (fchk a) := by
  unfold fchk
  repeat' split
  all_goals exact ⟨by decide, by decide⟩
theorem er_tell (q : Rat) : Er (tell q).2 := by
  unfold tell
  split
  · exact ⟨by decide, by decide⟩
  · exact Er.zero
theorem er_both {a b : Fr} {r : Rat → Rat → Fr × Int} (h : ∀ p q, Er (r p q).2) : Er (both a b r).2 := by
  unfold both
  split
  · exact er_fchk a
  · split
    · exact er_fchk b
    · exact h _ _
theorem er_add (a b : Fr) : Er (fadd a b).2 := er_both fun _ _ => er_tell _
theorem er_sub (a b : Fr) : Er (fsub a b).2 := er_both fun _ _ => er_tell _
theorem er_mul (a b : Fr) : Er (fmul a b).2 := er_both fun _ _ => er_tell _
theorem er_quo (a b : Fr) : Er (fquo a b).2 := er_both fun _ _ => by
  split
  · exact ⟨by decide, by decide⟩
  · exact er_tell _
theorem er_neg (a : Fr) : Er (fneg a).2 := by
  unfold fneg
  split
  · exact er_fchk a
  · exact Er.zero
theorem er_small (n d : Int) : Er (fsmall n d).2 := by
  unfold fsmall
  split
  · exact ⟨by decide, by decide⟩
  · exact er_tell _
abbrev tW : Ty := .pr (.it .i64) .un
def tysS : List (Nat × (Ty × Nat)) := [(4, (.bo, 0)), (3, (.it .i64, 0)), (59, (.it .u32, 0)), (22, (tW32, 59)),
 (24, (tR, 0)),
 (26, (tG, 0)),
 (33, (.it .i64, 0)),
 (114, (.sl tG, 26)),
 (44, (.sl tR, 24)),
 (78, (tW, 0)),
 (21, (.it .i32, 0)),
 (5, (.it .u8, 0)),
 (63, (tFault, 0)),
 (68, (tWhole, 0)),
 (9, (.st, 0)),
 (30, (.pr .bo .un, 0)),
 (52, (.pr .bo .un, 0)),
 (119, (.it .u64, 0)),
  (2, (.it .i64, 0))]
theorem tys_ok : tyB Tryz.prog tysS tysS = true := by kernel_rfl
abbrev cfgS (N : Nat) (hp : Bool) (pr : List (Nat × Prim)) : Cfg := { N, hp, ty := tysS, pr }
def codeOf (f : Func) : Code := match f.body with
  | some c => c
  | none => .skip
theorem mixed_ : Tryz.prog.follows .mixedOrders = true := by kernel_rfl
theorem prims_nil {P : Program} : ∀ f p, look ([] : List (Nat × Prim)) f = some p → PrimOk P f p := fun _ _ h => by cases h
theorem prims_cons {P : Program} {f : Nat} {p : Prim} {l : List (Nat × Prim)} (h : PrimOk P f p) (k : ∀ f p, look l f = some p → PrimOk P f p) : ∀ g q, look ((f, p) :: l) g = some q → PrimOk P g q := fun g q e => by
  unfold look at e
  cases hb : Nat.beq f g with
  | true => rw [hb] at e; cases e; rw [← Nat.eq_of_beq_eq_true hb]; exact h
  | false => rw [hb] at e; exact k g q e
theorem rcheck_rf_ (a : Fr) (p : Adr) (w : World) (ha : RF w p a) : Calls Tryz.prog 33 #[.agg #[.bool a.neg, .slice p.A a.num.length p.c, .slice p.B a.den.length p.d]] w fun e w' => e = .returned (.int .i64 (fchk a)) ∧ Below w.heap.size w w' :=
  rcheck_any a.neg p.A p.B a.num a.den p.c p.d w ha.num ha.den ha.wf.num ha.wf.den
def sp_rCheck : Spec := spE1 fchk
theorem fo_rCheck : FnOk Tryz.prog 33 sp_rCheck := fnOk_E1 (callFunc_enter Tryz.func33 (by kernel_rfl) rfl) er_fchk (fun a p w ha => rcheck_rf_ a p w ha)
def sp_rAdd : Spec := sp2 fadd
theorem fo_rAdd : FnOk Tryz.prog 35 sp_rAdd := fnOk_2 (callFunc_enter Tryz.func35 (by kernel_rfl) rfl) er_add (fun a b p q w ha hb => rAdd a b p q w ha hb)
def sp_rSub : Spec := sp2 fsub
theorem fo_rSub : FnOk Tryz.prog 37 sp_rSub := fnOk_2 (callFunc_enter Tryz.func37 (by kernel_rfl) rfl) er_sub (fun a b p q w ha hb => rSub a b p q w ha hb)
def sp_rMul : Spec := sp2 fmul
theorem fo_rMul : FnOk Tryz.prog 21 sp_rMul := fnOk_2 (callFunc_enter Tryz.func21 (by kernel_rfl) rfl) er_mul (fun a b p q w ha hb => rMul a b p q w ha hb)
def sp_rQuo : Spec := sp2 fquo
theorem fo_rQuo : FnOk Tryz.prog 39 sp_rQuo := fnOk_2 (callFunc_enter Tryz.func39 (by kernel_rfl) rfl) er_quo (fun a b p q w ha hb => rQuo a b p q w ha hb)
def sp_rNeg : Spec := sp1 fneg
theorem fo_rNeg : FnOk Tryz.prog 38 sp_rNeg := fnOk_1 (callFunc_enter Tryz.func38 (by kernel_rfl) rfl) er_neg (fun a p w ha => rNeg a p w ha)
def sp_rSmall : Spec := spI fsmall
theorem fo_rSmall : FnOk Tryz.prog 40 sp_rSmall := fnOk_I (callFunc_enter Tryz.func40 (by kernel_rfl) rfl) er_small (fun n d w h0 h1 k0 k1 => rSmall n d w h0 h1 k0 k1)
def sp_rSame : Spec := spB2 fun a b => decide (a = b)
theorem fo_rSame : FnOk Tryz.prog 34 sp_rSame := fnOk_B2 (callFunc_enter Tryz.func34 (by kernel_rfl) rfl)  (fun a b p q w ha hb => rSame a b p q w ha hb)
abbrev Ro (l : List Ty) : Type := El .un × Els l
abbrev aW (C : Cfg) (iv : Nat → Option Inv) (f : Func) (S : Spec) (y : El S.q) (x : Els S.ps) : Prop := aw C iv (codeOf f) 0 (retQ C S f.results.toList y x) (startT S x) (startO S y) 1
def toN (l : List Int) : Nat := (val l).toNat
def nrm (l : List Int) : Prop := l = wd (toN l)
theorem toN_wd (n : Nat) : toN (wd n) = n := by
  unfold toN
  rw [val_wd]
  rfl
theorem nrm_wd (n : Nat) : nrm (wd n) := by
  unfold nrm
  rw [toN_wd]
theorem nrm_ex {l : List Int} (h : nrm l) : ∃ n, l = wd n := ⟨_, h⟩
theorem rv_wd {Z : Nat → Prop} {w : World} {l : List Int} {v : Value} (h : RV Z w tW32 l v) : ∃ A c, v = .slice A l.length c ∧ Rd w A c l ∧ Wf l := by
  unfold RV at h
  rw [if_neg (by simp [Ty.agg])] at h
  obtain ⟨A, c, e, h1, h2⟩ := rd_of h
  exact ⟨A, c, by simpa using e, h1, h2⟩
theorem blkA1_nodup (A : Option Addr) : (blkA A).Nodup := by cases A <;> simp [blkA]
theorem blkA1_base {w : World} {base : Nat} {A : Option Addr} {c : Nat} {xs : List Int} (h : Own w base A c xs) : ∀ g ∈ blkA A, base ≤ g := fun g hg => by
  cases hA : A with
  | none => rw [hA] at hg; simp [blkA] at hg
  | some a => rw [hA] at hg; simp [blkA] at hg; rw [hA] at h; rw [hg]; exact h.block.1
theorem cmp_rng (m n : Nat) : -1 ≤ cmp m n ∧ cmp m n ≤ 1 := by
  unfold cmp
  repeat' split
  all_goals omega
section
variable {f : Nat} (hc : ∀ (vs : Array Value) (w : World), (callFunc f vs).run Tryz.prog w = .ok (.enter f vs) w)
include hc
end
theorem rq_i64 {Z : Nat → Prop} {w : World} {base : Nat} {e : Int} (h : -1 ≤ e ∧ e ≤ 1) : RQ true Z w base (.it .i64) e [.int .i64 e] [] := by
  refine ⟨?_, rfl⟩
  rw [RT]
  exact ⟨rfl, Int.le_trans (by decide) h.1, Int.le_trans h.2 (by decide)⟩
def sp_aCmp : Spec := { q := .un, ps := [tW32, tW32], rs := [.it .i64], fresh := true, pre := fun _ x => some (nrm x.1 ∧ nrm x.2.1), post := fun _ x => ((), (cmp (toN x.1) (toN x.2.1), ())) }
theorem fo_aCmp : FnOk Tryz.prog 70 sp_aCmp := by
  refine ⟨callFunc_enter Tryz.func70 (by kernel_rfl) rfl, fun Z w gv vs y x hZ hv hp _ _ => ?_⟩
  obtain ⟨xs, ys, u⟩ := x
  match vs, hv with
  | [u, v], ⟨h1, h2, _⟩ =>
    obtain ⟨p1, p2⟩ : nrm xs ∧ nrm ys := hp
    obtain ⟨m, rfl⟩ := nrm_ex p1
    obtain ⟨n, rfl⟩ := nrm_ex p2
    obtain ⟨A, c, rfl, k1, _⟩ := rv_wd h1
    obtain ⟨B, d, rfl, k2, _⟩ := rv_wd h2
    refine (compare_any A B m n c d w k1 k2).mono fun e w' ⟨e1, e2⟩ => ?_
    subst e1
    refine told_new (S := sp_aCmp) (r := (cmp (toN (wd m)) (toN (wd n)), ())) (us := [_]) (bs := []) rfl rfl (.inl ⟨_, rfl, rfl⟩) hZ ⟨[], [], rfl, ⟨?_, rfl⟩, rfl⟩ List.nodup_nil (fun g hg => by simp at hg) e2
    rw [RT, toN_wd, toN_wd]
    have := cmp_rng m n
    exact ⟨rfl, Int.le_trans (by decide) this.1, Int.le_trans this.2 (by decide)⟩
theorem told_WE {gv : Nat} {S : Spec} {Z : Nat → Prop} {w w' : World} {n : Nat} {e : Int} {A : Option Addr} {c : Nat} (hS : S.ptr = false) (hf : S.fresh = true) (hrs : S.rs = [tW32, .it .i64]) (he : Er e) (h1 : Own w' w.heap.size A c (wd n)) (h2 : Ext w w') (hZ : ∀ g, Z g → g < w.heap.size) {q : El S.q} {r : Els S.rs} (hr : r = hrs ▸ ((wd n, e, ()) : Els [tW32, .it .i64])) :
    ∃ v us bs Z', Ending.returned (.tuple #[.slice A (wd n).length c, .int .i64 e]) = .returned v ∧ told_ us v ∧ RQs S.fresh Z' w' w.heap.size S.rs r us bs ∧ bs.Nodup ∧ (∀ g ∈ bs, ¬ Z' g) ∧
      (∀ g, Z g → Z' g) ∧ (∀ g, Z' g → Z g ∨ w.heap.size ≤ g) ∧ (∀ g, Z' g → g < w'.heap.size) ∧ w.grownBy w' (if S.ptr = true then some gv else none) ∧
      (S.ptr = true → ∃ cells et, w'.heap[gv]? = some (.cells cells et (0, 0)) ∧ RT Z' w' S.q q cells.toList) := by
  refine told_new (us := [.slice A (wd n).length c, .int .i64 e]) (bs := blkA A) hS hf (.inr ⟨by simp, rfl⟩) hZ ?_ (blkA1_nodup A) (blkA1_base h1) h2
  obtain ⟨qq, ps, rs, fresh, pre, post⟩ := S
  cases hrs
  subst hr
  exact ⟨_, [], (List.append_nil _).symm, rq_own h1 (wf_wd n), [], [], rfl, rq_err (base := w.heap.size) he, rfl⟩
def sp_aGcd : Spec := { q := .un, ps := [tW32, tW32], rs := [tW32, .it .i64], fresh := true, pre := fun _ x => some (nrm x.1 ∧ nrm x.2.1 ∧ x.1.length ≤ 8192 ∧ x.2.1.length ≤ 8192), post := fun _ x => ((), (wd (Nat.gcd (toN x.1) (toN x.2.1)), 0, ())) }
theorem fo_aGcd : FnOk Tryz.prog 78 sp_aGcd := by
  refine ⟨callFunc_enter Tryz.func78 (by kernel_rfl) rfl, fun Z w gv vs y x hZ hv hp _ _ => ?_⟩
  obtain ⟨xs, ys, u⟩ := x
  match vs, hv with
  | [u, v], ⟨h1, h2, _⟩ =>
    obtain ⟨p1, p2, p3, p4⟩ : nrm xs ∧ nrm ys ∧ xs.length ≤ 8192 ∧ ys.length ≤ 8192 := hp
    obtain ⟨m, rfl⟩ := nrm_ex p1
    obtain ⟨n, rfl⟩ := nrm_ex p2
    obtain ⟨A, c, rfl, k1, _⟩ := rv_wd h1
    obtain ⟨B, d, rfl, k2, _⟩ := rv_wd h2
    refine (gcd_any A B m n c d w k1 k2 p3 p4).mono fun e w' ⟨A', c', e1, e2, e3⟩ => ?_
    subst e1
    exact told_WE (S := sp_aGcd) rfl rfl rfl Er.zero e2 e3 hZ (by show ((wd (Nat.gcd (toN (wd m)) (toN (wd n))), (0 : Int), ()) : Els [tW32, .it .i64]) = _; rw [toN_wd, toN_wd])
theorem fsign_rng (a : Fr) : -1 ≤ fsign a ∧ fsign a ≤ 1 := by
  unfold fsign
  repeat' split
  all_goals constructor <;> decide
def sp_rSgn : Spec := { q := .un, ps := [tR], rs := [.it .i64], fresh := true, pre := fun _ _ => none, post := fun _ x => ((), (fsign (toFr x.1), ())) }
theorem fo_rSgn : FnOk Tryz.prog 23 sp_rSgn := by
  refine ⟨callFunc_enter Tryz.func23 (by kernel_rfl) rfl, fun Z w gv vs y x hZ hv hp _ _ => ?_⟩
  match vs, hv with
  | [u], ⟨h1, _⟩ =>
    obtain ⟨p, rfl, k1⟩ := rv_fr h1
    refine (sign_fr (toFr x.1) p.A p.B _ _ w k1.num k1.den k1.wf).mono fun e w' ⟨e1, e2⟩ => ?_
    subst e1
    exact told_new (S := sp_rSgn) (r := (fsign (toFr x.1), ())) (us := [_]) (bs := []) rfl rfl (.inl ⟨_, rfl, rfl⟩) hZ ⟨[], [], rfl, rq_i64 (base := w.heap.size) (fsign_rng _), rfl⟩ List.nodup_nil (fun g hg => by simp at hg) e2
section
variable {P : Program} {C : Cfg} {gp : Option Nat} {Z0 Z Z' : Nat → Prop} {w0 w w' : World} {D D' : Nat → Prop} {c c' : Cf} {T : Nat → Option AV} {O O' : Store} {a : Act} {o : Oper} {N : Nat}
end
section
variable {P : Program} {C : Cfg} {gp : Option Nat} {Z0 Z Z' : Nat → Prop} {w0 w w' : World} {D D' : Nat → Prop} {c c' : Cf} {T : Nat → Option AV} {O O' : Store} {a : Act} {N : Nat}
end
theorem wf_i {l : List Int} (h : wfE tW32 l) : Wf l := fun x hx => ⟨(h.2 x hx).1, Int.lt_of_le_of_lt (h.2 x hx).2 (by decide)⟩
theorem wf_fr {a : El tR} (h : wfE tR a) : (toFr a).Wf := ⟨wf_i h.2.1, wf_i h.2.2.1⟩
section
variable {gp : Option Nat} {Z0 : Nat → Prop} {w0 w w' : World} {D : Nat → Prop} {c : Cf} {T : Nat → Option AV} {O : Store} {a : Act} {N : Nat}
end
section
variable {wb w0 w w' : World} {row : Option Nat} {V : List (Nat × List Value)} {R : List (Adr × Fr)}
end
def pick {α : Type} (R : List α) : List Nat → List α
  | [] => []
  | i :: I => match R[i]? with
    | some x => x :: pick R I
    | none => pick R I
section
variable {wb w0 w w' : World} {row : Option Nat} {V : List (Nat × List Value)} {R : List (Adr × Fr)}
end
section
variable {wb w0 w w' : World} {row : Option Nat} {V : List (Nat × List Value)} {R : List (Adr × Fr)}
end
section
variable {gp : Option Nat} {Z0 : Nat → Prop} {w0 w w' : World} {D : Nat → Prop} {c : Cf} {T : Nat → Option AV} {O : Store} {a : Act} {N : Nat}
end
def cut (w : World) (n : Nat) : World := { w with heap := w.heap.extract 0 n }
theorem ba_loop (s : ByteArray) (i : Nat) (r : List UInt8) : ByteArray.toList.loop s i r = r.reverse ++ s.data.toList.drop i := by
  by_cases h : i < s.size
  · rw [ByteArray.toList.loop, if_pos h, ba_loop s (i + 1), List.reverse_cons, List.append_assoc]
    have hl : i < s.data.toList.length := h
    rw [List.drop_eq_getElem_cons hl]
    congr 1
    show [s.get! i] ++ _ = _
    have : s.get! i = s.data.toList[i] := by
      show s.data[i]! = _
      rw [getElem!_pos s.data i h]
      simp
    rw [this]
    rfl
  · rw [ByteArray.toList.loop, if_neg h, List.drop_of_length_le (by show s.data.toList.length ≤ i; simpa using h), List.append_nil]
  termination_by s.size - i
theorem ba_list (s : ByteArray) : s.toList = s.data.toList := by
  unfold ByteArray.toList
  rw [ba_loop]
  rfl
theorem ba_0 (s : ByteArray) : (s.toList == ByteArray.toList { data := #[] }) = decide (s.size = 0) := by
  rw [Bool.eq_iff_iff, beq_iff_eq, decide_eq_true_eq, ba_list, ba_list]
  obtain ⟨⟨a⟩⟩ := s
  show a = [] ↔ a.length = 0
  simp
theorem ltT {a b : Int} (h : decide (a < b) = true) : a < b := of_decide_eq_true h
theorem ltF {a b : Int} (h : decide (a < b) = false) : b ≤ a := by have := of_decide_eq_false h; omega
theorem gtT {a b : Int} (h : decide (a > b) = true) : b < a := of_decide_eq_true h
theorem gtF {a b : Int} (h : decide (a > b) = false) : a ≤ b := by have := of_decide_eq_false h; omega
theorem leT {a b : Int} (h : decide (a ≤ b) = true) : a ≤ b := of_decide_eq_true h
theorem leF {a b : Int} (h : decide (a ≤ b) = false) : b < a := by have := of_decide_eq_false h; omega
theorem geT {a b : Int} (h : decide (a ≥ b) = true) : b ≤ a := of_decide_eq_true h
theorem geF {a b : Int} (h : decide (a ≥ b) = false) : a < b := by have := of_decide_eq_false h; omega
theorem eqT {a b : Int} (h : (a == b) = true) : a = b := eq_of_beq h
theorem eqF {a b : Int} (h : (a == b) = false) : a ≠ b := ne_of_beq_false h
theorem neT {a b : Int} (h : (a != b) = true) : a ≠ b := by simpa using h
theorem neF {a b : Int} (h : (a != b) = false) : a = b := by simpa using h
theorem wrap64_32 {a : Int} (h : -2147483648 ≤ a ∧ a ≤ 2147483647) : IntKind.i64.wrap a = a := wrap_id (k := .i64) (by have : IntKind.i64.min = -9223372036854775808 := rfl; omega) (by have : IntKind.i64.max = 9223372036854775807 := rfl; omega)
noncomputable def sp_klong : Spec := { q := .un, ps := [tW32], rs := [.bo], fresh := true, pre := fun _ _ => none, post := fun _ x => ((), (isLong x.1.length, ())) }
noncomputable def iv_klong (y : El sp_klong.q) (x : Els sp_klong.ps) : Nat → Option Inv := fun _ => none
noncomputable abbrev c_klong : Cfg := cfgS (Tryz.f67).ntmps false []
def F_klong (y : El sp_klong.q) (x : Els sp_klong.ps) : Prop :=
  (decide ((x.1.length : Int) > (60 : Int)) = true → (decide ((x.1.length : Int) ≤ (2048 : Int)) = true → (true, ()) = (isLong (List.length x.1), ())) ∧ (decide ((x.1.length : Int) ≤ (2048 : Int)) = false → (decide ((x.1.length : Int) ≥ (2057 : Int)), ()) = (isLong (List.length x.1), ()))) ∧ (decide ((x.1.length : Int) > (60 : Int)) = false → (false, ()) = (isLong (List.length x.1), ()))
theorem w_klong (y : El sp_klong.q) (x : Els sp_klong.ps) : aW c_klong (iv_klong y x) Tryz.f67 sp_klong y x = F_klong y x := by kernel_rfl
theorem m_klong (y : El (.un)) (x : Els [tW32]) (h2 : wfE (.un) y) (h3 : wfEs [tW32] x) : F_klong y x := by
  unfold F_klong
  unfold isLong
  refine ⟨fun h => ⟨fun k => ?_, fun k => ?_⟩, fun h => ?_⟩
  · have h := gtT h
    have k := leT k
    rw [decide_eq_true ⟨by omega, .inl (by omega)⟩]
  · have h := gtT h
    have k := leF k
    refine congrArg (fun b => (b, ())) ?_
    rw [Bool.eq_iff_iff, decide_eq_true_eq, decide_eq_true_eq]
    omega
  · have h := gtF h
    rw [decide_eq_false (by omega)]
theorem fo_klong : FnOk Tryz.prog 67 sp_klong := fnOk_of (C := c_klong) iv_klong Tryz.func67 rfl (by kernel_rfl) tys_ok prims_nil mixed_ (Nat.le_refl _) rfl fun y x h1 h2 h3 h4 =>
  Eq.mpr (w_klong y x) (m_klong y x h2 h3)
def lngF (f : Fr) : Bool := isLong f.num.length || isLong f.den.length
def longs (l : List (El tR)) : Bool := l.any fun f => lngF (toFr f)
theorem any_at {α : Type} {f : α → Bool} {l : List α} {i : Nat} (h : i < l.length) (d : α) (k : f (l.getD i d) = true) : l.any f = true := by
  rw [List.getD_eq_getElem?_getD, List.getElem?_eq_getElem h] at k
  rw [List.any_eq_true]
  exact ⟨l[i], List.getElem_mem h, k⟩
theorem any_take {α : Type} {f : α → Bool} {l : List α} {i : Nat} (h : i < l.length) (d : α) (k : (l.take i).any f = false) (m : f (l.getD i d) = false) : (l.take (i + 1)).any f = false := by
  rw [List.getD_eq_getElem?_getD, List.getElem?_eq_getElem h] at m
  rw [List.take_add_one, List.getElem?_eq_getElem h, Option.toList_some, List.any_append, k]
  simpa using m
noncomputable def sp_kLong : Spec := { q := .un, ps := [.sl tR], rs := [.bo], fresh := true, pre := fun _ _ => none, post := fun _ x => ((), (longs x.1, ())) }
noncomputable def iv_kLong (y : El sp_kLong.q) (x : Els sp_kLong.ps) : Nat → Option Inv := fun k => if k = 0 then some { X := Nat, tm := fun i => [(0, .c (.sl tR x.1)), (3, .c (.sc (.int .i64 i)))], ob := fun _ => [], n := 1, I := fun i => i ≤ x.1.length ∧ longs (x.1.take i) = false, μ := fun i => x.1.length - i } else none
noncomputable abbrev c_kLong : Cfg := cfgS (Tryz.f24).ntmps false [(67, sp_klong.prim)]
def F_kLong (y : El sp_kLong.q) (x : Els sp_kLong.ps) : Prop :=
  (∃ (x_1 : Nat), x.1 = x.1 ∧ (↑x_1 : Int) = (0 : Int) ∧ x_1 ≤ List.length x.1 ∧ longs (List.take x_1 x.1) = false) ∧ ∀ (x_1 : Nat), x_1 ≤ List.length x.1 ∧ longs (List.take x_1 x.1) = false → (decide ((↑x_1 : Int) < (x.1.length : Int)) = true → ((0 : Int) ≤ (↑x_1 : Int) ∧ (↑x_1 : Int) < (x.1.length : Int)) ∧ ∀ (r : Ro [Ty.bo]), r = ((), isLong (List.length (List.getD x.1 (↑x_1 : Int).toNat (dfl tR)).2.1), ()) → (r.2.1 = true → (true, ()) = (longs x.1, ())) ∧ (r.2.1 = false → ((0 : Int) ≤ (↑x_1 : Int) ∧ (↑x_1 : Int) < (x.1.length : Int)) ∧ ∀ (r : Ro [Ty.bo]), r = ((), isLong (List.length (List.getD x.1 (↑x_1 : Int).toNat (dfl tR)).2.2.1), ()) → (r.2.1 = true → (true, ()) = (longs x.1, ())) ∧ (r.2.1 = false → ((-9223372036854775808 : Int) ≤ (↑x_1 : Int) + (1 : Int) ∧ (↑x_1 : Int) + (1 : Int) ≤ (9223372036854775807 : Int)) ∧ ∃ (x' : Nat), x.1 = x.1 ∧ (↑x' : Int) = (↑x_1 : Int) + (1 : Int) ∧ (x' ≤ List.length x.1 ∧ longs (List.take x' x.1) = false) ∧ List.length x.1 - x' < List.length x.1 - x_1))) ∧ (decide ((↑x_1 : Int) < (x.1.length : Int)) = false → (false, ()) = (longs x.1, ()))
theorem w_kLong (y : El sp_kLong.q) (x : Els sp_kLong.ps) : aW c_kLong (iv_kLong y x) Tryz.f24 sp_kLong y x = F_kLong y x := by kernel_rfl
theorem m_kLong (y : El (.un)) (x : Els [.sl tR]) (h2 : wfE (.un) y) (h3 : wfEs [.sl tR] x) : F_kLong y x := by
  unfold F_kLong
  have hL : x.1.length ≤ 9223372036854775807 := h3.1.1
  refine ⟨⟨0, rfl, rfl, Nat.zero_le _, rfl⟩, fun i hi => ⟨fun h => ?_, fun h => ?_⟩⟩
  · obtain ⟨i0, i1⟩ := hi
    have h := ltT h
    have il : i < x.1.length := by omega
    refine ⟨⟨by omega, h⟩, ?_⟩
    rw [Int.toNat_natCast]
    rintro _ rfl
    refine ⟨fun k => ?_, fun k => ⟨⟨by omega, h⟩, ?_⟩⟩
    · have k : isLong (toFr (x.1.getD i (dfl tR))).num.length = true := k
      have : longs x.1 = true := any_at (f := fun f => lngF (toFr f)) il (dfl tR) (by show lngF _ = true; unfold lngF; rw [k]; rfl)
      rw [this]
    rintro _ rfl
    refine ⟨fun m => ?_, fun m => ⟨⟨by omega, by omega⟩, i + 1, rfl, rfl, ⟨il, ?_⟩, by omega⟩⟩
    · have m : isLong (toFr (x.1.getD i (dfl tR))).den.length = true := m
      have : longs x.1 = true := any_at (f := fun f => lngF (toFr f)) il (dfl tR) (by show lngF _ = true; unfold lngF; rw [m]; simp)
      rw [this]
    · have k : isLong (toFr (x.1.getD i (dfl tR))).num.length = false := k
      have m : isLong (toFr (x.1.getD i (dfl tR))).den.length = false := m
      exact any_take (f := fun f => lngF (toFr f)) il (dfl tR) i1 (by show lngF _ = false; unfold lngF; rw [k, m]; rfl)
  · obtain ⟨i0, i1⟩ := hi
    have h := ltF h
    rw [List.take_of_length_le (by omega)] at i1
    rw [i1]
theorem fo_kLong : FnOk Tryz.prog 24 sp_kLong := fnOk_of (C := c_kLong) iv_kLong Tryz.func24 rfl (by kernel_rfl) tys_ok (prims_cons (spec_prim fo_klong) prims_nil) mixed_ (Nat.le_refl _) rfl fun y x h1 h2 h3 h4 =>
  Eq.mpr (w_kLong y x) (m_kLong y x h2 h3)
def gint (a b : Int) : Ga := ⟨(fsmall a 1).1, (fsmall b 1).1⟩
section
variable {t r : Ga}
end
section
variable {r : El tRule}
end
def gone (r : Ga) : Ga × Int := if r = gint (-1) 0 then (Ga.zero, 7) else gadd (gint 1 0) r
def dg1 : ByteArray := ⟨#[48, 49, 50, 51, 52, 53, 54, 55, 56, 57, 97, 98, 99, 100, 101, 102, 103, 104, 105, 106, 107, 108, 109, 110, 111, 112, 113, 114, 115, 116, 117, 118, 119, 120, 121, 122]⟩
def dg2 : ByteArray := ⟨(([48, 48, 48, 49, 48, 50, 48, 51, 48, 52, 48, 53, 48, 54, 48, 55, 48, 56, 48, 57, 49, 48, 49, 49, 49, 50, 49, 51, 49, 52, 49, 53, 49, 54, 49, 55, 49, 56, 49, 57, 50, 48, 50, 49, 50, 50, 50, 51, 50, 52].append [50, 53, 50, 54, 50, 55, 50, 56, 50, 57, 51, 48, 51, 49, 51, 50, 51, 51, 51, 52, 51, 53, 51, 54, 51, 55, 51, 56, 51, 57, 52, 48, 52, 49, 52, 50, 52, 51, 52, 52, 52, 53, 52, 54, 52, 55, 52, 56, 52, 57]).append ([53, 48, 53, 49, 53, 50, 53, 51, 53, 52, 53, 53, 53, 54, 53, 55, 53, 56, 53, 57, 54, 48, 54, 49, 54, 50, 54, 51, 54, 52, 54, 53, 54, 54, 54, 55, 54, 56, 54, 57, 55, 48, 55, 49, 55, 50, 55, 51, 55, 52].append [55, 53, 55, 54, 55, 55, 55, 56, 55, 57, 56, 48, 56, 49, 56, 50, 56, 51, 56, 52, 56, 53, 56, 54, 56, 55, 56, 56, 56, 57, 57, 48, 57, 49, 57, 50, 57, 51, 57, 52, 57, 53, 57, 54, 57, 55, 57, 56, 57, 57])).toArray⟩
def dgB (n : Nat) : ByteArray := if n < 10 then dg1.extract n (n + 1) else dg2.extract (n * 2) (n * 2 + 2)
noncomputable def sp_ssmall : Spec := { q := .un, ps := [.it .i64], rs := [.st], fresh := true, pre := fun _ x => some ((0 : Int) ≤ (x.1 : Int) ∧ (x.1 : Int) < 100), post := fun _ x => ((), (dgB x.1.toNat, ())) }
noncomputable def iv_ssmall (y : El sp_ssmall.q) (x : Els sp_ssmall.ps) : Nat → Option Inv := fun _ => none
noncomputable abbrev c_ssmall : Cfg := cfgS (Tryz.f157).ntmps false []
def F_ssmall (y : El sp_ssmall.q) (x : Els sp_ssmall.ps) : Prop :=
  (fun (i1 : Int) => (decide (i1 < (10 : Int)) = true → ((-9223372036854775808 : Int) ≤ i1 + (1 : Int) ∧ i1 + (1 : Int) ≤ (9223372036854775807 : Int)) ∧ ((0 : Int) ≤ i1 ∧ i1 ≤ i1 + (1 : Int) ∧ i1 + (1 : Int) ≤ (dg1.size : Int)) ∧ (dg1.extract (Int.toNat i1) (i1 + (1 : Int)).toNat, ()) = (dgB (Int.toNat i1), ())) ∧ (decide (i1 < (10 : Int)) = false → ((-9223372036854775808 : Int) ≤ i1 * (2 : Int) ∧ i1 * (2 : Int) ≤ (9223372036854775807 : Int)) ∧ ((-9223372036854775808 : Int) ≤ i1 * (2 : Int) ∧ i1 * (2 : Int) ≤ (9223372036854775807 : Int)) ∧ ((-9223372036854775808 : Int) ≤ i1 * (2 : Int) + (2 : Int) ∧ i1 * (2 : Int) + (2 : Int) ≤ (9223372036854775807 : Int)) ∧ ((0 : Int) ≤ i1 * (2 : Int) ∧ i1 * (2 : Int) ≤ i1 * (2 : Int) + (2 : Int) ∧ i1 * (2 : Int) + (2 : Int) ≤ (↑dg2.size : Int)) ∧ (dg2.extract (i1 * (2 : Int)).toNat (i1 * (2 : Int) + (2 : Int)).toNat, ()) = (dgB (Int.toNat i1), ()))) x.1
theorem w_ssmall (y : El sp_ssmall.q) (x : Els sp_ssmall.ps) : aW c_ssmall (iv_ssmall y x) Tryz.f157 sp_ssmall y x = F_ssmall y x := by kernel_rfl
theorem m_ssmall (y : El (.un)) (x : Els [.it .i64]) (h2 : wfE (.un) y) (h3 : wfEs [.it .i64] x) (h4 : (0 : Int) ≤ (x.1 : Int) ∧ (x.1 : Int) < 100) : F_ssmall y x := by
  unfold F_ssmall
  dsimp only
  obtain ⟨p0, p1⟩ : @LE.le Int _ 0 x.1 ∧ @LT.lt Int _ x.1 100 := h4
  have s1 : dg1.size = 36 := by decide +kernel
  have s2 : dg2.size = 200 := by decide +kernel
  refine ⟨fun h => ?_, fun h => ?_⟩
  · have h := ltT h
    refine ⟨⟨by omega, by omega⟩, ⟨by omega, by omega, by rw [s1]; omega⟩, ?_⟩
    unfold dgB
    rw [if_pos (by omega), show ((x.1 : Int) + 1).toNat = Int.toNat x.1 + 1 by omega]
  · have h := ltF h
    refine ⟨⟨by omega, by omega⟩, ⟨by omega, by omega⟩, ⟨by omega, by omega⟩, ⟨by omega, by omega, by rw [s2]; omega⟩, ?_⟩
    unfold dgB
    rw [if_neg (by omega), show ((x.1 : Int) * 2 + 2).toNat = Int.toNat x.1 * 2 + 2 by omega, show ((x.1 : Int) * 2).toNat = Int.toNat x.1 * 2 by omega]
theorem fo_ssmall : FnOk Tryz.prog 157 sp_ssmall := fnOk_of (C := c_ssmall) iv_ssmall Tryz.func157 rfl (by kernel_rfl) tys_ok prims_nil mixed_ (Nat.le_refl _) rfl fun y x h1 h2 h3 h4 =>
  Eq.mpr (w_ssmall y x) (m_ssmall y x h2 h3 h4)
theorem wrap64_s {n : Int} (h0 : 0 ≤ n) (h1 : n < 100) : IntKind.i64.wrap n = n := by
  exact wrap64_32 ⟨by omega, by omega⟩
noncomputable def sp_sfmtI : Spec := { q := .un, ps := [.it .u64, .it .i64], rs := [.st], fresh := true, pre := fun _ x => some ((0 : Int) ≤ (x.1 : Int) ∧ (x.1 : Int) < 100 ∧ (x.2.1 : Int) = 10), post := fun _ x => ((), (dgB x.1.toNat, ())) }
noncomputable def iv_sfmtI (y : El sp_sfmtI.q) (x : Els sp_sfmtI.ps) : Nat → Option Inv := fun _ => none
noncomputable abbrev c_sfmtI : Cfg := cfgS (Tryz.f127).ntmps false [(157, sp_ssmall.prim)]
def F_sfmtI (y : El sp_sfmtI.q) (x : Els sp_sfmtI.ps) : Prop :=
  ((x.2.1 == (10 : Int)) = true → (decide (x.1 < (100 : Int)) = true → ((0 : Int) ≤ IntKind.i64.wrap x.1 ∧ IntKind.i64.wrap x.1 < (100 : El (Ty.it IntKind.i64))) ∧ ∀ (r : Ro [Ty.st]), r = ((), dgB (IntKind.i64.wrap x.1).toNat, ()) → r.2 = (dgB (Int.toNat x.1), ())) ∧ (decide (x.1 < (100 : Int)) = false → False)) ∧ ((x.2.1 == (10 : Int)) = false → False)
theorem w_sfmtI (y : El sp_sfmtI.q) (x : Els sp_sfmtI.ps) : aW c_sfmtI (iv_sfmtI y x) Tryz.f127 sp_sfmtI y x = F_sfmtI y x := by kernel_rfl
theorem m_sfmtI (y : El (.un)) (x : Els [.it .u64, .it .i64]) (h2 : wfE (.un) y) (h3 : wfEs [.it .u64, .it .i64] x) (h4 : (0 : Int) ≤ (x.1 : Int) ∧ (x.1 : Int) < 100 ∧ (x.2.1 : Int) = 10) : F_sfmtI y x := by
  unfold F_sfmtI
  obtain ⟨p0, p1, p2⟩ : @LE.le Int _ 0 x.1 ∧ @LT.lt Int _ x.1 100 ∧ @Eq Int x.2.1 10 := h4
  have e := wrap64_s p0 p1
  refine ⟨fun _ => ⟨fun _ => ?_, fun h => absurd (ltF h) (Int.not_le.2 p1)⟩, fun h => absurd p2 (neT (by simpa using h))⟩
  rw [e]
  refine ⟨⟨p0, p1⟩, ?_⟩
  rintro _ rfl
  rfl
theorem fo_sfmtI : FnOk Tryz.prog 127 sp_sfmtI := fnOk_of (C := c_sfmtI) iv_sfmtI Tryz.func127 rfl (by kernel_rfl) tys_ok (prims_cons (spec_prim fo_ssmall) prims_nil) mixed_ (Nat.le_refl _) rfl fun y x h1 h2 h3 h4 =>
  Eq.mpr (w_sfmtI y x) (m_sfmtI y x h2 h3 h4)
noncomputable def sp_sfmt : Spec := { q := .un, ps := [.it .u64, .it .i64], rs := [.st], fresh := true, pre := fun _ x => some ((0 : Int) ≤ (x.1 : Int) ∧ (x.1 : Int) < 100 ∧ (x.2.1 : Int) = 10), post := fun _ x => ((), (dgB x.1.toNat, ())) }
noncomputable def iv_sfmt (y : El sp_sfmt.q) (x : Els sp_sfmt.ps) : Nat → Option Inv := fun _ => none
noncomputable abbrev c_sfmt : Cfg := cfgS (Tryz.f101).ntmps false [(127, sp_sfmtI.prim)]
def F_sfmt (y : El sp_sfmt.q) (x : Els sp_sfmt.ps) : Prop :=
  ((0 : Int) ≤ x.1 ∧ x.1 < (100 : El (Ty.it IntKind.u64)) ∧ x.2.1 = (10 : El (Ty.it IntKind.i64))) ∧ ∀ (r : Ro [Ty.st]), r = ((), dgB (Int.toNat x.1), ()) → r.2 = (dgB (Int.toNat x.1), ())
theorem w_sfmt (y : El sp_sfmt.q) (x : Els sp_sfmt.ps) : aW c_sfmt (iv_sfmt y x) Tryz.f101 sp_sfmt y x = F_sfmt y x := by kernel_rfl
theorem m_sfmt (y : El (.un)) (x : Els [.it .u64, .it .i64]) (h2 : wfE (.un) y) (h3 : wfEs [.it .u64, .it .i64] x) (h4 : (0 : Int) ≤ (x.1 : Int) ∧ (x.1 : Int) < 100 ∧ (x.2.1 : Int) = 10) : F_sfmt y x := by
  unfold F_sfmt
  refine ⟨h4, ?_⟩
  rintro _ rfl
  rfl
theorem fo_sfmt : FnOk Tryz.prog 101 sp_sfmt := fnOk_of (C := c_sfmt) iv_sfmt Tryz.func101 rfl (by kernel_rfl) tys_ok (prims_cons (spec_prim fo_sfmtI) prims_nil) mixed_ (Nat.le_refl _) rfl fun y x h1 h2 h3 h4 =>
  Eq.mpr (w_sfmt y x) (m_sfmt y x h2 h3 h4)
theorem calls_st {P : Program} {f : Nat} {ts : List Ty} {pre : El .un → Els ts → Option Prop} {F : Els ts → ByteArray} {W : World} {Z : Nat → Prop} {x : Els ts} {vs : List Value} (h : FnOk P f { q := .un, ps := ts, rs := [.st], fresh := true, pre := pre, post := fun _ x => ((), (F x, ())) }) (hp : holds (pre () x)) (hz : ∀ g, Z g → g < W.heap.size) (hv : RVs Z W ts x vs) : Calls P f vs.toArray W fun e W' => e = .returned (.string (F x)) ∧ Ext W W' := by
  refine (h.2 Z W 0 vs () x hz hv hp (fun e => by cases e) (fun _ => rfl)).mono ?_
  rintro e w' ⟨v, us, bs, Z', rfl, t1, t2, _, _, _, _, _, t8, _⟩
  have t8 : W.grownBy w' none := t8
  refine ⟨?_, ⟨t8.os, t8.tape, t8.output, t8.size, fun k hk => t8.block k hk (by simp)⟩⟩
  match us, t2 with
  | [u], ⟨b, b', _, h1, h2⟩ =>
    have h1 : RT _ w' .st (F x) [u] ∧ b = [] := h1
    rw [RT] at h1
    have e1 : u = .string (F x) := by simpa using h1.1.1
    rcases t1 with ⟨u', e2, rfl⟩ | ⟨h3, _⟩
    · cases e2; rw [e1]
    · simp at h3
theorem fmt_any (n : Nat) (w : World) (hn : n < 100) : Calls Tryz.prog 101 #[.int .u64 (n : Int), .int .i64 10] w fun e w' => e = .returned (.string (dgB n)) ∧ Ext w w' := by
  refine (calls_st (Z := fun _ => False) (x := ((n : Int), (10 : Int), ())) (vs := [.int .u64 (n : Int), .int .i64 10]) fo_sfmt ?_ (fun g hg => hg.elim) ⟨?_, ?_, trivial⟩).mono ?_
  · show (0 : Int) ≤ (n : Int) ∧ (n : Int) < 100 ∧ (10 : Int) = 10
    omega
  · unfold RV
    rw [if_neg (by decide), RT]
    exact ⟨rfl, Int.le_trans (show IntKind.u64.min ≤ 0 by decide) (by omega), Int.le_trans (show (n : Int) ≤ 100 by omega) (by decide)⟩
  · unfold RV
    rw [if_neg (by decide), RT]
    exact ⟨rfl, show IntKind.i64.min ≤ 10 by decide, show (10 : Int) ≤ IntKind.i64.max by decide⟩
  · rintro e w' ⟨rfl, hx⟩
    exact ⟨rfl, hx⟩
theorem rev_one (A : Option Addr) (c : Nat) (w : World) : Calls Tryz.prog 103 #[.slice A 1 c] w fun e w' => (∃ v, e = .returned v) ∧ w' = w := by
  go_enter Tryz.func103, Tryz.ntmps103
  go_wp2_with fail
  go_loopw [2, 3] (fun i j wr => i = .int .i64 0 ∧ j = .int .i64 0 ∧ wr = w) (fun _ _ _ => 0)
  case atStart => exact ⟨rfl, rfl, rfl⟩
  case round =>
    obtain ⟨rfl, rfl, rfl⟩ := hrel
    go_wp2_with fail
    go_end0
    exact ⟨⟨_, rfl⟩, rfl⟩
theorem join_one (g c : Nat) (s p : ByteArray) (w : World) (hc : w.cell? ⟨g, 0, none⟩ = some (.string s)) : Calls Tryz.prog 104 #[.slice (some ⟨g, 0, none⟩) 1 c, .string p] w fun e w' => e = .returned (.string s) ∧ w' = w := by
  go_enter Tryz.func104, Tryz.ntmps104
  go_wp2_with fail
  go_ret
  exact ⟨rfl, rfl⟩
theorem info_str : (Tryz.prog.info? 9).map (fun i => (i.zero, i.size, i.bytes)) = some (some (.string ⟨#[]⟩), 1, 16) := by kernel_rfl
theorem wpList_appS {w : World} {ops : Array Oper} {rest : List Oper} {o : Oper} {a : Act} {Q : Exit → Act → World → Prop} (hgd : o.guard = none) (s x : Operand)
    (ho : o.op = .call { callee := .builtin .append, args := #[s, x], argTypes := #[61, 61] })
    (hs : a.eval s = .slice none 0 0) (b : Nat) (y : ByteArray) (hx : a.eval x = .slice (some ⟨b, 0, none⟩) 1 1) (hc : w.cell? ⟨b, 0, none⟩ = some (.string y))
    (h : ∀ g c' w', w'.cell? ⟨g, 0, none⟩ = some (.string y) → w.heap.size ≤ g → w.grownBy w' none → wpList Tryz.prog ops Q rest (a.put o.dst (.slice (some ⟨g, 0, none⟩) 1 c')) w') : wpList Tryz.prog ops Q (o :: rest) a w := by
  obtain ⟨i0, hi, hz0, hz1, hz2⟩ := info_parts info_str
  refine wpList_append_own w hgd s x 61 ho w.heap.size 9 i0 (.string ⟨#[]⟩) 1 16 Tryz.underlying61 hi hz0 hz1 hz2 rfl (by decide) _ _ _ hs (World.ownsRow_nil w w.heap.size _ 1) ⟨b, 0, none⟩ 1 1 [.string y] hx rfl
    (fun j u hu => ?_) (fun u hu => ?_) (by unfold maxLen; omega) (by omega) (Nat.le_refl _) ?_
  · match j, hu with
    | 0, hu => cases hu; exact hc
    | j + 1, hu => simp at hu
  · rw [List.mem_singleton] at hu
    subst hu
    rfl
  intro v' w' h2 h3 _
  have h4 := h2
  rcases h2.2 with ⟨_, h1⟩ | ⟨g, cap, cur, rfl, g1, g2, g3, g4, g5, g6⟩
  · simp at h1
  · exact h g cap w' (World.ownsRow.cells h4 (g := g) rfl 0 _ rfl) g1 h3
theorem wd_small {n : Nat} (h0 : n ≠ 0) (hn : n < 4294967296) : (wd n).length = 1 := by
  have h1 : (wd n).length ≤ 1 := wd_len_le n 1 (by show (n : Int) < 4294967296; omega)
  have h2 : (wd n).length ≠ 0 := fun e => h0 (wd_len_zero.1 e)
  omega
theorem nprint_small (A : Option Addr) (c n : Nat) (w : World) (ha : Rd w A c (wd n)) (hn : n < 100) :
    Calls Tryz.prog 69 #[.slice A (wd n).length c] w fun e w' => e = .returned (.tuple #[.string (dgB n), .int .i64 0]) ∧ Ext w w' := by
  have HA := Lib.hid ha
  have hl : (wd n).length ≤ 1 := wd_len_le n 1 (by show (n : Int) < 4294967296; omega)
  clear ha
  go_enter Tryz.func69, Tryz.ntmps69
  go_wp2_with fail
  refine (check_any A _ c w HA.out).mono ?_; rintro e w' ⟨rfl, rfl⟩
  rw [chk_wd n (by omega)]
  by_cases h0 : n = 0
  · subst h0
    have hb : (((wd 0).length : Int) == 0) = true := by rw [wd_zero]; rfl
    go_wp2_with fail
    go_ret2
    exact ⟨rfl, Ext.refl _⟩
  · have h1 := Lib.hid (wd_small h0 (by omega))
    have hb : (((wd n).length : Int) == 0) = false := beq_eq_false_iff_ne.2 (by have := h1.out; omega)
    go_wp2_with fail
    refine (clone_any A _ c _ HA.out (by omega)).mono ?_; rintro e w1 ⟨A1, c1, rfl, k1, k2⟩
    have H1 := Lib.hid k1
    have HX := Lib.hid k2
    clear k1 k2 hb
    go_wp2_with fail
    go_loopg [5, 6] 1 (fun k p x wr => (k = 1 ∧ p = .slice none 0 0 ∧ x = .slice A1 (wd n).length c1 ∧ Hid (Own wr w.heap.size A1 c1 (wd n)) ∧ Hid (Ext w wr)) ∨ (k = 0 ∧ ∃ g cp cx, p = .slice (some ⟨g, 0, none⟩) 1 cp ∧ x = .slice A1 0 cx ∧ Hid (wr.cell? ⟨g, 0, none⟩ = some (.string (dgB n))) ∧ Hid (Ext w wr)))
    case atStart => exact .inl ⟨rfl, rfl, rfl, H1.out, HX.out⟩
    case round =>
      clear H1 HX
      rcases hrel with ⟨hk, rfl, rfl, HO, HX⟩ | ⟨hk, g, cp, cx, rfl, rfl, HC, HX⟩
      · have hb : 0 < (wd n).length := by have := h1.out; omega
        go_wp2_with fail
        refine (small_any A1 n 1000000000 c1 w.heap.size _ HO.out (by omega) (by omega) (by omega) 0 n (Nat.div_eq_of_lt (by omega)) (Nat.mod_eq_of_lt (by omega))).mono ?_; rintro e w2 ⟨rfl, k1, k2⟩
        rw [wd_zero]
        have HX2 := Lib.hid (HX.out.grown k2 (fun b hb => by
          cases A1 with
          | none => cases hb
          | some a => cases hb; exact (HO.out.block).1))
        clear k1 k2
        go_wp2_with fail
        refine (fmt_any n _ hn).mono ?_; rintro e w3 ⟨rfl, hx⟩
        have HX3 := Lib.hid (HX2.out.trans hx)
        clear hx
        go_wp2_with (at_builtin; refine wpList_appS rfl _ _ rfl rfl _ (dgB n) rfl (by simp [go_sem]) ?_; intro g c' w4 hc hg hgr)
        have HX4 := Lib.hid ((HX3.out.alloc _).grownNone hgr)
        have HC := Lib.hid hc
        clear hc hgr
        go_roundg 0
        case measure => omega
        case rel => exact .inr ⟨rfl, g, c', c1, rfl, rfl, HC.out, HX4.out⟩
      · go_wp2_with fail
        refine (rev_one _ _ _).mono ?_; rintro e w5 ⟨⟨v, rfl⟩, rfl⟩
        go_wp2_with fail
        refine (join_one g cp (dgB n) _ _ HC.out).mono ?_; rintro e w6 ⟨rfl, rfl⟩
        go_wp2_with fail
        go_ret2
        exact ⟨rfl, HX.out⟩
def sp_aPrint : Spec := { q := .un, ps := [tW32], rs := [.st, .it .i64], fresh := true, pre := fun _ x => some (nrm x.1 ∧ toN x.1 < 100), post := fun _ x => ((), (dgB (toN x.1), 0, ())) }
theorem dgB_size : ∀ n, n < 100 → (dgB (n : Nat)).size ≤ 2 := by decide +kernel
theorem fo_aPrint : FnOk Tryz.prog 69 sp_aPrint := by
  refine ⟨callFunc_enter Tryz.func69 (by kernel_rfl) rfl, fun Z w gv vs y x hZ hv hp _ _ => ?_⟩
  obtain ⟨xs, u⟩ := x
  match vs, hv with
  | [u], ⟨h1, _⟩ =>
    obtain ⟨p1, p2⟩ : nrm xs ∧ toN xs < 100 := hp
    obtain ⟨n, rfl⟩ := nrm_ex p1
    rw [toN_wd] at p2
    obtain ⟨A, c, rfl, k1, _⟩ := rv_wd h1
    refine (nprint_small A c n w k1 p2).mono fun e w' ⟨e1, e2⟩ => ?_
    subst e1
    refine told_new (S := sp_aPrint) (r := (dgB (toN (wd n)), 0, ())) (us := [_, _]) (bs := []) rfl rfl (.inr ⟨by simp, rfl⟩) hZ ⟨[], [], rfl, ⟨?_, rfl⟩, [], [], rfl, rq_err (base := w.heap.size) Er.zero, rfl⟩ List.nodup_nil (fun g hg => by simp at hg) e2
    rw [RT, toN_wd]
    exact ⟨rfl, Nat.le_trans (dgB_size n p2) (by decide)⟩
end Go.Proofs.YtakaehdolpmelaaGreatDoor
