/- Texts of this claim, joined: Y1 G1 G2 G3 G4 G5 G6 G7 G8 G9a G10 G11 G12 G13 G14 G15 G16 G17 G18 G19 G20 G9s Y3 B1 B2 B3 A25 U1 U2 B4. -/
import Derived.Handy
import Derived.Lib.ItoaWalk
import Derived.Deep.RegionHeld3
import Derived.RegionTactic
import Derived.ChangeAlike
import Derived.OneCell
import Derived.Test.YtjoonfegjobgbaaGreatDoorRo
set_option linter.unusedVariables false
set_option linter.unusedSimpArgs false
set_option maxRecDepth 100000
namespace Go.Proofs.YtjoonfegjobgbaaGreatDoor
open Go Go.RowKit
structure Adr where
  A : Option Addr
  c : Nat
  B : Option Addr
  d : Nat
structure RF (w : World) (p : Adr) (f : Fr) : Prop where
  num : Rd w p.A p.c f.num
  den : Rd w p.B p.d f.den
  wf : f.Wf
structure OF (w : World) (base : Nat) (p : Adr) (f : Fr) : Prop where
  num : Own w base p.A p.c f.num
  den : Own w base p.B p.d f.den
  ap : ∀ a b, p.A = some a → p.B = some b → a.block ≠ b.block
  wf : f.Wf
def TF (w : World) (t : Fr × Int) (e : Ending) (w' : World) : Prop :=
  ∃ p : Adr, e = .returned (.tuple #[.agg #[.bool t.1.neg, .slice p.A t.1.num.length p.c, .slice p.B t.1.den.length p.d], .int .i64 t.2]) ∧ OF w' w.heap.size p t.1 ∧ Below w.heap.size w w'
theorem RatP.tf {w w' : World} {t : Fr × Int} {e : Ending} (h : RatP w t e w') (hg : t.1.Wf) : TF w t e w' := by
  obtain ⟨A, c, B, d, h1, h2, h3, h4, h5⟩ := h
  exact ⟨⟨A, c, B, d⟩, h1, ⟨h2, h3, h4, hg⟩, h5⟩
section
variable (a b : Fr) (p q : Adr) (w : World) (ha : RF w p a) (hb : RF w q b)
include ha hb
theorem rAdd : Calls Tryz.prog 15 #[.agg #[.bool a.neg, .slice p.A a.num.length p.c, .slice p.B a.den.length p.d], .agg #[.bool b.neg, .slice q.A b.num.length q.c, .slice q.B b.den.length q.d]] w (TF w (fadd a b)) :=
  (add_fr a b _ _ _ _ _ _ _ _ w ha.num ha.den hb.num hb.den ha.wf hb.wf).mono fun _ _ h => h.tf (fadd_good a b).wf
theorem rSub : Calls Tryz.prog 18 #[.agg #[.bool a.neg, .slice p.A a.num.length p.c, .slice p.B a.den.length p.d], .agg #[.bool b.neg, .slice q.A b.num.length q.c, .slice q.B b.den.length q.d]] w (TF w (fsub a b)) :=
  (sub_fr a b _ _ _ _ _ _ _ _ w ha.num ha.den hb.num hb.den ha.wf hb.wf).mono fun _ _ h => h.tf (fsub_good a b).wf
theorem rMul : Calls Tryz.prog 17 #[.agg #[.bool a.neg, .slice p.A a.num.length p.c, .slice p.B a.den.length p.d], .agg #[.bool b.neg, .slice q.A b.num.length q.c, .slice q.B b.den.length q.d]] w (TF w (fmul a b)) :=
  (mul_fr a b _ _ _ _ _ _ _ _ w ha.num ha.den hb.num hb.den ha.wf hb.wf).mono fun _ _ h => h.tf (fmul_good a b).wf
theorem rQuo : Calls Tryz.prog 21 #[.agg #[.bool a.neg, .slice p.A a.num.length p.c, .slice p.B a.den.length p.d], .agg #[.bool b.neg, .slice q.A b.num.length q.c, .slice q.B b.den.length q.d]] w (TF w (fquo a b)) :=
  (quo_fr a b _ _ _ _ _ _ _ _ w ha.num ha.den hb.num hb.den ha.wf hb.wf).mono fun _ _ h => h.tf (fquo_good a b).wf
end
theorem fneg_wf {a : Fr} (wa : a.Wf) : (fneg a).1.Wf := by
  unfold fneg
  split
  · exact Fr.zero_wf
  · exact enc_wf _
theorem rNeg (a : Fr) (p : Adr) (w : World) (ha : RF w p a) : Calls Tryz.prog 19 #[.agg #[.bool a.neg, .slice p.A a.num.length p.c, .slice p.B a.den.length p.d]] w (TF w (fneg a)) :=
  (neg_fr a _ _ _ _ w ha.num ha.den ha.wf).mono fun _ _ h => h.tf (fneg_wf ha.wf)
theorem rSame (a b : Fr) (p q : Adr) (w : World) (ha : RF w p a) (hb : RF w q b) : Calls Tryz.prog 22 #[.agg #[.bool a.neg, .slice p.A a.num.length p.c, .slice p.B a.den.length p.d], .agg #[.bool b.neg, .slice q.A b.num.length q.c, .slice q.B b.den.length q.d]] w fun e w' => e = .returned (.bool (decide (a = b))) ∧ Below w.heap.size w w' :=
  same_fr a b _ _ _ _ _ _ _ _ w ha.num ha.den hb.num hb.den _ rfl
theorem fsmall_wf (n d : Int) : (fsmall n d).1.Wf := by
  unfold fsmall
  split
  · exact Fr.zero_wf
  · exact tell_wf _
theorem rSmall (n d : Int) (w : World) (h0 : -9223372036854775808 ≤ n) (h1 : n ≤ 9223372036854775807) (k0 : -9223372036854775808 ≤ d) (k1 : d ≤ 9223372036854775807) : Calls Tryz.prog 69 #[.int .i64 n, .int .i64 d] w (TF w (fsmall n d)) :=
  (small_frac n d w h0 h1 k0 k1).mono fun _ _ h => h.tf (fsmall_wf n d)
section
variable (a b : Fr) (p q : Adr) (w : World) (ha : RF w p a) (hb : RF w q b)
include ha hb
end
abbrev toFr (x : El tR) : Fr := ⟨x.1, x.2.1, x.2.2.1⟩
abbrev ofFr (x : Fr) : El tR := (x.neg, x.num, x.den, ())
abbrev toGa (x : El tG) : Ga := ⟨toFr x.1, toFr x.2.1⟩
abbrev ofGa (x : Ga) : El tG := (ofFr x.re, ofFr x.im, ())
def Er (e : Int) : Prop := 0 ≤ e ∧ e ≤ 1000
theorem adr_add (g o j : Nat) : (⟨g, o, none⟩ : Addr).add j = ⟨g, o + j, none⟩ := by
  unfold Addr.add
  split
  · rename_i h; subst h; rfl
  · rfl
theorem rd_of {Z : Nat → Prop} {w : World} {l : List Int} {vs : List Value} (h : RT Z w tW32 l vs) : ∃ A c, vs = [.slice A l.length c] ∧ Rd w A c l ∧ Wf l := by
  have hw := h.wf32
  rw [RT] at h
  obtain ⟨A, c, h1, h2, h3, h4, h5⟩ := h
  refine ⟨A, c, h1, ⟨h2, h3, h4, fun j hj => ?_⟩, hw⟩
  obtain ⟨g, o, us, e1, _, e3, e4⟩ := h5 j hj
  rw [RT] at e3
  refine ⟨_, e1, ?_⟩
  rw [e3.1] at e4
  have := e4 0 _ rfl
  rw [nth_lt l j hj, adr_add]
  simpa [Ty.size] using this
theorem rv_fr {Z : Nat → Prop} {w : World} {x : El tR} {v : Value} (h : RV Z w tR x v) : ∃ p : Adr, v = .agg #[.bool (toFr x).neg, .slice p.A (toFr x).num.length p.c, .slice p.B (toFr x).den.length p.d] ∧ RF w p (toFr x) := by
  unfold RV at h
  rw [if_pos (show tR.agg = true from rfl)] at h
  obtain ⟨us, rfl, h⟩ := h
  obtain ⟨u1, u2, e, h1, h2⟩ : ∃ u u', us.toList = u ++ u' ∧ RT Z w .bo x.1 u ∧ RT Z w (.pr tW32 (.pr tW32 .un)) x.2 u' := by rw [RT] at h; exact h
  obtain ⟨u3, u4, rfl, h3, h4⟩ : ∃ u u', u2 = u ++ u' ∧ RT Z w tW32 x.2.1 u ∧ RT Z w (.pr tW32 .un) x.2.2 u' := by rw [RT] at h2; exact h2
  obtain ⟨u5, u6, rfl, h5, h6⟩ : ∃ u u', u4 = u ++ u' ∧ RT Z w tW32 x.2.2.1 u ∧ RT Z w .un x.2.2.2 u' := by rw [RT] at h4; exact h4
  have h1 : u1 = [.bool x.1] := by rw [RT] at h1; exact h1
  have h6 : u6 = [] := by rw [RT] at h6; exact h6
  subst h1 h6
  obtain ⟨A, c, rfl, r1, w1⟩ := rd_of h3
  obtain ⟨B, d, rfl, r2, w2⟩ := rd_of h5
  refine ⟨⟨A, c, B, d⟩, ?_, r1, r2, w1, w2⟩
  congr 1
  apply Array.ext'
  rw [e]; rfl
def blkA : Option Addr → List Nat
  | none => []
  | some a => [a.block]
theorem rowQ_words {Z : Nat → Prop} {w : World} {base : Nat} {g c : Nat} {cur : Array Value} {xs : List Int} {m n : Nat} (hb : base ≤ g) (h2 : w.heap[g]? = some (.cells cur 46 (0, 0))) (h5 : cur.size = c) (h3 : xs.length + (mks m (.it .u32)).length ≤ c) (h4 : c ≤ maxI) (hw : Wf xs)
    (hc : ∀ (j : Nat) (h : j < xs.length), w.cell? ⟨g, j, none⟩ = some (.int .u32 (xs[j]'h))) (hm : MK w 1 (mks m (.it .u32)) g xs.length) : rowQ w base (.it .u32) (fun x us b => RQ true Z w base (.it .u32) x us b) xs (mks m (.it .u32)) n [.slice (some ⟨g, 0, none⟩) n c] [g] := by
  have := rowQ_of_ty (Z := Z) (Z' := Z) (w := w) (base := base) (t := .it .u32) (l := xs) (m := m) (g := g) (e := ⟨some g, n, c, []⟩) (vs := cur) rfl rfl hb rfl h2 (by rw [h5]; exact (Nat.mul_one c).symm) h3 h4 (fun j hj => ⟨[.int .u32 (xs[j]'hj)], ?_, fun i u hu => ?_⟩) (by rw [show xs.length * (Ty.it IntKind.u32).size = xs.length from Nat.mul_one _]; exact hm)
  · exact this
  · rw [RT]
    obtain ⟨e1, e2⟩ := hw _ (List.getElem_mem hj)
    exact ⟨rfl, e1, Int.le_of_lt_add_one e2⟩
  · cases i with
    | zero =>
      cases hu
      rw [show 0 + (j * (Ty.it IntKind.u32).size + 0) = j by show 0 + (j * 1 + 0) = j; omega]
      exact hc j hj
    | succ i => simp at hu
theorem rq_own {Z : Nat → Prop} {w : World} {base : Nat} {A : Option Addr} {c : Nat} {xs : List Int} (h : Own w base A c xs) (hw : Wf xs) : RQ true Z w base tW32 xs [.slice A xs.length c] (blkA A) := by
  unfold RQ
  rw [if_pos rfl]
  rcases h.cases with ⟨rfl, rfl, rfl⟩ | ⟨g, cur, rfl, h1, h2, h3, h4, h5, h6⟩
  · exact .inl ⟨rfl, rfl, rfl⟩
  · refine .inr (rowQ_words (m := 0) h1 h2 h5 h3 h4 hw (fun j hj => ?_) (fun j us hj => by simp [mks] at hj))
    obtain ⟨a, ha, hc⟩ := h.rd.at_ j hj
    cases ha
    rw [nth_lt xs j hj, adr_add] at hc
    simpa using hc
theorem rq_fr {Z : Nat → Prop} {w : World} {base : Nat} {p : Adr} {f : Fr} (h : OF w base p f) : RQ true Z w base tR (ofFr f) [.bool f.neg, .slice p.A f.num.length p.c, .slice p.B f.den.length p.d] (blkA p.A ++ blkA p.B) :=
  ⟨[_], _, [], _, rfl, rfl, ⟨by rw [RT], rfl⟩, [_], [_], _, _, rfl, rfl, rq_own h.num h.wf.num, [_], [], _, [], rfl, (List.append_nil _).symm, rq_own h.den h.wf.den, rfl, rfl⟩
theorem blkA_nodup {p : Adr} (h : ∀ a b, p.A = some a → p.B = some b → a.block ≠ b.block) : (blkA p.A ++ blkA p.B).Nodup := by
  cases hA : p.A <;> cases hB : p.B <;> simp [blkA]
  exact h _ _ hA hB
theorem blkA_base {w : World} {base : Nat} {p : Adr} {f : Fr} (h : OF w base p f) : ∀ g ∈ blkA p.A ++ blkA p.B, base ≤ g := fun g hg => by
  rcases List.mem_append.1 hg with hg | hg
  · cases hA : p.A with
    | none => rw [hA] at hg; simp [blkA] at hg
    | some a => rw [hA] at hg; simp [blkA] at hg; have := h.num; rw [hA] at this; rw [hg]; exact this.block.1
  · cases hB : p.B with
    | none => rw [hB] at hg; simp [blkA] at hg
    | some a => rw [hB] at hg; simp [blkA] at hg; have := h.den; rw [hB] at this; rw [hg]; exact this.block.1
theorem rv_int {Z : Nat → Prop} {w : World} {k : IntKind} {x : Int} {v : Value} (h : RV Z w (.it k) x v) : v = .int k x ∧ k.min ≤ x ∧ x ≤ k.max := by
  unfold RV at h
  rw [if_neg (by simp [Ty.agg]), RT] at h
  exact ⟨by simpa using h.1, h.2⟩
theorem rq_err {Z : Nat → Prop} {w : World} {base : Nat} {e : Int} (h : Er e) : RQ true Z w base (.it .i64) e [.int .i64 e] [] := by
  refine ⟨?_, rfl⟩
  rw [RT]
  refine ⟨rfl, ?_, ?_⟩
  · exact Int.le_trans (by decide) h.1
  · exact Int.le_trans h.2 (by decide)
def pR (t : Fr × Int) : El .un × Els [tR, .it .i64] := ((), (ofFr t.1, t.2, ()))
def sp1 (F : Fr → Fr × Int) : Spec := { q := .un, ps := [tR], rs := [tR, .it .i64], fresh := true, pre := fun _ _ => none, post := fun _ x => pR (F (toFr x.1)) }
def sp2 (F : Fr → Fr → Fr × Int) : Spec := { q := .un, ps := [tR, tR], rs := [tR, .it .i64], fresh := true, pre := fun _ _ => none, post := fun _ x => pR (F (toFr x.1) (toFr x.2.1)) }
def spI (F : Int → Int → Fr × Int) : Spec := { q := .un, ps := [.it .i64, .it .i64], rs := [tR, .it .i64], fresh := true, pre := fun _ _ => none, post := fun _ x => pR (F x.1 x.2.1) }
def spE1 (F : Fr → Int) : Spec := { q := .un, ps := [tR], rs := [.it .i64], fresh := true, pre := fun _ _ => none, post := fun _ x => ((), (F (toFr x.1), ())) }
def spB2 (F : Fr → Fr → Bool) : Spec := { q := .un, ps := [tR, tR], rs := [.bo], fresh := true, pre := fun _ _ => none, post := fun _ x => ((), (F (toFr x.1) (toFr x.2.1), ())) }
theorem told_new {gv : Nat} {S : Spec} {Z : Nat → Prop} {w w' : World} {us : List Value} {bs : List Nat} {r : Els S.rs} {v : Value} (hS : S.ptr = false) (hf : S.fresh = true) (ht : told_ us v) (hZ : ∀ g, Z g → g < w.heap.size) (hr : RQs true Z w' w.heap.size S.rs r us bs) (hn : bs.Nodup) (hb : ∀ g ∈ bs, w.heap.size ≤ g) (x : Below w.heap.size w w') {q : El S.q} :
    ∃ v' us bs Z', Ending.returned v = .returned v' ∧ told_ us v' ∧ RQs S.fresh Z' w' w.heap.size S.rs r us bs ∧ bs.Nodup ∧ (∀ g ∈ bs, ¬ Z' g) ∧
      (∀ g, Z g → Z' g) ∧ (∀ g, Z' g → Z g ∨ w.heap.size ≤ g) ∧ (∀ g, Z' g → g < w'.heap.size) ∧ w.grownBy w' (if S.ptr = true then some gv else none) ∧
      (S.ptr = true → ∃ cells et, w'.heap[gv]? = some (.cells cells et (0, 0)) ∧ RT Z' w' S.q q cells.toList) :=
  ⟨v, us, bs, Z, rfl, ht, by rw [hf]; exact hr, hn, fun g hg hz => absurd (hZ g hz) (by have := hb g hg; omega), fun g h => h, fun g h => .inl h, fun g h => Nat.lt_of_lt_of_le (hZ g h) (Below.size x), by rw [hS]; exact Ext.by_ x none, fun h => by rw [hS] at h; cases h⟩
theorem told_TF {gv : Nat} {S : Spec} {Z : Nat → Prop} {w w' : World} {t : Fr × Int} {e : Ending} (hS : S.ptr = false) (hf : S.fresh = true) (hrs : S.rs = [tR, .it .i64]) (he : Er t.2) (h : TF w t e w') (hZ : ∀ g, Z g → g < w.heap.size) {q : El S.q} {r : Els S.rs} (hr : r = hrs ▸ (ofFr t.1, t.2, ())) :
    ∃ v us bs Z', e = .returned v ∧ told_ us v ∧ RQs S.fresh Z' w' w.heap.size S.rs r us bs ∧ bs.Nodup ∧ (∀ g ∈ bs, ¬ Z' g) ∧
      (∀ g, Z g → Z' g) ∧ (∀ g, Z' g → Z g ∨ w.heap.size ≤ g) ∧ (∀ g, Z' g → g < w'.heap.size) ∧ w.grownBy w' (if S.ptr = true then some gv else none) ∧
      (S.ptr = true → ∃ cells et, w'.heap[gv]? = some (.cells cells et (0, 0)) ∧ RT Z' w' S.q q cells.toList) := by
  obtain ⟨p, rfl, h1, h2⟩ := h
  refine told_new (us := [.agg #[.bool t.1.neg, .slice p.A t.1.num.length p.c, .slice p.B t.1.den.length p.d], .int .i64 t.2]) (bs := blkA p.A ++ blkA p.B) hS hf (.inr ⟨by simp, rfl⟩) hZ ?_ (blkA_nodup h1.ap) (blkA_base h1) h2
  obtain ⟨qq, ps, rs, fresh, pre, post⟩ := S
  cases hrs
  subst hr
  exact ⟨_, [], (List.append_nil _).symm, ⟨_, rfl, rq_fr h1⟩, [], [], rfl, rq_err (base := w.heap.size) he, rfl⟩
section
variable {f : Nat} (hc : ∀ (vs : Array Value) (w : World), (callFunc f vs).run Tryz.prog w = .ok (.enter f vs) w)
include hc
theorem fnOk_2 {F : Fr → Fr → Fr × Int} (he : ∀ a b, Er (F a b).2) (h : ∀ (a b : Fr) (p q : Adr) (w : World), RF w p a → RF w q b → Calls Tryz.prog f #[.agg #[.bool a.neg, .slice p.A a.num.length p.c, .slice p.B a.den.length p.d], .agg #[.bool b.neg, .slice q.A b.num.length q.c, .slice q.B b.den.length q.d]] w (TF w (F a b))) : FnOk Tryz.prog f (sp2 F) := by
  refine ⟨hc, fun Z w gv vs y x hZ hv _ _ _ => ?_⟩
  match vs, hv with
  | [u, v], ⟨h1, h2, _⟩ =>
    obtain ⟨p, rfl, k1⟩ := rv_fr h1
    obtain ⟨q, rfl, k2⟩ := rv_fr h2
    exact (h _ _ p q w k1 k2).mono fun e w' ht => told_TF (S := sp2 F) rfl rfl rfl (he _ _) ht hZ rfl
theorem fnOk_1 {F : Fr → Fr × Int} (he : ∀ a, Er (F a).2) (h : ∀ (a : Fr) (p : Adr) (w : World), RF w p a → Calls Tryz.prog f #[.agg #[.bool a.neg, .slice p.A a.num.length p.c, .slice p.B a.den.length p.d]] w (TF w (F a))) : FnOk Tryz.prog f (sp1 F) := by
  refine ⟨hc, fun Z w gv vs y x hZ hv _ _ _ => ?_⟩
  match vs, hv with
  | [u], ⟨h1, _⟩ =>
    obtain ⟨p, rfl, k1⟩ := rv_fr h1
    exact (h _ p w k1).mono fun e w' ht => told_TF (S := sp1 F) rfl rfl rfl (he _) ht hZ rfl
theorem fnOk_I {F : Int → Int → Fr × Int} (he : ∀ a b, Er (F a b).2) (h : ∀ (n d : Int) (w : World), -9223372036854775808 ≤ n → n ≤ 9223372036854775807 → -9223372036854775808 ≤ d → d ≤ 9223372036854775807 → Calls Tryz.prog f #[.int .i64 n, .int .i64 d] w (TF w (F n d))) : FnOk Tryz.prog f (spI F) := by
  refine ⟨hc, fun Z w gv vs y x hZ hv _ _ _ => ?_⟩
  match vs, hv with
  | [u, v], ⟨h1, h2, _⟩ =>
    obtain ⟨rfl, k1, k2⟩ := rv_int h1
    obtain ⟨rfl, l1, l2⟩ := rv_int h2
    exact (h _ _ w k1 k2 l1 l2).mono fun e w' ht => told_TF (S := spI F) rfl rfl rfl (he _ _) ht hZ rfl
theorem fnOk_E1 {F : Fr → Int} (he : ∀ a, Er (F a)) (h : ∀ (a : Fr) (p : Adr) (w : World), RF w p a → Calls Tryz.prog f #[.agg #[.bool a.neg, .slice p.A a.num.length p.c, .slice p.B a.den.length p.d]] w fun e w' => e = .returned (.int .i64 (F a)) ∧ Below w.heap.size w w') : FnOk Tryz.prog f (spE1 F) := by
  refine ⟨hc, fun Z w gv vs y x hZ hv _ _ _ => ?_⟩
  match vs, hv with
  | [u], ⟨h1, _⟩ =>
    obtain ⟨p, rfl, k1⟩ := rv_fr h1
    refine (h _ p w k1).mono fun e w' ⟨e1, e2⟩ => ?_
    subst e1
    exact told_new (S := spE1 F) (r := (F (toFr x.1), ())) (us := [_]) (bs := []) rfl rfl (.inl ⟨_, rfl, rfl⟩) hZ ⟨[], [], rfl, rq_err (base := w.heap.size) (he _), rfl⟩ List.nodup_nil (fun g hg => by simp at hg) e2
theorem fnOk_B2 {F : Fr → Fr → Bool} (h : ∀ (a b : Fr) (p q : Adr) (w : World), RF w p a → RF w q b → Calls Tryz.prog f #[.agg #[.bool a.neg, .slice p.A a.num.length p.c, .slice p.B a.den.length p.d], .agg #[.bool b.neg, .slice q.A b.num.length q.c, .slice q.B b.den.length q.d]] w fun e w' => e = .returned (.bool (F a b)) ∧ Below w.heap.size w w') : FnOk Tryz.prog f (spB2 F) := by
  refine ⟨hc, fun Z w gv vs y x hZ hv _ _ _ => ?_⟩
  match vs, hv with
  | [u, v], ⟨h1, h2, _⟩ =>
    obtain ⟨p, rfl, k1⟩ := rv_fr h1
    obtain ⟨q, rfl, k2⟩ := rv_fr h2
    refine (h _ _ p q w k1 k2).mono fun e w' ⟨e1, e2⟩ => ?_
    subst e1
    exact told_new (S := spB2 F) (r := (F (toFr x.1) (toFr x.2.1), ())) (us := [_]) (bs := []) rfl rfl (.inl ⟨_, rfl, rfl⟩) hZ ⟨[], [], rfl, ⟨by rw [RT], rfl⟩, rfl⟩ List.nodup_nil (fun g hg => by simp at hg) e2
end
theorem Er.zero : Er 0 := ⟨by decide, by decide⟩
theorem er_fchk (a : Fr) : Er (fchk a) := by
  unfold fchk
  repeat' split
  all_goals exact ⟨by decide, by decide⟩
theorem er_tell (q : Rat) : Er (tell q).2 := by
  unfold tell
  split
  · exact ⟨by decide, by decide⟩
  · exact Er.zero
theorem er_both {a b : Fr} {r : Rat → Rat → Fr × Int} (h : ∀ p q, Er (r p q).2) : Er (both a b r).2 := by
  unfold both
  split
  · exact er_fchk a
  · split
    · exact er_fchk b
    · exact h _ _
theorem er_add (a b : Fr) : Er (fadd a b).2 := er_both fun _ _ => er_tell _
theorem er_sub (a b : Fr) : Er (fsub a b).2 := er_both fun _ _ => er_tell _
theorem er_mul (a b : Fr) : Er (fmul a b).2 := er_both fun _ _ => er_tell _
theorem er_quo (a b : Fr) : Er (fquo a b).2 := er_both fun _ _ => by
  split
  · exact ⟨by decide, by decide⟩
  · exact er_tell _
theorem er_neg (a : Fr) : Er (fneg a).2 := by
  unfold fneg
  split
  · exact er_fchk a
  · exact Er.zero
theorem er_small (n d : Int) : Er (fsmall n d).2 := by
  unfold fsmall
  split
  · exact ⟨by decide, by decide⟩
  · exact er_tell _
abbrev tW : Ty := .pr (.it .i64) .un
def tysS : List (Nat × (Ty × Nat)) := [(4, (.bo, 0)), (3, (.it .i64, 0)), (46, (.it .u32, 0)), (22, (tW32, 46)),
 (24, (tR, 0)),
 (50, (tG, 0)),
 (30, (.it .i64, 0)),
 (52, (.sl tG, 50)),
 (27, (.sl tR, 24)),
 (119, (tW, 0)),
 (21, (.it .i32, 0)),
 (5, (.it .u8, 0)),
 (59, (tRot, 0)),
 (75, (tTide, 0)),
 (84, (.sl tTide, 75)),
 (43, (tWhole, 0)),
 (9, (.st, 0)),
 (29, (.pr .bo .un, 0)),
 (146, (.it .u64, 0)),
  (2, (.it .i64, 0))]
theorem tys_ok : tyB Tryz.prog tysS tysS = true := by kernel_rfl
abbrev cfgS (N : Nat) (hp : Bool) (pr : List (Nat × Prim)) : Cfg := { N, hp, ty := tysS, pr }
def codeOf (f : Func) : Code := match f.body with
  | some c => c
  | none => .skip
theorem mixed_ : Tryz.prog.follows .mixedOrders = true := by kernel_rfl
theorem prims_nil {P : Program} : ∀ f p, look ([] : List (Nat × Prim)) f = some p → PrimOk P f p := fun _ _ h => by cases h
theorem prims_cons {P : Program} {f : Nat} {p : Prim} {l : List (Nat × Prim)} (h : PrimOk P f p) (k : ∀ f p, look l f = some p → PrimOk P f p) : ∀ g q, look ((f, p) :: l) g = some q → PrimOk P g q := fun g q e => by
  unfold look at e
  cases hb : Nat.beq f g with
  | true => rw [hb] at e; cases e; rw [← Nat.eq_of_beq_eq_true hb]; exact h
  | false => rw [hb] at e; exact k g q e
theorem rcheck_rf_ (a : Fr) (p : Adr) (w : World) (ha : RF w p a) : Calls Tryz.prog 24 #[.agg #[.bool a.neg, .slice p.A a.num.length p.c, .slice p.B a.den.length p.d]] w fun e w' => e = .returned (.int .i64 (fchk a)) ∧ Below w.heap.size w w' :=
  rcheck_any a.neg p.A p.B a.num a.den p.c p.d w ha.num ha.den ha.wf.num ha.wf.den
def sp_rCheck : Spec := spE1 fchk
theorem fo_rCheck : FnOk Tryz.prog 24 sp_rCheck := fnOk_E1 (callFunc_enter Tryz.func24 (by kernel_rfl) rfl) er_fchk (fun a p w ha => rcheck_rf_ a p w ha)
def sp_rAdd : Spec := sp2 fadd
theorem fo_rAdd : FnOk Tryz.prog 15 sp_rAdd := fnOk_2 (callFunc_enter Tryz.func15 (by kernel_rfl) rfl) er_add (fun a b p q w ha hb => rAdd a b p q w ha hb)
def sp_rSub : Spec := sp2 fsub
theorem fo_rSub : FnOk Tryz.prog 18 sp_rSub := fnOk_2 (callFunc_enter Tryz.func18 (by kernel_rfl) rfl) er_sub (fun a b p q w ha hb => rSub a b p q w ha hb)
def sp_rMul : Spec := sp2 fmul
theorem fo_rMul : FnOk Tryz.prog 17 sp_rMul := fnOk_2 (callFunc_enter Tryz.func17 (by kernel_rfl) rfl) er_mul (fun a b p q w ha hb => rMul a b p q w ha hb)
def sp_rQuo : Spec := sp2 fquo
theorem fo_rQuo : FnOk Tryz.prog 21 sp_rQuo := fnOk_2 (callFunc_enter Tryz.func21 (by kernel_rfl) rfl) er_quo (fun a b p q w ha hb => rQuo a b p q w ha hb)
def sp_rNeg : Spec := sp1 fneg
theorem fo_rNeg : FnOk Tryz.prog 19 sp_rNeg := fnOk_1 (callFunc_enter Tryz.func19 (by kernel_rfl) rfl) er_neg (fun a p w ha => rNeg a p w ha)
def sp_rSmall : Spec := spI fsmall
theorem fo_rSmall : FnOk Tryz.prog 69 sp_rSmall := fnOk_I (callFunc_enter Tryz.func69 (by kernel_rfl) rfl) er_small (fun n d w h0 h1 k0 k1 => rSmall n d w h0 h1 k0 k1)
def sp_rSame : Spec := spB2 fun a b => decide (a = b)
theorem fo_rSame : FnOk Tryz.prog 22 sp_rSame := fnOk_B2 (callFunc_enter Tryz.func22 (by kernel_rfl) rfl)  (fun a b p q w ha hb => rSame a b p q w ha hb)
abbrev Ro (l : List Ty) : Type := El .un × Els l
abbrev aW (C : Cfg) (iv : Nat → Option Inv) (f : Func) (S : Spec) (y : El S.q) (x : Els S.ps) : Prop := aw C iv (codeOf f) 0 (retQ C S f.results.toList y x) (startT S x) (startO S y) 1
def chks (e : Int) (l : List (El tR)) : Int := l.foldl (fun e r => if e ≠ 0 then e else fchk (toFr r)) e
theorem chks_succ (e : Int) (l : List (El tR)) (i : Nat) (h : i < l.length) : chks e (l.take (i + 1)) = if chks e (l.take i) ≠ 0 then chks e (l.take i) else fchk (toFr (l.getD i (dfl tR))) := by
  unfold chks
  rw [List.take_add_one, List.getElem?_eq_getElem h, Option.toList_some, List.foldl_append, List.getD_eq_getElem?_getD, List.getElem?_eq_getElem h]
  rfl
noncomputable def sp_wcheck : Spec := { q := tW, ps := [.sl tR], rs := [], fresh := true, pre := fun _ _ => none, post := fun y x => ((chks y.1 x.1, ()), ()) }
noncomputable def iv_wcheck (y : El sp_wcheck.q) (x : Els sp_wcheck.ps) : Nat → Option Inv := fun k => if k = 0 then some { X := Nat, tm := fun i => [(0, .c (.pv 0 0)), (6, .c (.sl tR x.1)), (7, .c (.sc (.int .i64 x.1.length))), (8, .c (.sc (.int .i64 i)))], ob := fun i => [(0, .var [.sc (.int .i64 (chks y.1 (x.1.take i)))])], n := 1, I := fun i => i ≤ x.1.length, μ := fun i => x.1.length - i } else none
noncomputable abbrev c_wcheck : Cfg := cfgS (Tryz.f144).ntmps true [(24, sp_rCheck.prim)]
theorem w_wcheck (y : El sp_wcheck.q) (x : Els sp_wcheck.ps) : aW c_wcheck (iv_wcheck y x) Tryz.f144 sp_wcheck y x =
  ((∃ (x_1 : Nat), x.1 = x.1 ∧ (x.1.length : Int) = (x.1.length : Int) ∧ (↑x_1 : Int) = (0 : Int) ∧ chks y.1 (List.take x_1 x.1) = y.1 ∧ x_1.le (List.length x.1)) ∧ ∀ (x_1 : Nat), x_1.le (List.length x.1) → (decide ((↑x_1 : Int) < (x.1.length : Int)) = true → ((0 : Int) ≤ (↑x_1 : Int) ∧ (↑x_1 : Int) < (x.1.length : Int)) ∧ ((chks y.1 (List.take x_1 x.1) == (0 : Int)) = true → ∀ (r : Ro [Ty.it IntKind.i64]), r = ((), fchk (toFr (List.getD x.1 (↑x_1 : Int).toNat (dfl tR))), ()) → ((-9223372036854775808 : Int) ≤ (↑x_1 : Int) + (1 : Int) ∧ (↑x_1 : Int) + (1 : Int) ≤ (9223372036854775807 : Int)) ∧ ∃ (x' : Nat), x.1 = x.1 ∧ (x.1.length : Int) = (x.1.length : Int) ∧ (↑x' : Int) = (↑x_1 : Int) + (1 : Int) ∧ chks y.1 (List.take x' x.1) = r.2.1 ∧ x'.le (List.length x.1) ∧ List.length x.1 - x' < List.length x.1 - x_1) ∧ ((chks y.1 (List.take x_1 x.1) == (0 : Int)) = false → ((-9223372036854775808 : Int) ≤ (↑x_1 : Int) + (1 : Int) ∧ (↑x_1 : Int) + (1 : Int) ≤ (9223372036854775807 : Int)) ∧ ∃ (x' : Nat), x.1 = x.1 ∧ (x.1.length : Int) = (x.1.length : Int) ∧ (↑x' : Int) = (↑x_1 : Int) + (1 : Int) ∧ chks y.1 (List.take x' x.1) = chks y.1 (List.take x_1 x.1) ∧ x'.le (List.length x.1) ∧ List.length x.1 - x' < List.length x.1 - x_1)) ∧ (decide ((↑x_1 : Int) < (x.1.length : Int)) = false → ((chks y.1 (List.take x_1 x.1), ()), ()) = ((chks y.1 x.1, ()), ()))) := by kernel_rfl
theorem fo_wcheck : FnOk Tryz.prog 144 sp_wcheck := fnOk_of (C := c_wcheck) iv_wcheck Tryz.func144 rfl (by kernel_rfl) tys_ok (prims_cons (spec_prim fo_rCheck) prims_nil) mixed_ (Nat.le_refl _) rfl fun y x h1 h2 h3 h4 => by
  refine Eq.mpr (w_wcheck y x) ?_
  have hl : x.1.length ≤ 9223372036854775807 := h3.1.1
  refine ⟨⟨0, rfl, rfl, rfl, rfl, Nat.zero_le _⟩, fun i hi => ⟨fun h => ?_, fun h => ?_⟩⟩
  · have h := of_decide_eq_true h
    have hi' : i < x.1.length := by omega
    refine ⟨⟨by omega, h⟩, fun hz r hr => ⟨by omega, i + 1, rfl, rfl, rfl, ?_, hi', by omega⟩, fun hz => ⟨by omega, i + 1, rfl, rfl, rfl, ?_, hi', by omega⟩⟩
    · rw [chks_succ _ _ _ hi', hr, if_neg (by simpa using hz)]; rfl
    · rw [chks_succ _ _ _ hi', if_pos (by simpa using hz)]
  · have h := of_decide_eq_false h
    rw [List.take_of_length_le (by omega)]
def mvC (b : Bool) (O : Store) : Ce → Nat → Option (Ce × OB × Nat)
  | .ow j, n => match O j with
    | some (.ty e t l 0) => some (.ow n, [(n, .ty e t (bif b then [] else l) 0), (j, .dead)], n + 1)
    | _ => none
  | .nl, n => some (.nl, [], n)
  | .tt, n => some (.sc (.bool (!b)), [], n)
  | .ff, n => some (.ff, [], n)
  | .sc (.bool x), n => some (.sc (.bool (bif b then false else x)), [], n)
  | _, _ => none
def mvCs (b : Bool) (O : Store) : List Ce → Nat → Option (List Ce × OB × Nat)
  | [], n => some ([], [], n)
  | x :: xs, n => match mvC b O x n with
    | some (y, ob, m) => match mvCs b (upO O ob) xs m with
      | some (ys, ob', k) => some (y :: ys, ob' ++ ob, k)
      | none => none
    | none => none
def zV : Value → Value
  | .bool _ => .bool false
  | _ => .slice none 0 0
section
variable {P : Program} {C : Cfg} {gp : Option Nat} {Z0 Z Z' : Nat → Prop} {w0 : Base} {w w' : World} {D D' : Nat → Prop} {c c' : Cf} {T : Nat → Option AV} {O O' : Store} {a : Act} {o : Oper} {N : Nat}
theorem Sim.move1 (S : Sim gp Z0 w0 N D c T O a.tmps w) {i j e : Nat} {t : Ty} {l : List (El t)} (b : Bool) (hi : ¬ D i) (hj : O j = some (.ty e t l 0)) :
    ∃ c', c.Le c' ∧ Sim gp Z0 w0 N (fun k => D k ∨ k = i) c' T (upO O [(i, .ty e t (bif b then [] else l) 0), (j, .dead)]) a.tmps w ∧ ∀ v, RC c w v (.ow j) → RC c' w (bif b then .slice none 0 0 else v) (.ow i) := by
  obtain ⟨en, k1, k0, k2, k3⟩ := S.obj j _ hj
  have k2 : en.ln = l.length := k2
  have hij : i ≠ j := fun h => hi (by rw [h]; exact S.dom j _ k1)
  have hci : c.m i = none := by
    cases h : c.m i with
    | none => rfl
    | some f => exact absurd (S.dom i f h) hi
  let f : Ent := bif b then ⟨none, 0, 0, []⟩ else en
  have le := Cf.add_le (e := f) hci
  have at_ := Cf.add_at c i f
  have lk : ∀ k o, look [(i, Ob.ty e t (bif b then [] else l) 0), (j, .dead)] k = some o → (k = i ∧ o = .ty e t (bif b then [] else l) 0) ∨ (k = j ∧ o = .dead) := fun k o h => by
    have h' : look ([(i, Ob.ty e t (bif b then [] else l) 0)] ++ [(j, .dead)]) k = some o := h
    rw [look_append, look_one, look_one] at h'
    by_cases h1 : k = i
    · rw [if_pos h1] at h'; cases h'; exact .inl ⟨h1, rfl⟩
    · rw [if_neg h1] at h'
      by_cases h2 : k = j
      · rw [if_pos h2] at h'; cases h'; exact .inr ⟨h2, rfl⟩
      · rw [if_neg h2] at h'; cases h'
  have hdead : look [(i, Ob.ty e t (bif b then [] else l) 0), (j, .dead)] j = some .dead := by
    show look ([(i, Ob.ty e t (bif b then [] else l) 0)] ++ [(j, .dead)]) j = _
    rw [look_append, look_one, look_one, if_neg (Ne.symm hij), if_pos rfl]
  refine ⟨c.add i f, le, ?_, fun v hv => ?_⟩
  · have := S.step (d := none) (v := .bool true) (av := .c .tt) (ob := [(i, .ty e t (bif b then [] else l) 0), (j, .dead)]) (c' := c.add i f) (w' := w) (D' := fun k => D k ∨ k = i) rfl le (Stay.refl _ _) rfl (fun _ _ _ _ _ _ _ _ _ => rfl) (fun k o h => ?_) (fun k o e' g h hl he hg => ?_) (fun k m o p e' f' g h1 h2 h3 h4 h5 => ?_) (fun g hg => ⟨S.zl g hg, S.zz g hg, fun k o e' h1 _ h3 h4 h5 => S.zo k o e' g h1 h3 h4 h5 hg⟩) (fun k e' h => ?_) S.gr (fun k cs o h1 h2 => ?_)
    · exact this
    · rcases lk k o h with ⟨rfl, rfl⟩ | ⟨rfl, rfl⟩
      · refine ⟨f, at_, ?_⟩
        cases b with
        | true => exact ⟨rfl, rfl, .inl ⟨rfl, rfl, rfl, rfl⟩⟩
        | false =>
          exact ⟨k0, k2, k3⟩
      · trivial
    · rcases lk k o h with ⟨rfl, rfl⟩ | ⟨rfl, rfl⟩
      · rw [at_] at he
        cases he
        cases b with
        | true => rw [Ent.has_one rfl] at hg; cases hg
        | false => exact ⟨.inl ⟨j, _, en, hj, rfl, k1, hg, by rw [hdead]; rfl⟩, S.zo j _ en g hj rfl k1 hg⟩
      · cases hl
    · rcases lk k o h1 with ⟨rfl, rfl⟩ | ⟨rfl, rfl⟩
      · rcases lk m p h2 with ⟨rfl, rfl⟩ | ⟨rfl, rfl⟩
        · exact absurd rfl h5
        · cases h4
      · cases h3
    · by_cases hk : k = i
      · exact .inr hk
      · left
        have h' : (if k = i then some f else c.m k) = some e' := h
        rw [if_neg hk] at h'
        exact S.dom k e' h'
    · rcases lk k o h2 with ⟨rfl, rfl⟩ | ⟨rfl, rfl⟩
      · obtain ⟨e', _, _, _, y, _⟩ := S.obj k _ h1
        rw [hci] at y; cases y
      · rw [hj] at h1; cases h1
  · obtain ⟨e', q1, q2⟩ := hv
    rw [k1] at q1
    cases q1
    refine ⟨f, at_, ?_⟩
    cases b with
    | true => rfl
    | false => exact q2
theorem mvC_le {b : Bool} {O : Store} {x y : Ce} {n m : Nat} {ob : OB} (h : mvC b O x n = some (y, ob, m)) : n ≤ m := by
  unfold mvC at h
  split at h
  · split at h <;> cases h
    exact Nat.le_succ _
  all_goals first | (cases h; done) | (cases h; exact Nat.le_refl _)
theorem mvCs_le {b : Bool} : ∀ {cs : List Ce} {O : Store} {ys : List Ce} {n m : Nat} {ob : OB}, mvCs b O cs n = some (ys, ob, m) → n ≤ m
  | [], _, _, _, _, _, h => by cases h; exact Nat.le_refl _
  | x :: xs, O, ys, n, m, ob, h => by
    unfold mvCs at h
    split at h
    · rename_i h1
      split at h
      · rename_i h2
        cases h
        exact Nat.le_trans (mvC_le h1) (mvCs_le h2)
      · cases h
    · cases h
theorem mvCs_sound {b : Bool} : ∀ {cs : List Ce} {vs : List Value} {n : Nat} {D : Nat → Prop} {c : Cf} {O O' : Store} {ys : List Ce} {ob : OB} {m : Nat}, Sim gp Z0 w0 N D c T O a.tmps w → (∀ i o, O' i = some o → O i = some o) → mvCs b O' cs n = some (ys, ob, m) → (∀ k, n ≤ k → k < m → ¬ D k) → RL c w vs cs →
    n ≤ m ∧ ∃ c', c.Le c' ∧ Sim gp Z0 w0 N (fun k => D k ∨ (n ≤ k ∧ k < m)) c' T (upO O ob) a.tmps w ∧ RL c' w (bif b then vs.map zV else vs) ys
  | [], vs, n, D, c, O, O', ys, ob, m, S, hO, h, hD, hv => by
    cases h
    refine ⟨Nat.le_refl _, c, Cf.Le.refl c, ?_, ?_⟩
    · have : (fun k => D k ∨ (n ≤ k ∧ k < n)) = D := by funext k; exact propext ⟨fun h => h.elim id (fun h => by omega), .inl⟩
      rw [this]; exact S
    · match vs, hv.1 with
      | [], _ => cases b <;> exact RL.nil
  | x :: xs, vs, n, D, c, O, O', ys, ob, m, S, hO, h, hD, hv => by
    unfold mvCs at h
    split at h
    · rename_i y ob1 m1 h1
      split at h
      · rename_i ys' ob2 k h2
        cases h
        match vs, hv.1 with
        | v :: vs, hl =>
          have hv1 : RC c w v x := hv.2 0 v x rfl rfl
          have hv2 : RL c w vs xs := ⟨by simpa using hl, fun i u z e1 e2 => hv.2 (i + 1) u z (by simpa using e1) (by simpa using e2)⟩
          have step : ∀ {c1 : Cf} {D1 : Nat → Prop}, c.Le c1 → Sim gp Z0 w0 N D1 c1 T (upO O ob1) a.tmps w → (∀ k', D1 k' → D k' ∨ (n ≤ k' ∧ k' < m1)) → (∀ k', D k' ∨ (n ≤ k' ∧ k' < m1) → D1 k') → n ≤ m1 → RC c1 w (bif b then zV v else v) y →
              n ≤ m ∧ ∃ c', c.Le c' ∧ Sim gp Z0 w0 N (fun k => D k ∨ (n ≤ k ∧ k < m)) c' T (upO O (ob2 ++ ob1)) a.tmps w ∧ RL c' w (bif b then (v :: vs).map zV else v :: vs) (y :: ys') := fun {c1 D1} le1 S1 hd1 hd2 hnm hy => by
            obtain ⟨q0, c2, q1, q2, q3⟩ := mvCs_sound (O' := upO O' ob1) S1 (fun i o h => by
              unfold upO at h ⊢
              split at h
              · exact h
              · exact hO i o h) h2 (fun k' hk1 hk2 hk3 => by
                rcases hd1 k' hk3 with h | h
                · exact hD k' (by omega) hk2 h
                · omega) (hv2.mono le1 (Stay.refl _ _))
            refine ⟨by omega, c2, le1.trans q1, ?_, ?_⟩
            · rw [upO_upO] at q2
              have e : (fun k' => D1 k' ∨ (m1 ≤ k' ∧ k' < m)) = (fun k' => D k' ∨ (n ≤ k' ∧ k' < m)) := by
                funext k'
                refine propext ⟨fun h => ?_, fun h => ?_⟩
                · rcases h with h | h
                  · rcases hd1 k' h with h | h
                    · exact .inl h
                    · exact .inr (by omega)
                  · exact .inr (by omega)
                · by_cases hk : k' < m1
                  · rcases h with h | h
                    · exact .inl (hd2 k' (.inl h))
                    · exact .inl (hd2 k' (.inr (by omega)))
                  · rcases h with h | h
                    · exact .inl (hd2 k' (.inl h))
                    · exact .inr (by omega)
              rw [e] at q2
              exact q2
            · cases b with
              | true => exact RL.cons (hy.mono q1 (Stay.refl _ _)) q3
              | false => exact RL.cons (hy.mono q1 (Stay.refl _ _)) q3
          unfold mvC at h1
          split at h1
          · rename_i j n'
            split at h1
            · rename_i e t l hj
              cases h1
              have hlt : ¬ D n := fun h => by
                have hm1 := (mvCs_le h2)
                exact hD n (Nat.le_refl _) (by omega) h
              obtain ⟨c1, le1, S1, hr⟩ := S.move1 b hlt (hO _ _ hj)
              refine step le1 S1 (fun k' h => h.imp id (fun h => by omega)) (fun k' h => h.imp id (fun h => by omega)) (by omega) ?_
              have := hr v hv1
              obtain ⟨_, _, hv'⟩ := hv1
              subst hv'
              cases b <;> exact this
            · cases h1
          · cases h1
            exact step (Cf.Le.refl c) S (fun k' h => .inl h) (fun k' h => h.elim id (fun h => by omega)) (by omega) (by cases (show v = _ from hv1); cases b <;> rfl)
          · cases h1
            exact step (Cf.Le.refl c) S (fun k' h => .inl h) (fun k' h => h.elim id (fun h => by omega)) (by omega) (by cases (show v = _ from hv1); cases b <;> exact ⟨rfl, trivial⟩)
          · cases h1
            exact step (Cf.Le.refl c) S (fun k' h => .inl h) (fun k' h => h.elim id (fun h => by omega)) (by omega) (by cases (show v = _ from hv1); cases b <;> rfl)
          · cases h1
            exact step (Cf.Le.refl c) S (fun k' h => .inl h) (fun k' h => h.elim id (fun h => by omega)) (by omega) (by cases (show v = _ from hv1.1); cases b <;> exact ⟨rfl, trivial⟩)
          · cases h1
      · cases h
    · cases h
end
structure Way (gw : Nat) (e : Int) (w : World) : Prop where
  c : w.cell? ⟨gw, 0, none⟩ = some (.int .i64 e)
  f : ∀ o, w.frozen? ⟨gw, o, none⟩ = false
theorem Way.lt {gw : Nat} {e : Int} {w : World} (h : Way gw e w) : gw < w.heap.size := World.block_lt_of_cell? w ⟨gw, 0, none⟩ h.c
theorem Way.ext {gw : Nat} {e : Int} {w w' : World} (h : Way gw e w) (x : Ext w w') : Way gw e w' := ⟨x.cell h.c, fun o => (Below.frozen (p := ⟨gw, o, none⟩) x h.lt).trans (h.f o)⟩
theorem grown_setNewU {w w' : World} {row : Option Nat} {p : Addr} {u : Value} (h : w.grownBy w' row) (hp : w.heap.size ≤ p.block) : w.grownBy (w'.setCell p u) row :=
  ⟨h.os, h.tape, h.output, by simpa using h.size, fun k hk hr => (Below.heap_setCell _ _ _ _ (by omega)).trans (h.block k hk hr)⟩
theorem grown_setWay {w w' : World} {gw : Nat} {u : Value} (h : w.grownBy w' (some gw)) : w.grownBy (w'.setCell ⟨gw, 0, none⟩ u) (some gw) := grown_trans h (grown_setCell w' ⟨gw, 0, none⟩ u)
set_option maxRecDepth 4000 in
set_option maxHeartbeats 2000000 in
theorem told_any (gw : Nat) (e0 : Int) (a b : Fr) (A B C D : Option Addr) (c1 c2 c3 c4 : Nat) (w : World) (hw : Way gw e0 w) :
    Calls Tryz.prog 98 #[.pointer (some ⟨gw, 0, none⟩), .agg #[.bool a.neg, .slice A a.num.length c1, .slice B a.den.length c2], .agg #[.bool b.neg, .slice C b.num.length c3, .slice D b.den.length c4]] w fun e w' => (e0 ≠ 0 → e = .returned (.tuple #[.agg #[.bool false, .slice none 0 0, .slice none 0 0, .bool false, .slice none 0 0, .slice none 0 0], .int .i64 e0])) ∧ (e0 = 0 → e = .returned (.tuple #[.agg #[.bool a.neg, .slice A a.num.length c1, .slice B a.den.length c2, .bool b.neg, .slice C b.num.length c3, .slice D b.den.length c4], .int .i64 0])) ∧ Ext w w' := by
  have hl := hw.lt
  have HW := Lib.hid hw
  clear hw
  by_cases h0 : e0 ≠ 0
  · have hb : (e0 != 0) = true := bne_iff_ne.2 h0
    have g0 := (HW.out.ext ((((Ext.refl w).alloc (.cells #[.bool a.neg, .slice A a.num.length c1, .slice B a.den.length c2] 24)).alloc (.cells #[.bool b.neg, .slice C b.num.length c3, .slice D b.den.length c4] 24)).alloc (.cells #[.bool false, .slice none 0 0, .slice none 0 0, .bool false, .slice none 0 0, .slice none 0 0] 50))).c
    go_enter Tryz.func98, Tryz.ntmps98
    go_wp2_with fail
    go_region
    all_goals
      go_wp2_with fail
      exact bodyPost_ret (v := .tuple #[.agg #[.bool false, .slice none 0 0, .slice none 0 0, .bool false, .slice none 0 0, .slice none 0 0], .int .i64 e0]) (by simp [results, Tryz.results98, go_sem]) rfl ⟨fun _ => rfl, fun h => absurd h h0, by repeat (first | (with_reducible exact Ext.refl w) | (with_reducible refine Ext.alloc ?_ _) | (with_reducible refine Ext.drew ?_) | refine Ext.setCell ?_ (by simp; try omega) _)⟩
  · obtain rfl : e0 = 0 := by simpa using h0
    have hb : ((0 : Int) != 0) = false := rfl
    have g0 := (HW.out.ext ((((Ext.refl w).alloc (.cells #[.bool a.neg, .slice A a.num.length c1, .slice B a.den.length c2] 24)).alloc (.cells #[.bool b.neg, .slice C b.num.length c3, .slice D b.den.length c4] 24)).alloc (.cells #[.bool false, .slice none 0 0, .slice none 0 0, .bool false, .slice none 0 0, .slice none 0 0] 50))).c
    go_enter Tryz.func98, Tryz.ntmps98
    go_wp2_with fail
    exact bodyPost_ret (v := .tuple #[.agg #[.bool a.neg, .slice A a.num.length c1, .slice B a.den.length c2, .bool b.neg, .slice C b.num.length c3, .slice D b.den.length c4], .int .i64 0]) (by simp [results, Tryz.results98, go_sem]) rfl ⟨fun h => absurd rfl h, fun _ => rfl, by repeat (first | (with_reducible exact Ext.refl w) | (with_reducible refine Ext.alloc ?_ _) | (with_reducible refine Ext.drew ?_) | refine Ext.setCell ?_ (by simp; try omega) _)⟩
theorem way_of {gw : Nat} {e : Int} {w : World} {et : TypeId} (h : w.heap[gw]? = some (.cells #[.int .i64 e] et (0, 0))) : Way gw e w := ⟨cell_of_one h, fun o => by simp [World.frozen?, h]⟩
def WayH (gw : Nat) (e : Int) (w : World) : Prop := ∃ et, w.heap[gw]? = some (.cells #[.int .i64 e] et (0, 0))
theorem WayH.ext {gw : Nat} {e : Int} {w w' : World} (h : WayH gw e w) (x : Ext w w') : WayH gw e w' := let ⟨et, h⟩ := h; ⟨et, (x.block gw (lt_of_block h)).trans h⟩
theorem WayH.set {gw : Nat} {e e' : Int} {w : World} (h : WayH gw e w) : WayH gw e' (w.setCell ⟨gw, 0, none⟩ (.int .i64 e')) := let ⟨et, h⟩ := h; ⟨et, one_setCell h⟩
theorem WayH.setNe {gw : Nat} {e : Int} {w : World} {p : Addr} {u : Value} (h : WayH gw e w) (hp : p.block ≠ gw) : WayH gw e (w.setCell p u) := let ⟨et, h⟩ := h; ⟨et, (Below.heap_setCell _ _ _ _ (Ne.symm hp)).trans h⟩
set_option maxHeartbeats 1000000 in
theorem made_h (gw : Nat) (e0 : Int) (s : Bool) (n m : Nat) (er : Int) (A B : Option Addr) (c1 c2 : Nat) (w : World) (hw : WayH gw e0 w) :
    Calls Tryz.prog 128 #[.pointer (some ⟨gw, 0, none⟩), .agg #[.bool s, .slice A n c1, .slice B m c2], .int .i64 er] w fun e w' =>
      (e0 ≠ 0 → e = .returned (.agg #[.bool false, .slice none 0 0, .slice none 0 0])) ∧ (e0 = 0 → e = .returned (.agg #[.bool s, .slice A n c1, .slice B m c2])) ∧ w.grownBy w' (some gw) ∧ WayH gw (if e0 ≠ 0 then e0 else er) w' := by
  have hl : gw < w.heap.size := lt_of_block hw.choose_spec
  have HW := Lib.hid hw
  have hw0 := way_of hw.choose_spec
  have hc := hw0.c
  have hf := hw0.f 0
  have hg := fun o => (hw0.ext ((Ext.refl w).alloc o)).c
  clear hw hw0
  by_cases h0 : e0 ≠ 0
  · have hb : (e0 != 0) = true := bne_iff_ne.2 h0
    rw [if_pos h0]
    go_enter Tryz.func128, Tryz.ntmps128
    go_wp2_with fail
    exact bodyPost_ret (v := .agg #[.bool false, .slice none 0 0, .slice none 0 0]) (by simp [results, Tryz.results128, go_sem]) rfl ⟨fun _ => rfl, fun h => absurd h h0, (by repeat (first | (with_reducible exact World.grownBy.refl w _) | (with_reducible refine grown_alloc ?_ _) | (with_reducible refine grown_setWay ?_) | (with_reducible refine grown_setNewU ?_ (by simp)))), by repeat (first | (with_reducible exact HW.out) | (with_reducible refine WayH.setNe ?_ (by simp; omega)) | refine WayH.ext ?_ ((Ext.refl _).alloc _))⟩
  · obtain rfl : e0 = 0 := by simpa using h0
    have hb : ((0 : Int) != 0) = false := rfl
    rw [if_neg (by simp)]
    go_enter Tryz.func128, Tryz.ntmps128
    go_wp2_with fail
    exact bodyPost_ret (v := .agg #[.bool s, .slice A n c1, .slice B m c2]) (by simp [results, Tryz.results128, go_sem]) rfl ⟨fun h => absurd rfl h, fun _ => rfl, (by repeat (first | (with_reducible exact World.grownBy.refl w _) | (with_reducible refine grown_alloc ?_ _) | (with_reducible refine grown_setWay ?_) | (with_reducible refine grown_setNewU ?_ (by simp)))), WayH.ext (WayH.set HW.out) (((Ext.refl _).alloc _).alloc _)⟩
section
variable {P : Program} {C : Cfg} {gp : Option Nat} {Z0 Z Z' : Nat → Prop} {w0 : Base} {w w' : World} {D D' : Nat → Prop} {c c' : Cf} {T : Nat → Option AV} {O O' : Store} {a : Act} {N : Nat}
theorem Sim.var_step (S : Sim gp Z0 w0 N D c T O a.tmps w) {i g : Nat} {cs cs' : List Ce} {e : Ent} {cells : Array Value} {et : TypeId} (h1 : O i = some (.var cs)) (h2 : c.m i = some e) (h3 : e.bl = some g) (hg : w.grownBy w' (some g)) (h4 : w'.heap[g]? = some (.cells cells et (0, 0))) (h5 : RL c w' cells.toList cs') :
    Sim gp Z0 w0 N D c T (upO O [(i, .var cs')]) a.tmps w' ∧ Stay c.Z w w' := by
  have st : Stay c.Z w w' := fun k hz => hg.block k (S.zl k hz) (fun e0 => by cases e0; exact S.zo i _ e g h1 rfl h2 (Ent.has_bl h3) hz)
  have lk : ∀ k o, look [(i, Ob.var cs')] k = some o → k = i ∧ o = .var cs' := fun k o h => by
    rw [look_one] at h
    split at h
    · rename_i h0; cases h; exact ⟨h0, rfl⟩
    · cases h
  refine ⟨S.step (d := none) (v := .bool true) (av := .c .tt) (ob := [(i, .var cs')]) (c' := c) (w' := w') (D' := D) rfl (Cf.Le.refl c) st rfl (fun k o q1 q2 q3 f b q4 q5 => ?_) (fun k o h => ?_) (fun k o f b h hl hf hb => ?_) (fun k m o p f f' b q1 q2 _ _ q5 => ?_) (fun b hz => ⟨Nat.lt_of_lt_of_le (S.zl b hz) hg.size, S.zz b hz, fun k o f q1 _ q3 q4 q5 => S.zo k o f b q1 q3 q4 q5 hz⟩) S.dom ?_ (fun k cs1 o q1 q2 => ⟨cs', (lk k o q2).2⟩), st⟩
  · refine hg.block b ((S.obj k o q1).lt q3 f b q4 q5) (fun e0 => ?_)
    have e0 : b = g := Option.some.inj e0
    by_cases hk : k = i
    · subst hk
      rw [look_one, if_pos rfl] at q2; cases q2
    · exact S.inj k i o _ f e b q1 h1 q3 rfl hk q4 h2 q5 (e0 ▸ Ent.has_bl h3)
  · obtain ⟨rfl, rfl⟩ := lk k o h
    obtain ⟨e', _, _, _, y1, _, y2, _⟩ := S.obj k _ h1
    rw [h2] at y1; cases y1
    exact ⟨e, g, cells, et, h2, h3, y2, h4, h5⟩
  · obtain ⟨rfl, rfl⟩ := lk k o h
    refine ⟨.inl ⟨k, _, e, h1, rfl, h2, ?_, by rw [h]; rfl⟩, fun hz => S.zo k _ f b h1 rfl hf hb hz⟩
    rw [h2] at hf; cases hf; exact hb
  · exact absurd ((lk k o q1).1.trans (lk m p q2).1.symm) q5
  · refine ⟨hg.os.trans S.gr.os, hg.tape.trans S.gr.tape, hg.output.trans S.gr.output, Nat.le_trans S.gr.size hg.size, fun k hk hr => ?_⟩
    refine (hg.block k (Nat.lt_of_lt_of_le hk S.gr.size) (fun e0 => ?_)).trans (S.gr.block k hk hr)
    have e0 : k = g := Option.some.inj e0
    rcases S.bs i _ e k h1 rfl h2 (e0 ▸ Ent.has_bl h3) with h | h
    · omega
    · exact hr h.symm
theorem Sim.same_step (S : Sim gp Z0 w0 N D c T O a.tmps w) (hx : Below w.heap.size w w') : Sim gp Z0 w0 N D c T O a.tmps w' ∧ Stay c.Z w w' := by
  have st : Stay c.Z w w' := fun k hz => Ext.size (w := w) (w' := w') hx |> fun _ => (show Ext w w' from hx).block k (S.zl k hz)
  refine ⟨S.step (d := none) (v := .bool true) (av := .c .tt) (ob := []) (c' := c) (w' := w') (D' := D) rfl (Cf.Le.refl c) st rfl (fun k o q1 _ q3 f b q4 q5 => (show Ext w w' from hx).block b ((S.obj k o q1).lt q3 f b q4 q5)) (fun _ _ h => by cases h) (fun _ _ _ _ h => by cases h) (fun _ _ _ _ _ _ _ h => by cases h) (fun b hz => ⟨Nat.lt_of_lt_of_le (S.zl b hz) (Below.size hx), S.zz b hz, fun k o f q1 _ q3 q4 q5 => S.zo k o f b q1 q3 q4 q5 hz⟩) S.dom (grown_trans S.gr ((show Ext w w' from hx).by_ _)) (fun _ _ _ _ h => by cases h), st⟩
end
def isB : Ce → Bool
  | .tt => true
  | .ff => true
  | .sc (.bool _) => true
  | _ => false
def isR : Ce → Bool
  | .ow _ => true
  | .nl => true
  | _ => false
theorem isB_val {c : Cf} {w : World} {v : Value} {x : Ce} (h : isB x = true) (hv : RC c w v x) : ∃ b, v = .bool b := by
  unfold isB at h
  split at h
  · exact ⟨_, hv⟩
  · exact ⟨_, hv⟩
  · exact ⟨_, hv.1⟩
  · cases h
theorem isR_val {c : Cf} {w : World} {v : Value} {x : Ce} (h : isR x = true) (hv : RC c w v x) : ∃ A n m, v = .slice A n m := by
  unfold isR at h
  split at h
  · obtain ⟨e, _, h⟩ := hv; exact ⟨_, _, _, h⟩
  · exact ⟨_, _, _, hv⟩
  · cases h
def p_made : Prim := fun xs O n => match xs with
  | [.c (.pv i 0), .ag [s, x, y], .c (.sc (.int .i64 er))] => match O i with
    | some (.var [.sc (.int .i64 e0)]) => bif isB s && isR x && isR y then match mvCs (decide (e0 ≠ 0)) (upO O [(i, .var [.sc (.int .i64 (if e0 ≠ 0 then e0 else er))])]) [s, x, y] n with
      | some (ys, ob, m) => some (none, .e ⟨.ag ys, ob ++ [(i, .var [.sc (.int .i64 (if e0 ≠ 0 then e0 else er))])], m - n⟩)
      | none => none else none
    | _ => none
  | _ => none
def p_told : Prim := fun xs O n => match xs with
  | [.c (.pv i 0), .ag [s, x, y], .ag [t, u, z]] => match O i with
    | some (.var [.sc (.int .i64 e0)]) => bif isB s && isR x && isR y && isB t && isR u && isR z then match mvCs (decide (e0 ≠ 0)) O [s, x, y, t, u, z] n with
      | some (ys, ob, m) => some (none, .e ⟨.tu [(true, ys), (false, [.sc (.int .i64 e0)])], ob, m - n⟩)
      | none => none else none
    | _ => none
  | _ => none
theorem pr_made : PrimOk Tryz.prog 128 p_made := by
  refine ⟨callFunc_enter Tryz.func128 (by kernel_rfl) rfl, fun gp Z0 w0 N D c T O O' a w xs vs n cd G S hO hl hv h hfr hc => ?_⟩
  unfold p_made at h
  split at h
  · rename_i i s x y er
    split at h
    · rename_i e0 hi
      cases hb : (isB s && isR x && isR y) with
      | false => rw [hb] at h; cases h
      | true =>
        rw [hb] at h
        simp only [cond_true] at h
        split at h
        · rename_i ys ob m hm
          cases h
          simp only [Bool.and_eq_true] at hb
          obtain ⟨⟨hb1, hb2⟩, hb3⟩ := hb
          match vs, hl with
          | ⟨[v0, v1, v2]⟩, _ =>
            obtain ⟨e, g, p1, p2, rfl⟩ := hv 0 v0 _ rfl rfl
            obtain ⟨us, rfl, q⟩ := hv 1 v1 _ rfl rfl
            obtain ⟨rfl, p3⟩ := hv 2 v2 _ rfl rfl
            have hlen := q.1
            match hus : us, hlen with
            | ⟨[u0, u1, u2]⟩, _ =>
              obtain ⟨b, rfl⟩ := isB_val hb1 (q.2 0 u0 s rfl rfl)
              obtain ⟨A, n1, c1, rfl⟩ := isR_val hb2 (q.2 1 u1 x rfl rfl)
              obtain ⟨B, n2, c2, rfl⟩ := isR_val hb3 (q.2 2 u2 y rfl rfl)
              have hOi := hO _ _ hi
              obtain ⟨e', g', cells, et, r1, r2, r0, r3, r4⟩ := S.obj i _ hOi
              rw [p1] at r1; cases r1
              rw [p2] at r2; cases r2
              have hcells : cells = #[.int .i64 e0] ∧ okv (.int .i64 e0) := by
                obtain ⟨v, e1, e2, e3⟩ := r4.single
                subst e2
                exact ⟨Array.ext' e1, e3⟩
              obtain ⟨rfl, hok⟩ := hcells
              refine (made_h g e0 b n1 n2 er A B c1 c2 w ⟨et, r3⟩).mono ?_
              rintro e w' ⟨k1, k2, k3, et', k4⟩
              have hok' : okv (.int .i64 (if e0 ≠ 0 then e0 else er)) := by
                split
                · exact hok
                · exact p3
              obtain ⟨S1, st⟩ := S.var_step hOi p1 p2 k3 k4 (cs' := [.sc (.int .i64 (if e0 ≠ 0 then e0 else er))]) (RL.one ⟨rfl, hok'⟩)
              obtain ⟨l0, c', l1, l2, l3⟩ := mvCs_sound (O' := upO O' [(i, .var [.sc (.int .i64 (if e0 ≠ 0 then e0 else er))])]) S1 (fun k o h => by
                unfold upO at h ⊢
                split at h
                · exact h
                · exact hO k o h) hm (fun k h1 h2 => hfr k h1 (by show k < n + (m - n); omega)) (q.mono (Cf.Le.refl c) st)
              refine ⟨.agg (bif decide (e0 ≠ 0) then [Value.bool b, .slice A n1 c1, .slice B n2 c2].map zV else [Value.bool b, .slice A n1 c1, .slice B n2 c2]).toArray, c', ?_, fun d hd => ?_⟩
              · by_cases h0 : e0 ≠ 0
                · rw [k1 h0, decide_eq_true h0]; rfl
                · rw [k2 (by simpa using h0), decide_eq_false h0]; rfl
              · have := l2.value (v := .agg (bif decide (e0 ≠ 0) then [Value.bool b, .slice A n1 c1, .slice B n2 c2].map zV else [Value.bool b, .slice A n1 c1, .slice B n2 c2]).toArray) hd (av := .ag ys) ⟨_, rfl, l3⟩
                rw [upO_upO] at this
                have e : (fun k => D k ∨ (n ≤ k ∧ k < m)) = (fun k => D k ∨ n ≤ k ∧ k < n + (m - n)) := by
                  rw [show n + (m - n) = m by omega]
                rw [e] at this
                exact this
        · cases h
    · cases h
  · cases h
theorem pr_told : PrimOk Tryz.prog 98 p_told := by
  refine ⟨callFunc_enter Tryz.func98 (by kernel_rfl) rfl, fun gp Z0 w0 N D c T O O' a w xs vs n cd G S hO hl hv h hfr hc => ?_⟩
  unfold p_told at h
  split at h
  · rename_i i s x y t u z
    split at h
    · rename_i e0 hi
      cases hb : (isB s && isR x && isR y && isB t && isR u && isR z) with
      | false => rw [hb] at h; cases h
      | true =>
        rw [hb] at h
        simp only [cond_true] at h
        split at h
        · rename_i ys ob m hm
          cases h
          simp only [Bool.and_eq_true] at hb
          obtain ⟨⟨⟨⟨⟨hb1, hb2⟩, hb3⟩, hb4⟩, hb5⟩, hb6⟩ := hb
          match vs, hl with
          | ⟨[v0, v1, v2]⟩, _ =>
            obtain ⟨e, g, p1, p2, rfl⟩ := hv 0 v0 _ rfl rfl
            obtain ⟨us, rfl, q⟩ := hv 1 v1 _ rfl rfl
            obtain ⟨us', rfl, q'⟩ := hv 2 v2 _ rfl rfl
            have hlen := q.1
            have hlen' := q'.1
            match hus : us, hlen, hus' : us', hlen' with
            | ⟨[u0, u1, u2]⟩, _, ⟨[u3, u4, u5]⟩, _ =>
              obtain ⟨b, rfl⟩ := isB_val hb1 (q.2 0 u0 s rfl rfl)
              obtain ⟨A, n1, c1, rfl⟩ := isR_val hb2 (q.2 1 u1 x rfl rfl)
              obtain ⟨B, n2, c2, rfl⟩ := isR_val hb3 (q.2 2 u2 y rfl rfl)
              obtain ⟨b', rfl⟩ := isB_val hb4 (q'.2 0 u3 t rfl rfl)
              obtain ⟨A', n3, c3, rfl⟩ := isR_val hb5 (q'.2 1 u4 u rfl rfl)
              obtain ⟨B', n4, c4, rfl⟩ := isR_val hb6 (q'.2 2 u5 z rfl rfl)
              have hOi := hO _ _ hi
              obtain ⟨e', g', cells, et, r1, r2, r0, r3, r4⟩ := S.obj i _ hOi
              rw [p1] at r1; cases r1
              rw [p2] at r2; cases r2
              have hcells : cells = #[.int .i64 e0] ∧ okv (.int .i64 e0) := by
                obtain ⟨v, e1, e2, e3⟩ := r4.single
                subst e2
                exact ⟨Array.ext' e1, e3⟩
              obtain ⟨rfl, hok⟩ := hcells
              have hcall := told_any g e0 ⟨b, List.replicate n1 0, List.replicate n2 0⟩ ⟨b', List.replicate n3 0, List.replicate n4 0⟩ A B A' B' c1 c2 c3 c4 w (way_of r3)
              simp only [List.length_replicate] at hcall
              refine hcall.mono ?_
              rintro e w' ⟨k1, k2, k3⟩
              obtain ⟨S1, st⟩ := S.same_step k3
              have q2 := (q.append q').mono (Cf.Le.refl c) st
              obtain ⟨l0, c', l1, l2, l3⟩ := mvCs_sound (O' := O') S1 hO hm (fun k h1 h2 => hfr k h1 (by show k < n + (m - n); omega)) q2
              refine ⟨.tuple #[.agg (bif decide (e0 ≠ 0) then [Value.bool b, .slice A n1 c1, .slice B n2 c2, Value.bool b', .slice A' n3 c3, .slice B' n4 c4].map zV else [Value.bool b, .slice A n1 c1, .slice B n2 c2, Value.bool b', .slice A' n3 c3, .slice B' n4 c4]).toArray, .int .i64 e0], c', ?_, fun d hd => ?_⟩
              · by_cases h0 : e0 ≠ 0
                · rw [k1 h0, decide_eq_true h0]; rfl
                · have h0' : e0 = 0 := by simpa using h0
                  rw [k2 h0', decide_eq_false h0, h0']; rfl
              · have := l2.value (v := .tuple #[.agg (bif decide (e0 ≠ 0) then [Value.bool b, .slice A n1 c1, .slice B n2 c2, Value.bool b', .slice A' n3 c3, .slice B' n4 c4].map zV else [Value.bool b, .slice A n1 c1, .slice B n2 c2, Value.bool b', .slice A' n3 c3, .slice B' n4 c4]).toArray, .int .i64 e0]) hd (av := .tu [(true, ys), (false, [.sc (.int .i64 e0)])]) ⟨_, rfl, rfl, fun k v p e1 e2 => by
                  match k with
                  | 0 => cases e1; cases e2; unfold RP; rw [if_pos rfl]; exact ⟨_, rfl, l3⟩
                  | 1 => cases e1; cases e2; unfold RP; rw [if_neg (by simp)]; exact ⟨_, rfl, rfl, hok⟩
                  | k + 2 => simp at e2⟩
                have e : (fun k => D k ∨ (n ≤ k ∧ k < m)) = (fun k => D k ∨ n ≤ k ∧ k < n + (m - n)) := by
                  rw [show n + (m - n) = m by omega]
                rw [e] at this
                exact this
        · cases h
    · cases h
  · cases h
def pG (t : Ga × Int) : El .un × Els [tG, .it .i64] := ((), (ofGa t.1, t.2, ()))
def spG1 (F : Ga → Ga × Int) : Spec := { q := .un, ps := [tG], rs := [tG, .it .i64], fresh := true, pre := fun _ _ => none, post := fun _ x => pG (F (toGa x.1)) }
def spG2 (F : Ga → Ga → Ga × Int) : Spec := { q := .un, ps := [tG, tG], rs := [tG, .it .i64], fresh := true, pre := fun _ _ => none, post := fun _ x => pG (F (toGa x.1) (toGa x.2.1)) }
end Go.Proofs.YtjoonfegjobgbaaGreatDoor
