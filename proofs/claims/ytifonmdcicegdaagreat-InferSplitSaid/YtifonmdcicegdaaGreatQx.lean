/- Texts of this claim, joined: B10 B11 Y5 Y7 U15. -/
import Derived.Deep.AppendLies
import Derived.Deep.RegionHeldLaw
import Derived.Test.YtifonmdcicegdaaGreatQw
set_option linter.unusedVariables false
set_option linter.unusedSimpArgs false
namespace Go.Proofs.YtifonmdcicegdaaGreat
open Go Go.RowKit

abbrev toFrL (x : El tRL) : Fr := ⟨x.1, x.2.1, x.2.2.1⟩
abbrev toGaL (x : El tGL) : Ga := ⟨toFrL x.1, toFrL x.2.1⟩
theorem mks4_words (j : Nat) (us : List Value) (h : (mks 4 (.it .u32))[j]? = some us) : ∃ x, mk3[j]? = some x ∧ us = [.int .u32 x] := by
  have e : mks 4 (.it .u32) = mk3.map fun x => [.int .u32 x] := rfl
  rw [e, List.getElem?_map] at h
  cases hx : mk3[j]? with
  | none => rw [hx] at h; cases h
  | some x => rw [hx] at h; cases h; exact ⟨x, rfl, rfl⟩
theorem rq_lent {Z : Nat → Prop} {w : World} {base : Nat} {A : Option Addr} {c : Nat} {xs : List Int} (h : Own w base A c (xs ++ mk3)) (hw : Wf (xs ++ mk3)) : RQ true Z w base (.lt (.it .u32)) xs [.slice A xs.length c] (blkA A) := by
  unfold RQ
  rw [if_pos rfl]
  rcases h.cases with ⟨_, _, e⟩ | ⟨g, cur, rfl, h1, h2, h3, h4, h5, h6⟩
  · exact absurd e (by simp [mk3])
  · have at_ : ∀ (j : Nat) (hj : j < (xs ++ mk3).length), w.cell? ⟨g, j, none⟩ = some (.int .u32 ((xs ++ mk3)[j]'hj)) := fun j hj => by
      obtain ⟨a, ha, hc⟩ := h.rd.at_ j hj
      cases ha
      rw [nth_lt _ j hj, adr_add] at hc
      simpa using hc
    rw [List.length_append] at h3
    refine rowQ_words (m := 4) h1 h2 h5 h3 h4 (fun x hx => hw x (by simp [hx])) (fun j hj => ?_) (fun j us hj i u hu => ?_)
    · have := at_ j (by rw [List.length_append]; omega)
      rw [List.getElem_append_left hj] at this
      exact this
    · obtain ⟨x, k1, rfl⟩ := mks4_words j us hj
      obtain ⟨hj3, rfl⟩ := List.getElem?_eq_some_iff.1 k1
      cases i with
      | zero =>
        cases hu
        have := at_ (xs.length + j) (by rw [List.length_append]; omega)
        rw [List.getElem_append_right (by omega)] at this
        simpa using this
      | succ i => simp at hu
theorem rd_lent {Z : Nat → Prop} {w : World} {l : List Int} {vs : List Value} (h : RT Z w (.lt (.it .u32)) l vs) : ∃ A c, vs = [.slice A l.length c] ∧ Rd w A c (l ++ mk3) ∧ Wf l := by
  obtain ⟨g, o, c, h1, h2, h3, h4, h5, h6⟩ := h.lt_row
  have el : ∀ (j : Nat) (hj : j < l.length), (0 ≤ l[j] ∧ l[j] ≤ 4294967295) ∧ w.cell? ⟨g, o + j, none⟩ = some (.int .u32 l[j]) := fun j hj => by
    obtain ⟨us, k1, k2⟩ := h5 j hj
    rw [RT] at k1
    obtain ⟨rfl, k3⟩ := k1
    refine ⟨k3, ?_⟩
    have := k2 0 _ rfl
    rw [show o + (j * (Ty.it IntKind.u32).size + 0) = o + j by show o + (j * 1 + 0) = o + j; omega] at this
    exact this
  refine ⟨_, c, h1, ⟨by rw [List.length_append]; exact h2, h3, (fun e => by cases e), fun j hj => ⟨_, rfl, ?_⟩⟩, fun x hx => ?_⟩
  · rw [nth_lt _ j hj, adr_add]
    by_cases hl : j < l.length
    · rw [List.getElem_append_left hl]; exact (el j hl).2
    · rw [List.length_append] at hj
      have hj3 : j - l.length < mk3.length := by omega
      rw [List.getElem_append_right (by omega)]
      have := h6 (j - l.length) [.int .u32 mk3[j - l.length]] (by
        have e : mks 4 (.it .u32) = mk3.map fun x => [.int .u32 x] := rfl
        rw [e, List.getElem?_map, List.getElem?_eq_getElem hj3]; rfl) 0 _ rfl
      rw [show o + l.length * (Ty.it IntKind.u32).size + ((j - l.length) * (Ty.it IntKind.u32).size + 0) = o + j by show o + l.length * 1 + ((j - l.length) * 1 + 0) = o + j; omega] at this
      exact this
  · obtain ⟨j, hj, rfl⟩ := List.getElem_of_mem hx
    have := (el j hj).1
    exact ⟨this.1, Int.lt_of_le_of_lt this.2 (by decide)⟩
theorem rv_frL {Z : Nat → Prop} {w : World} {x : El tRL} {v : Value} (h : RV Z w tRL x v) : ∃ p : Adr, v = .agg #[.bool (toFrL x).neg, .slice p.A (toFrL x).num.length p.c, .slice p.B (toFrL x).den.length p.d] ∧ RF w p (lentF (toFrL x)) ∧ (toFrL x).Wf := by
  unfold RV at h
  rw [if_pos (show tRL.agg = true from rfl)] at h
  obtain ⟨us, rfl, h⟩ := h
  obtain ⟨u1, u2, e, h1, h2⟩ : ∃ u u', us.toList = u ++ u' ∧ RT Z w .bo x.1 u ∧ RT Z w (.pr (.lt (.it .u32)) (.pr (.lt (.it .u32)) .un)) x.2 u' := by rw [RT] at h; exact h
  obtain ⟨u3, u4, rfl, h3, h4⟩ : ∃ u u', u2 = u ++ u' ∧ RT Z w (.lt (.it .u32)) x.2.1 u ∧ RT Z w (.pr (.lt (.it .u32)) .un) x.2.2 u' := by rw [RT] at h2; exact h2
  obtain ⟨u5, u6, rfl, h5, h6⟩ : ∃ u u', u4 = u ++ u' ∧ RT Z w (.lt (.it .u32)) x.2.2.1 u ∧ RT Z w .un x.2.2.2 u' := by rw [RT] at h4; exact h4
  have h1 : u1 = [.bool x.1] := by rw [RT] at h1; exact h1
  have h6 : u6 = [] := by rw [RT] at h6; exact h6
  subst h1 h6
  obtain ⟨A, c, rfl, r1, w1⟩ := rd_lent h3
  obtain ⟨B, d, rfl, r2, w2⟩ := rd_lent h5
  refine ⟨⟨A, c, B, d⟩, ?_, ⟨r1, r2, lentF_wf (f := toFrL x) ⟨w1, w2⟩⟩, w1, w2⟩
  congr 1
  apply Array.ext'
  rw [e]; rfl
def sp_kLent : Spec := { q := .un, ps := [tR], rs := [tRL], fresh := true, pre := fun _ x => some (Few (toFr x.1)), post := fun _ x => ((), (x.1, ())) }
theorem fo_kLent : FnOk Tryz.prog 13 sp_kLent := by
  refine ⟨callFunc_enter Tryz.func13 (by kernel_rfl) rfl, fun Z w gv vs y x hZ hv hc _ _ => ?_⟩
  match vs, hv with
  | [u], ⟨h1, _⟩ =>
    obtain ⟨p, rfl, k1⟩ := rv_fr h1
    refine (kLent _ p w k1 hc).mono ?_
    rintro e w' ⟨p', rfl, o, b⟩
    exact told_new (S := sp_kLent) (r := (x.1, ())) (us := [_]) (bs := blkA p'.A ++ blkA p'.B) rfl rfl (.inl ⟨_, rfl, rfl⟩) hZ ⟨_, [], (List.append_nil _).symm, ⟨_, rfl, ⟨[_], _, [], _, rfl, rfl, ⟨by rw [RT], rfl⟩, [_], [_], _, _, rfl, rfl, rq_lent o.num o.wf.num, [_], [], _, [], rfl, (List.append_nil _).symm, rq_lent o.den o.wf.den, rfl, rfl⟩⟩, rfl⟩ (blkA_nodup o.ap) (blkA_base o) b
def sp_kKept : Spec := { q := .un, ps := [tRL, tR], rs := [.bo], fresh := true, pre := fun _ x => some (toFrL x.1 = toFr x.2.1 ∧ Few (toFr x.2.1)), post := fun _ _ => ((), (true, ())) }
theorem fo_kKept : FnOk Tryz.prog 36 sp_kKept := by
  refine ⟨callFunc_enter Tryz.func36 (by kernel_rfl) rfl, fun Z w gv vs y x hZ hv hc _ _ => ?_⟩
  match vs, hv with
  | [u, v], ⟨h1, h2, _⟩ =>
    obtain ⟨p, rfl, k1, _⟩ := rv_frL h1
    obtain ⟨q, rfl, k2⟩ := rv_fr h2
    obtain ⟨he, hm⟩ : toFrL x.1 = toFr x.2.1 ∧ Few (toFr x.2.1) := hc
    rw [he] at k1 ⊢
    refine (kkeptR_any (toFr x.2.1) _ _ _ _ _ _ _ _ w k1.num k1.den k2.num k2.den hm.1 hm.2).mono ?_
    rintro e w' ⟨rfl, b⟩
    exact told_new (S := sp_kKept) (r := (true, ())) (us := [_]) (bs := []) rfl rfl (.inl ⟨_, rfl, rfl⟩) hZ ⟨[], [], rfl, ⟨by rw [RT], rfl⟩, rfl⟩ List.nodup_nil (fun g hg => by simp at hg) b
end Go.Proofs.YtifonmdcicegdaaGreat

namespace Go.Proofs.YtifonmdcicegdaaGreat
open Go Go.RowKit

noncomputable def sp_kLentG : Spec := { q := .un, ps := [tG], rs := [tGL], fresh := true, pre := fun _ x => some (Few (toFr x.1.1) ∧ Few (toFr x.1.2.1)), post := fun _ x => ((), (x.1, ())) }
noncomputable def iv_kLentG (y : El sp_kLentG.q) (x : Els sp_kLentG.ps) : Nat → Option Inv := fun _ => none
noncomputable abbrev c_kLentG : Cfg := cfgS (Tryz.f39).ntmps false [(13, sp_kLent.prim)]
set_option maxRecDepth 100000 in
theorem w_kLentG (y : El sp_kLentG.q) (x : Els sp_kLentG.ps) : aw c_kLentG (iv_kLentG y x) (codeOf Tryz.f39) 0 (retQ c_kLentG sp_kLentG (Tryz.f39).results.toList y x) (startT sp_kLentG x) (startO sp_kLentG y) 1 =
  (((toFr x.fst.fst).num.length ≤ (1000000 : Nat) ∧ (toFr x.fst.fst).den.length ≤ (1000000 : Nat)) ∧ ∀ (r : El Ty.un × Els [tRL]), r = ((), x.fst.fst, ()) → ((toFr x.fst.snd.fst).num.length ≤ (1000000 : Nat) ∧ (toFr x.fst.snd.fst).den.length ≤ (1000000 : Nat)) ∧ ∀ (r_1 : El Ty.un × Els [tRL]), r_1 = ((), x.fst.snd) → ((r.snd.fst, r_1.snd), ()) = x) := by kernel_rfl
theorem m_kLentG (y : El (.un)) (x : Els [tG]) (h2 : wfE (.un) y) (h3 : wfEs [tG] x) (h4 : Few (toFr x.1.1) ∧ Few (toFr x.1.2.1)) :
  (((toFr x.fst.fst).num.length ≤ (1000000 : Nat) ∧ (toFr x.fst.fst).den.length ≤ (1000000 : Nat)) ∧ ∀ (r : El Ty.un × Els [tRL]), r = ((), x.fst.fst, ()) → ((toFr x.fst.snd.fst).num.length ≤ (1000000 : Nat) ∧ (toFr x.fst.snd.fst).den.length ≤ (1000000 : Nat)) ∧ ∀ (r_1 : El Ty.un × Els [tRL]), r_1 = ((), x.fst.snd) → ((r.snd.fst, r_1.snd), ()) = x) := by
  refine ⟨h4.1, ?_⟩
  rintro _ rfl
  refine ⟨h4.2, ?_⟩
  rintro _ rfl
  rfl
set_option maxRecDepth 100000 in
theorem fo_kLentG : FnOk Tryz.prog 39 sp_kLentG := fnOk_of (C := c_kLentG) iv_kLentG Tryz.func39 rfl (by kernel_rfl) tys_ok (prims_cons (spec_prim fo_kLent) prims_nil) mixed_ (Nat.le_refl _) rfl fun y x h1 h2 h3 h4 =>
  Eq.mpr (w_kLentG y x) (m_kLentG y x h2 h3 h4)
noncomputable def sp_kKeptG : Spec := { q := .un, ps := [tGL, tG], rs := [.bo], fresh := true, pre := fun _ x => some (toGaL x.1 = toGa x.2.1 ∧ Few (toFr x.2.1.1) ∧ Few (toFr x.2.1.2.1)), post := fun _ _ => ((), (true, ())) }
noncomputable def iv_kKeptG (y : El sp_kKeptG.q) (x : Els sp_kKeptG.ps) : Nat → Option Inv := fun _ => none
noncomputable abbrev c_kKeptG : Cfg := cfgS (Tryz.f56).ntmps false [(36, sp_kKept.prim)]
set_option maxRecDepth 100000 in
theorem w_kKeptG (y : El sp_kKeptG.q) (x : Els sp_kKeptG.ps) : aw c_kKeptG (iv_kKeptG y x) (codeOf Tryz.f56) 0 (retQ c_kKeptG sp_kKeptG (Tryz.f56).results.toList y x) (startT sp_kKeptG x) (startO sp_kKeptG y) 1 =
  ((toFrL x.fst.fst = toFr x.snd.fst.fst ∧ (toFr x.snd.fst.fst).num.length ≤ (1000000 : Nat) ∧ (toFr x.snd.fst.fst).den.length ≤ (1000000 : Nat)) ∧ ∀ (r : El Ty.un × Els [Ty.bo]), r = ((), true, ()) → (r.snd.fst = true → (toFrL x.fst.snd.fst = toFr x.snd.fst.snd.fst ∧ (toFr x.snd.fst.snd.fst).num.length ≤ (1000000 : Nat) ∧ (toFr x.snd.fst.snd.fst).den.length ≤ (1000000 : Nat)) ∧ ∀ (r : El Ty.un × Els [Ty.bo]), r = ((), true, ()) → r.snd = (true, ())) ∧ (r.snd.fst = false → (false, ()) = (true, ()))) := by kernel_rfl
theorem m_kKeptG (y : El (.un)) (x : Els [tGL, tG]) (h2 : wfE (.un) y) (h3 : wfEs [tGL, tG] x) (h4 : toGaL x.1 = toGa x.2.1 ∧ Few (toFr x.2.1.1) ∧ Few (toFr x.2.1.2.1)) :
  ((toFrL x.fst.fst = toFr x.snd.fst.fst ∧ (toFr x.snd.fst.fst).num.length ≤ (1000000 : Nat) ∧ (toFr x.snd.fst.fst).den.length ≤ (1000000 : Nat)) ∧ ∀ (r : El Ty.un × Els [Ty.bo]), r = ((), true, ()) → (r.snd.fst = true → (toFrL x.fst.snd.fst = toFr x.snd.fst.snd.fst ∧ (toFr x.snd.fst.snd.fst).num.length ≤ (1000000 : Nat) ∧ (toFr x.snd.fst.snd.fst).den.length ≤ (1000000 : Nat)) ∧ ∀ (r : El Ty.un × Els [Ty.bo]), r = ((), true, ()) → r.snd = (true, ())) ∧ (r.snd.fst = false → (false, ()) = (true, ()))) := by
  obtain ⟨he, h5, h6⟩ := h4
  have e1 : toFrL x.1.1 = toFr x.2.1.1 := congrArg Ga.re he
  have e2 : toFrL x.1.2.1 = toFr x.2.1.2.1 := congrArg Ga.im he
  refine ⟨⟨e1, h5⟩, ?_⟩
  rintro _ rfl
  exact ⟨fun _ => ⟨⟨e2, h6⟩, by rintro _ rfl; rfl⟩, fun h => by cases h⟩
set_option maxRecDepth 100000 in
theorem fo_kKeptG : FnOk Tryz.prog 56 sp_kKeptG := fnOk_of (C := c_kKeptG) iv_kKeptG Tryz.func56 rfl (by kernel_rfl) tys_ok (prims_cons (spec_prim fo_kKept) prims_nil) mixed_ (Nat.le_refl _) rfl fun y x h1 h2 h3 h4 =>
  Eq.mpr (w_kKeptG y x) (m_kKeptG y x h2 h3 h4)
end Go.Proofs.YtifonmdcicegdaaGreat

namespace Go.Proofs.YtifonmdcicegdaaGreat
open Go Go.RowKit

/-- the cells of fractions side by side -/
def cellsF : List (Adr × Fr) → List Value
  | [] => []
  | (p, f) :: L => .bool f.neg :: .slice p.A f.num.length p.c :: .slice p.B f.den.length p.d :: cellsF L
theorem cellsF_len : ∀ L : List (Adr × Fr), (cellsF L).length = L.length * 3
  | [] => rfl
  | (p, f) :: L => by simp only [cellsF, List.length_cons, cellsF_len L]; omega
theorem cellsF_app : ∀ L M : List (Adr × Fr), cellsF (L ++ M) = cellsF L ++ cellsF M
  | [], M => rfl
  | (p, f) :: L, M => by simp only [List.cons_append, cellsF, cellsF_app L M]
theorem cellsF_at : ∀ (L : List (Adr × Fr)) (i : Nat) (p : Adr) (f : Fr), L[i]? = some (p, f) → (cellsF L)[i * 3]? = some (.bool f.neg) ∧ (cellsF L)[i * 3 + 1]? = some (.slice p.A f.num.length p.c) ∧ (cellsF L)[i * 3 + 2]? = some (.slice p.B f.den.length p.d)
  | [], i, p, f, h => by simp at h
  | (q, g) :: L, 0, p, f, h => by simp at h; obtain ⟨rfl, rfl⟩ := h; exact ⟨rfl, rfl, rfl⟩
  | (q, g) :: L, i + 1, p, f, h => by
    obtain ⟨h1, h2, h3⟩ := cellsF_at L i p f (by simpa using h)
    rw [show (i + 1) * 3 = i * 3 + 1 + 1 + 1 by omega]
    simp only [cellsF, List.getElem?_cons_succ]
    exact ⟨h1, h2, h3⟩
theorem cellsF_one (L : List (Adr × Fr)) : ∀ u ∈ cellsF L, u.oneCell' = true := by
  induction L with
  | nil => intro u hu; simp [cellsF] at hu
  | cons x L ih =>
    intro u hu
    obtain ⟨p, f⟩ := x
    simp only [cellsF, List.mem_cons] at hu
    rcases hu with rfl | rfl | rfl | hu
    · rfl
    · rfl
    · rfl
    · exact ih u hu
/-- a block or row holds them -/
def CellsAt (g : Nat) (L : List (Adr × Fr)) (w : World) : Prop := ∀ j u, (cellsF L)[j]? = some u → w.cell? ⟨g, j, none⟩ = some u
theorem CellsAt.ext {g : Nat} {L : List (Adr × Fr)} {w w' : World} (h : CellsAt g L w) (x : Ext w w') : CellsAt g L w' := fun j u hu => x.cell (h j u hu)
/-- the list's fractions, by an index over 2 n rows -/
def rowA (L : List (Adr × Fr)) (j : Nat) : Option Addr := if j % 2 = 0 then ((L[j / 2]?).map (·.1.A)).getD none else ((L[j / 2]?).map (·.1.B)).getD none
def rowC (L : List (Adr × Fr)) (j : Nat) : Nat := if j % 2 = 0 then ((L[j / 2]?).map (·.1.c)).getD 0 else ((L[j / 2]?).map (·.1.d)).getD 0
def rowX (L : List (Adr × Fr)) (j : Nat) : List Int := if j % 2 = 0 then ((L[j / 2]?).map (·.2.num)).getD [] else ((L[j / 2]?).map (·.2.den)).getD []
theorem row_even {L : List (Adr × Fr)} {i : Nat} {p : Adr} {f : Fr} (h : L[i]? = some (p, f)) : rowA L (2 * i) = p.A ∧ rowC L (2 * i) = p.c ∧ rowX L (2 * i) = f.num := by
  have e1 : 2 * i % 2 = 0 := by omega
  have e2 : 2 * i / 2 = i := by omega
  simp [rowA, rowC, rowX, e1, e2, h]
theorem row_odd {L : List (Adr × Fr)} {i : Nat} {p : Adr} {f : Fr} (h : L[i]? = some (p, f)) : rowA L (2 * i + 1) = p.B ∧ rowC L (2 * i + 1) = p.d ∧ rowX L (2 * i + 1) = f.den := by
  have e1 : (2 * i + 1) % 2 = 1 := by omega
  have e2 : (2 * i + 1) / 2 = i := by omega
  simp [rowA, rowC, rowX, e1, e2, h]
/-- rows picked out of a state's -/
def pick {α : Type} (R : List α) : List Nat → List α
  | [] => []
  | i :: I => match R[i]? with
    | some x => x :: pick R I
    | none => pick R I
theorem pick_at {α : Type} {R : List α} : ∀ (I : List Nat) (k : Nat) (x : α), (∀ i ∈ I, i < R.length) → (pick R I)[k]? = some x → ∃ i, I[k]? = some i ∧ R[i]? = some x
  | [], k, x, _, h => by simp [pick] at h
  | i :: I, k, x, hI, h => by
    have hi := hI i (by simp)
    have e : R[i]? = some R[i] := List.getElem?_eq_getElem hi
    simp only [pick, e] at h
    cases k with
    | zero => simp at h; subst h; exact ⟨i, rfl, e⟩
    | succ k =>
      obtain ⟨j, h1, h2⟩ := pick_at I k x (fun j hj => hI j (by simp [hj])) (by simpa using h)
      exact ⟨j, by simpa using h1, h2⟩
section
variable {wb w0 w w' : World} {row : Option Nat} {V : List (Nat × List Value)} {R : List (Adr × Fr)}
end
section
variable {wb w0 w w' : World} {row : Option Nat} {V : List (Nat × List Value)} {R : List (Adr × Fr)}
theorem Sta.rg (S : Sta wb w0 row V R w) (i : Nat) {p q : Adr} {a : Ga} (hi : R[i]? = some (p, a.re)) (hj : R[i + 1]? = some (q, a.im)) : RG w p q a := ⟨S.rf i hi, S.rf (i + 1) hj⟩
end
theorem news_of (X : World) (M : List (Adr × Fr)) (t : TypeId) : ∀ j u, (cellsF M)[j]? = some u → (X.alloc (.cells (cellsF M).toArray t)).cell? ((⟨X.heap.size, 0, none⟩ : Addr).add j) = some u := fun j u hu => by
  rw [add_plain0]; exact (Var.new X (cellsF M) t).at_ j u hu
/-- an append of fractions at a step of a drawn region, guarded or not -/
theorem step_appF {ops : Array Oper} {o : Oper} {a : Act} {w : World} {K : Act → World → Prop} {Q : Exit → Act → World → Prop} {E : Prop} (hgd : Region.wanted o (yielded ops a.tmps) = true) (s x : Operand)
    (ho : o.op = .call { callee := .builtin .append, args := #[s, x], argTypes := #[26, 26] })
    (base : Nat) (v : Value) (n : Nat) (L M : List (Adr × Fr)) (hs : a.eval s = v) (hown : w.ownsRow base 24 3 v n (cellsF L))
    (ad : Addr) (m c : Nat) (hx : a.eval x = .slice (some ad) m c) (hl : M.length = m) (hnews : ∀ j u, (cellsF M)[j]? = some u → w.cell? (ad.add j) = some u)
    (hm : 0 < m) (hm2 : m ≤ 1000000) (hn : n ≤ 1000000) (hbase : base ≤ w.heap.size)
    (h : ∀ g cap w', w'.ownsRow base 24 3 (.slice (some ⟨g, 0, none⟩) (n + m) cap) (n + m) (cellsF (L ++ M)) → w.grownBy w' v.ownBlock → (v.ownBlock = some g ∨ g = w.heap.size) → g < w'.heap.size → K (a.put o.dst (.slice (some ⟨g, 0, none⟩) (n + m) cap)) w') :
    if Region.wanted o (yielded ops a.tmps) = true then Oper.wp Tryz.prog o a w K Q else E := by
  obtain ⟨i0, hi, hz0, hz1, hz2⟩ := info_parts info_ratio
  rw [if_pos hgd]
  refine wp_append_lies w s x 26 ho base 24 i0 _ 3 56 Tryz.underlying26 hi hz0 hz1 hz2 rfl (by decide) v n _ hs hown ad m c (cellsF M) hx (by rw [cellsF_len, hl]) hnews (cellsF_one M) hm (by unfold maxLen; omega) (by omega) hbase w.heap.size rfl ?_
  intro g cap w' h1 h2 h3 h4
  exact h g cap w' (by rw [cellsF_app]; exact h1) h2 h3 h4

end Go.Proofs.YtifonmdcicegdaaGreat

namespace Go.Proofs.YtifonmdcicegdaaGreat
open Go Go.RowKit

/-- what lies below w0, and each block of w that is none of the rows', is as it was -/
structure ExtS (w0 w : World) (k : Nat) (P : Nat → Option Addr) (w' : World) : Prop where
  x : Ext w0 w'
  z : w.heap.size ≤ w'.heap.size
  s : ∀ b, b < w.heap.size → (∀ j, j < k → ∀ a, P j = some a → a.block ≠ b) → w'.heap[b]? = w.heap[b]?
theorem ExtS.start {w0 w w' : World} {k : Nat} {P : Nat → Option Addr} (h0 : Ext w0 w') (h : Ext w w') : ExtS w0 w k P w' := ⟨h0, h.size, fun b hb _ => (h.by_ none).block b hb (by simp)⟩
theorem ExtS.drewN {w0 w w' : World} {k : Nat} {P : Nat → Option Addr} (h : ExtS w0 w k P w') (n : Nat) : ExtS w0 w k P (w'.drewN n) := ⟨h.x.drewN n, Nat.le_trans h.z ((Ext.refl w').drewN n).size, fun b hb ho => ((((Ext.refl w').drewN n).by_ none).block b (Nat.lt_of_lt_of_le hb h.z) (by simp)).trans (h.s b hb ho)⟩
theorem ExtS.grown {w0 w w' w2 : World} {k m : Nat} {P : Nat → Option Addr} (h : ExtS w0 w k P w') (hm : m < k) (g : w'.grownBy w2 ((P m).map (·.block))) (hr : ∀ b, (P m).map (·.block) = some b → w0.heap.size ≤ b) : ExtS w0 w k P w2 :=
  ⟨h.x.grown g hr, Nat.le_trans h.z g.size, fun b hb ho => (g.block b (Nat.lt_of_lt_of_le hb h.z) (fun e => by
    cases hp : P m with
    | none => rw [hp] at e; cases e
    | some a => rw [hp] at e; injection e with e; exact ho m hm a hp e.symm)).trans (h.s b hb ho)⟩
theorem ExtS.up {w0 w v w' : World} {k : Nat} {P : Nat → Option Addr} (h : ExtS w0 v k P w') (x : Ext w v) : ExtS w0 w k P w' := ⟨h.x, Nat.le_trans x.size h.z, fun b hb ho => (h.s b (Nat.lt_of_lt_of_le hb x.size) ho).trans ((x.by_ none).block b hb (by simp))⟩

set_option maxHeartbeats 2000000 in
theorem kapartW_s (w0 w : World) (k gb cb : Nat) (P : Nat → Option Addr) (C : Nat → Nat) (X : Nat → List Int) (hR : Rows w0.heap.size k gb P C X X w) (h0 : Ext w0 w) (hk : k ≤ 1000000) (hcb : k ≤ cb) (hcm : cb ≤ 9223372036854775807) (hgb : gb < w.heap.size)
    (hne : ∀ j, j < k → ∀ a, P j = some a → a.block ≠ gb) (hap : ∀ i j, i < k → j < k → i ≠ j → ∀ a b, P i = some a → P j = some b → a.block ≠ b.block) (hX : ∀ j, j < k → (X j).length ≤ 1000000 ∧ Wf (X j)) :
    Calls Tryz.prog 162 #[.slice (some ⟨gb, 0, none⟩) k cb] w fun e w' => e = .returned (.bool true) ∧ ExtS w0 w k P w' := by
  have HR := Lib.hid hR
  have H0 := Lib.hid h0
  have HG := Lib.hid hgb
  have HN := Lib.hid hne
  have HAP := Lib.hid hap
  have HXX := Lib.hid hX
  clear hR h0 hgb hne hap hX
  obtain ⟨i0, hi, hz0, hz1, hz2⟩ := info_parts info_words
  go_enter Tryz.func162, Tryz.ntmps162
  go_wp2_with (at_make; refine wpList_make_full w rfl _ _ 148 rfl w.heap.size 22 i0 (.slice none 0 0) 1 Tryz.underlying148 hi hz0 hz1 .i64 .i64 _ _ k rfl rfl rfl rfl (by rw [hz2]; omega) (by unfold maxLen; omega) (Nat.le_refl _) ?_; intro w1 hO hG)
  obtain ⟨gw, hgw⟩ : ∃ gw, gw = w.heap.size := ⟨_, rfl⟩
  obtain ⟨vs0, hvs⟩ : ∃ vs0, vs0 = (madeCells (Value.slice none 0 0).cells (k * 1)).toList := ⟨_, rfl⟩
  rw [← hvs] at hO
  rw [← hgw] at hO ⊢
  have HX1 := Lib.hid ((Ext.refl w).grownNone hG)
  have HO1 := Lib.hid hO
  have HGW := Lib.hid hgw
  have hcell : w1.heap.size > gw := by
    rcases hO.2 with ⟨h', _⟩ | ⟨g', cap', cur, h', hb, hg, _⟩
    · simp at h'
    · simp at h'
      rw [h'.1]
      exact (Array.getElem?_eq_some_iff.1 hg).1
  have HGWL := Lib.hid hcell
  clear hO hG hvs hgw hz0 hz1 hz2 hi hcell
  go_loopw [4] (fun s wr => ∃ (i : Nat) (vs : List Value) (Q : Nat → Option Addr) (D : Nat → Nat), i ≤ k ∧ s = .int .i64 i ∧ Hid (wr.ownsRow gw 22 1 (.slice (some ⟨gw, 0, none⟩) k k) k vs) ∧ Hid (∀ j, j < i → vs[j]? = some (.slice (Q j) (X j).length (D j))) ∧ Hid (∀ j, j < i → Own wr w1.heap.size (Q j) (D j) (X j)) ∧ Hid (Ext w wr) ∧ Hid (w1.heap.size ≤ wr.heap.size)) (fun s _ => k - (intOf s).toNat)
  case atStart => exact ⟨0, vs0, fun _ => none, fun _ => 0, by omega, rfl, HO1.out, fun j hj => by omega, fun j hj => by omega, HX1.out, Nat.le_refl _⟩
  case round =>
    obtain ⟨i, vs, Q, D, hik, rfl, HV, HVE, HQ, HX, HS⟩ := hrel
    by_cases hi : i < k
    · have hidx := HX.out.cell (HR.out.idx i hi)
      have HCP := Lib.hid (kcopy_any (P i) (X i) (C i) (X i).length wr ((HR.out.row i hi).rd.ext HX.out) rfl (by have := (HXX.out i hi).1; omega))
      go_wp2_with fail
      refine HCP.out.mono ?_; rintro e w2 ⟨A2, c2, rfl, h2, hx2⟩
      have HV2 := Lib.hid (HV.out.kept (hx2.by_ none) (.inr (by simp [Value.ownBlock])))
      obtain ⟨u, hu⟩ : ∃ u, vs[i]? = some u := by
        have : vs.length = k := by have := HV.out.1; omega
        exact ⟨_, List.getElem?_eq_getElem (by omega)⟩
      have hco : w2.cell? ⟨gw, i, none⟩ = some u := (HV2.out.cellAt i (by omega)).trans hu
      have hfo := HV2.out.frozenAt i
      have HX2 := Lib.hid (HX.out.trans hx2)
      have H2 := Lib.hid h2
      have HXX2 := Lib.hid hx2
      have hz2 := Lib.hid hx2.size
      have hul := Lib.hid (show i < vs.length by have := HV.out.1; omega)
      clear h2 hx2 hu
      go_wp2_with fail
      have hgw2 := HGW.out
      have hgl2 := HGWL.out
      go_roundw
      case rel => exact ⟨i + 1, vs.set i (.slice A2 (X i).length c2), fun j => if j = i then A2 else Q j, fun j => if j = i then c2 else D j, by omega, by go_num, (HV2.out.stored i _).1, fun j hj => by
          by_cases e : j = i
          · subst e; simp [hul.out]
          · simp only [if_neg e]; rw [List.getElem?_set_ne (by omega)]; exact HVE.out j (by omega), fun j hj => by
          by_cases e : j = i
          · subst e; simp only; exact (H2.out.lower HS.out).setBelow (by simpa using hgl2) _
          · simp only [if_neg e]; exact ((HQ.out j (by omega)).ext HXX2.out).setBelow (by simpa using hgl2) _, HX2.out.setCell (by simp only; omega) _, by
          have h1 := HS.out
          have h2 := hz2.out
          show _ ≤ _
          simp
          omega⟩
      case measure => simp [intOf]; omega
    · obtain rfl : i = k := by omega
      clear hi hik HX1 HO1
      have HRA := Lib.hid (HR.out.ext HX.out)
      have HRB : Hid (Rows w1.heap.size i gw Q D X X wr) := ⟨fun j hj => (HV.out.cellAt j (by omega)).trans (HVE.out j hj), HQ.out⟩
      have H0A := Lib.hid (ExtS.start (k := i) (P := P) (H0.out.trans HX.out) HX.out)
      have HPB := Lib.hid (show ∀ j, j < i → ∀ a, P j = some a → w0.heap.size ≤ a.block ∧ a.block < w.heap.size from fun j hj a ha => by have := HR.out.row j hj; rw [ha] at this; exact this.block)
      have HQB := Lib.hid (show ∀ j, j < i → ∀ a, Q j = some a → w1.heap.size ≤ a.block from fun j hj a ha => by have := HQ.out j hj; rw [ha] at this; exact this.block.1)
      clear HV HVE HQ HX HS HR H0
      go_wp2_with fail
      go_loopw [5] (fun s w' => ∃ (m : Nat) (Z : Nat → List Int), m ≤ i ∧ s = .int .i64 m ∧ Hid (Rows w0.heap.size i gb P C X Z w') ∧ Hid (Rows w1.heap.size i gw Q D X X w') ∧ Hid (∀ j, j < m → (X j).length ≤ (Z j).length ∧ ∀ t, t < (X j).length → nth (Z j) t = nt (nth (X j) t)) ∧ Hid (∀ j, m ≤ j → j < i → Z j = X j) ∧ Hid (ExtS w0 w i P w')) (fun s _ => i - (intOf s).toNat)
      case atStart => exact ⟨0, X, by omega, rfl, HRA.out, HRB.out, fun j hj => by omega, fun _ _ _ => rfl, H0A.out⟩
      case round =>
        clear HRA HRB H0A
        obtain ⟨m, Z, hmi, rfl, HRA, HRB, HE, HF, HX⟩ := hrel
        by_cases hm : m < i
        · have hci := HRA.out.idx m hm
          have hcw := HRB.out.idx m hm
          have hzm := HF.out m (Nat.le_refl _) hm
          have hom := HRA.out.row m hm
          rw [hzm] at hom
          have HOM := Lib.hid hom
          have HSM := Lib.hid (fun q => ksame_any (P m) (Q m) (X m) (X m) (C m) (D m) (X m).length (wr.drewN q) (HOM.out.drewN q).rd ((HRB.out.row m hm).drewN q).rd rfl (X m).length rfl true (decide_eq_true rfl))
          clear hzm hom
          go_wp2_with fail
          go_quiet ((go_at_call 160; exact Calls.quiet_of (HSM.out _)))
          go_wp2_with fail
          refine (kover_any (P m) (X m) w0.heap.size (C m) (X m).length _ (HOM.out.drewN _) rfl (HXX.out m hm).2).mono ?_; rintro e w2 ⟨zs, rfl, h1, h2, h3, h4⟩
          have HRA2 := Lib.hid ((HRA.out.ext ((Ext.refl wr).drewN nq)).turn m zs h1 h4 HN.out hm (fun j hj hne => HAP.out j m hj hm hne))
          have hgw2 := HGW.out
          have hgl2 := HGWL.out
          have HRB2 := Lib.hid ((HRB.out.ext ((Ext.refl wr).drewN nq)).kept h4 (fun e => by
            cases hp : P m with
            | none => rw [hp] at e; cases e
            | some b => rw [hp] at e; injection e with e; have h5 := (HPB.out m hm b hp).2; simp only at e; omega) (fun j hj a ha e => by
            cases hp : P m with
            | none => rw [hp] at e; cases e
            | some b => rw [hp] at e; injection e with e; have h5 := (HPB.out m hm b hp).2; have h6 := HQB.out j hj a ha; simp only at e; omega))
          have HX2 := Lib.hid ((HX.out.drewN nq).grown hm h4 (fun k hk => by
            cases hp : P m with
            | none => rw [hp] at hk; cases hk
            | some b => rw [hp] at hk; injection hk with hk; have h5 := (HPB.out m hm b hp).1; simp only at hk; omega))
          have HE2 := Lib.hid (show ∀ j, j < m + 1 → (X j).length ≤ (if j = m then zs else Z j).length ∧ ∀ t, t < (X j).length → nth (if j = m then zs else Z j) t = nt (nth (X j) t) from fun j hj => by
            by_cases e : j = m
            · subst e; simp only [if_true]; exact ⟨h2, h3⟩
            · simp only [if_neg e]; exact HE.out j (by omega))
          have HF2 := Lib.hid (show ∀ j, m + 1 ≤ j → j < i → (if j = m then zs else Z j) = X j from fun j hj1 hj2 => by
            rw [if_neg (by omega)]; exact HF.out j (by omega) hj2)
          clear h1 h2 h3 h4 hgw2 hgl2
          go_wp2_with fail
          go_roundw
          case rel => exact ⟨m + 1, fun j => if j = m then zs else Z j, by omega, by go_num, HRA2.out, HRB2.out, HE2.out, HF2.out, HX2.out⟩
          case measure => simp [intOf]; omega
        · obtain rfl : m = i := by omega
          clear hm hmi HF
          go_wp2_with fail
          go_loopw [6] (fun s wt => ∃ (n : Nat), n ≤ m ∧ s = .int .i64 n ∧ Hid (Rows w0.heap.size m gb P C X Z wt) ∧ Hid (Rows w1.heap.size m gw Q D X X wt) ∧ Hid (ExtS w0 w m P wt)) (fun s _ => m - (intOf s).toNat)
          case atStart => exact ⟨0, by omega, rfl, HRA.out, HRB.out, HX.out⟩
          case round =>
            clear HRA HRB HX
            obtain ⟨n, hnm, rfl, HRA, HRB, HX⟩ := hrel
            by_cases hn : n < m
            · have hlen : ((X n).length : Int) ≤ 1000000 := by have := (HXX.out n hn).1; omega
              go_wp2_with fail
              go_loopw [7] (fun s wt => ∃ (t : Nat), t ≤ (X n).length ∧ s = .int .i64 t ∧ Hid (Rows w0.heap.size m gb P C X Z wt) ∧ Hid (Rows w1.heap.size m gw Q D X X wt) ∧ Hid (ExtS w0 w m P wt)) (fun s _ => (X n).length - (intOf s).toNat)
              case atStart => exact ⟨0, by omega, rfl, HRA.out, HRB.out, HX.out⟩
              case round =>
                clear HRA HRB HX
                obtain ⟨t, htn, rfl, HRA, HRB, HX⟩ := hrel
                have hci := HRA.out.idx n hn
                by_cases ht : t < (X n).length
                · have hcw := HRB.out.idx n hn
                  obtain ⟨a, hpa, hca⟩ := (HRA.out.row n hn).rd.at_ t (by have := (HE.out n hn).1; omega)
                  obtain ⟨b, hqb, hcb'⟩ := (HRB.out.row n hn).rd.at_ t ht
                  rw [(HE.out n hn).2 t ht] at hca
                  rw [hpa] at hci
                  rw [hqb] at hcw
                  have hbn : (nt (nth (X n) t) != bits .xor .u32 (if IntKind.u32.signed = true then -1 else IntKind.u32.max) (nth (X n) t)) = false := bne_eq_false_iff_eq.2 rfl
                  clear hpa hqb
                  go_wp2_with fail
                  go_quiet (fail)
                  go_wp2_with fail
                  go_roundw
                  case rel => exact ⟨t + 1, by omega, by go_num, HRA.out.ext ((Ext.refl _).drewN nq), HRB.out.ext ((Ext.refl _).drewN nq), HX.out.drewN nq⟩
                  case measure => simp [intOf]; omega
                · obtain rfl : t = (X n).length := by omega
                  go_wp2_with fail
                  go_roundw
                  case rel => exact ⟨n + 1, by omega, by go_num, HRA.out, HRB.out, HX.out⟩
                  case measure => simp [intOf]; omega
            · obtain rfl : n = m := by omega
              go_wp2_with fail
              go_ret
              exact ⟨rfl, HX.out⟩


set_option maxHeartbeats 1000000 in
theorem kapartR_s (w0 w : World) (gr o n c : Nat) (P : Nat → Option Addr) (C : Nat → Nat) (X : Nat → List Int) (h : Sides gr o n P C (fun j => (X j).length) w) (h0 : Ext w0 w) (hn : 0 < n) (hn2 : n ≤ 10000)
    (hrow : ∀ j, j < 2 * n → Own w w0.heap.size (P j) (C j) (X j))
    (hap : ∀ i j, i < 2 * n → j < 2 * n → i ≠ j → ∀ a b, P i = some a → P j = some b → a.block ≠ b.block) (hX : ∀ j, j < 2 * n → (X j).length ≤ 1000000 ∧ Wf (X j)) :
    Calls Tryz.prog 37 #[.slice (some ⟨gr, o, none⟩) n c] w fun e w' => e = .returned (.bool true) ∧ ExtS w0 w (2 * n) P w' := by
  have H := Lib.hid h
  have H0 := Lib.hid h0
  have HR := Lib.hid hrow
  have HAP := Lib.hid hap
  have HX := Lib.hid hX
  clear h h0 hrow hap hX
  obtain ⟨i0, hi, hz0, hz1, hz2⟩ := info_parts info_words
  have HI := Lib.hid hi
  have HI0 := Lib.hid hz0
  have HI1 := Lib.hid hz1
  have HI2 := Lib.hid hz2
  clear hi hz0 hz1 hz2
  go_enter Tryz.func37, Tryz.ntmps37
  go_wp2_with fail
  go_loopw [3, 4] (fun s t wr => ∃ (i : Nat) (v : Value) (vs : List Value), i ≤ n ∧ v = s ∧ t = .int .i64 i ∧ Hid (wr.ownsRow w.heap.size 22 1 v (2 * i) vs) ∧ Hid (∀ j, j < 2 * i → vs[j]? = some (.slice (P j) (X j).length (C j))) ∧ Hid (Ext w wr)) (fun _ t _ => n - (intOf t).toNat)
  case atStart => exact ⟨0, .slice none 0 0, [], by omega, rfl, rfl, World.ownsRow_nil w _ _ 1, fun j hj => by omega, Ext.refl w⟩
  case round =>
    obtain ⟨i, v, vs, hi, rfl, rfl, HV, HE, HW⟩ := hrel
    by_cases hin : i < n
    · have h1 := (H.out.ext HW.out).num i hin
      have h2 := (H.out.ext HW.out).den i hin
      have HVX := Lib.hid (fun wx (hx : Ext wr wx) => ownsRow_ext HV.out hx)
      have HGE := Lib.hid (ownsRow_ge HV.out)
      have HGR := Lib.hid (World.block_lt_of_cell? w _ (H.out.num i hin))
      have HWS := Lib.hid HW.out.size
      have hnn := Lib.hid (show ∀ r : Option Nat, (∀ b, r = some b → w.heap.size ≤ b) → some gr ≠ r from fun r hr e => by have h3 := hr gr e.symm; have h4 := HGR.out; simp only at h4; omega)
      go_wp2_with fail
      go_region_held_law (fun w' => w'.cell? ⟨gr, o + i * 3 + 1, none⟩ = some (.slice (P (2 * i)) (X (2 * i)).length (C (2 * i))) ∧ w'.cell? ⟨gr, o + i * 3 + 2, none⟩ = some (.slice (P (2 * i + 1)) (X (2 * i + 1)).length (C (2 * i + 1)))) (first | go_keep | exact ⟨k1, k2⟩)
        (first | (refine step_append_lies _ rfl _ _ 148 rfl w.heap.size 22 i0 (.slice none 0 0) 1 24 Tryz.underlying148 HI.out HI0.out HI1.out HI2.out rfl (by decide) v (2 * i) vs rfl (HVX.out _ ((Ext.refl wr).alloc _).drew) _ 2 _ [.slice (P (2 * i)) (X (2 * i)).length (C (2 * i)), .slice (P (2 * i + 1)) (X (2 * i + 1)).length (C (2 * i + 1))] rfl rfl (two_cells wr _ _ _) (by intro u hu; simp at hu; rcases hu with rfl | rfl <;> rfl) (by decide) (by unfold maxLen; omega) (by omega) (by have := HWS.out; simp; omega) _ rfl ?_; intro g cap w2 hown hgrow hat hlt; have k1 : w2.cell? ⟨gr, o + i * 3 + 1, none⟩ = some (.slice (P (2 * i)) (X (2 * i)).length (C (2 * i))) := cell_kept' hgrow (((Ext.refl wr).alloc _).drew.cell h1) (hnn.out _ HGE.out); have k2 : w2.cell? ⟨gr, o + i * 3 + 2, none⟩ = some (.slice (P (2 * i + 1)) (X (2 * i + 1)).length (C (2 * i + 1))) := cell_kept' hgrow (((Ext.refl wr).alloc _).drew.cell h2) (hnn.out _ HGE.out)))
      all_goals
        have HO2 := Lib.hid (show w2.ownsRow w.heap.size 22 1 (.slice (some ⟨g, 0, none⟩) (2 * i + 2) cap) (2 * (i + 1)) _ from hown)
        have HX2 := Lib.hid ((HW.out.alloc _).drew.grown hgrow HGE.out)
        have hvl := Lib.hid (show vs.length = 2 * i by have := HV.out.1; omega)
        have HE2 := Lib.hid (show ∀ j, j < 2 * (i + 1) → (vs ++ [.slice (P (2 * i)) (X (2 * i)).length (C (2 * i)), .slice (P (2 * i + 1)) (X (2 * i + 1)).length (C (2 * i + 1))] : List Value)[j]? = some (.slice (P j) (X j).length (C j)) from fun j hj => by
          have hl := hvl.out
          by_cases e : j < 2 * i
          · rw [List.getElem?_append_left (by omega)]; exact HE.out j e
          · rw [List.getElem?_append_right (by omega), hl]
            by_cases e1 : j = 2 * i
            · subst e1; simp
            · obtain rfl : j = 2 * i + 1 := by omega
              rw [show 2 * i + 1 - 2 * i = 1 by omega]; rfl)
        clear hown hgrow hat hlt k1 k2
        go_wp2_with fail
        go_roundw
        case rel => exact ⟨i + 1, .slice (some ⟨g, 0, none⟩) (2 * i + 2) cap, _, by omega, rfl, by go_num, HO2.out, HE2.out, HX2.out⟩
        case measure => simp [intOf]; omega
    · obtain rfl : i = n := by omega
      have hvc : ∃ g cap, v = .slice (some ⟨g, 0, none⟩) (2 * i) cap ∧ w.heap.size ≤ g ∧ g < wr.heap.size ∧ 2 * i ≤ cap ∧ cap ≤ 9223372036854775807 := by
        rcases HV.out.2 with ⟨_, h2⟩ | ⟨g, cap, cur, h1, h2, h3, h4, h5, _⟩
        · omega
        · exact ⟨g, cap, h1, h2, (Array.getElem?_eq_some_iff.1 h3).1, h4, by simp only [maxLen] at h5; omega⟩
      obtain ⟨g, cap, rfl, hg1, hg2, hg3, hg4⟩ := hvc
      have HRW : Hid (Rows w0.heap.size (2 * i) g P C X X wr) := ⟨fun j hj => (HV.out.cellAt j (by omega)).trans (HE.out j hj), fun j hj => (HR.out j hj).ext HW.out⟩
      have HNE : Hid (∀ j, j < 2 * i → ∀ a, P j = some a → a.block ≠ g) := fun j hj a ha e => by
        have h1 := HR.out j hj
        rw [ha] at h1
        have := h1.block.2
        omega
      have HCA := Lib.hid (kapartW_s w0 wr (2 * i) g cap P C X HRW.out (H0.out.trans HW.out) (by omega) hg3 hg4 hg2 HNE.out HAP.out HX.out)
      clear HV HE
      go_wp2_with fail
      refine HCA.out.mono ?_; rintro e w3 ⟨rfl, hx⟩
      have HX3 := Lib.hid hx
      clear hx
      go_wp2_with fail
      go_ret
      exact ⟨rfl, HX3.out.up HW.out⟩

/-- a region's condition: the blocks of W that O tells of are as they were -/
abbrev Sko (O : Nat → Bool) (W w : World) : Prop := (∀ b o, b < W.heap.size → O b = true → w.cell? ⟨b, o, none⟩ = W.cell? ⟨b, o, none⟩) ∧ W.heap.size ≤ w.heap.size
theorem Sko.of {O : Nat → Bool} {W w : World} (h : Skz W w) : Sko O W w := ⟨fun b o hb _ => h.1 b o hb, h.2⟩
theorem Sko.apart {O : Nat → Bool} {W w w' : World} {L : List (Adr × Fr)} (h : Sko O W w) (hO : ∀ b, O b = true → ∀ (i : Nat) (p : Adr) (f : Fr), L[i]? = some (p, f) → p.Off b) (hz : w.heap.size ≤ w'.heap.size) (k : ∀ b o, b < w.heap.size → (∀ (i : Nat) (p : Adr) (f : Fr), L[i]? = some (p, f) → p.Off b) → w'.cell? ⟨b, o, none⟩ = w.cell? ⟨b, o, none⟩) : Sko O W w' :=
  ⟨fun b o hb ho => (k b o (Nat.lt_of_lt_of_le hb h.2) (hO b ho)).trans (h.1 b o hb ho), Nat.le_trans h.2 hz⟩
theorem Sta.off {wb w0 w : World} {row : Option Nat} {V : List (Nat × List Value)} {R : List (Adr × Fr)} (S : Sta wb w0 row V R w) {I : List Nat} (hI : ∀ i ∈ I, i < R.length) (k : Nat) {g : Nat} {vs : List Value} (hk : V[k]? = some (g, vs)) (i : Nat) (p : Adr) (f : Fr) (h1 : (pick R I)[i]? = some (p, f)) : p.Off g := by
  obtain ⟨a, _, h3⟩ := pick_at I i _ hI h1
  exact S.ro a p f k g vs h3 hk
theorem cellsAt_row {w : World} {base : Nat} {e : TypeId} {n g cap : Nat} {L : List (Adr × Fr)} (h : w.ownsRow base e 3 (.slice (some ⟨g, 0, none⟩) n cap) n (cellsF L)) : CellsAt g L w := fun j u hu => by
  have hj : j < (cellsF L).length := (List.getElem?_eq_some_iff.1 hu).1
  exact (h.cellAt j (by have := h.1; omega)).trans hu
theorem CellsAt.drew {g : Nat} {L : List (Adr × Fr)} {w : World} (h : CellsAt g L w) : CellsAt g L w.drew := h
theorem CellsAt.alloc {g : Nat} {L : List (Adr × Fr)} {w : World} (h : CellsAt g L w) (o : Obj) : CellsAt g L (w.alloc o) := h.ext ((Ext.refl w).alloc o)

end Go.Proofs.YtifonmdcicegdaaGreat

namespace Go.Proofs.YtifonmdcicegdaaGreat
open Go Go.RowKit

set_option maxRecDepth 8000 in
set_option maxHeartbeats 4000000 in
theorem kParts (L : List (Adr × Fr)) (n g c : Nat) (w : World) (hL : L.length = 2 * n) (hc : CellsAt g L w) (hg : g < w.heap.size) (hn : n ≤ 10000) :
    Calls Tryz.prog 57 #[.slice (some ⟨g, 0, none⟩) n c] w fun e w' => ∃ v, e = .returned v ∧ w'.ownsRow w.heap.size 24 3 v (2 * n) (cellsF L) ∧ Below w.heap.size w w' := by
  have HC := Lib.hid hc
  have HL := Lib.hid hL
  clear hc hL
  go_enter Tryz.func57, Tryz.ntmps57
  go_wp2_with fail
  go_loopw [3, 4] (fun s t wr => ∃ (i : Nat) (v : Value), i ≤ n ∧ v = s ∧ t = .int .i64 i ∧ Hid (wr.ownsRow w.heap.size 24 3 v (2 * i) (cellsF (L.take (2 * i)))) ∧ Hid (Below w.heap.size w wr)) (fun _ t _ => n - (intOf t).toNat)
  case atStart => exact ⟨0, .slice none 0 0, by omega, rfl, rfl, World.ownsRow_nil w _ _ 3, Below.refl _ _⟩
  case round =>
    obtain ⟨i, v, hi, rfl, rfl, HV, HW⟩ := hrel
    by_cases hin : i < n
    · obtain ⟨p, f, e1⟩ : ∃ p f, L[2 * i]? = some (p, f) := ⟨_, _, List.getElem?_eq_getElem (by have := HL.out; omega)⟩
      obtain ⟨q, h, e2⟩ : ∃ q h, L[2 * i + 1]? = some (q, h) := ⟨_, _, List.getElem?_eq_getElem (by have := HL.out; omega)⟩
      obtain ⟨b0, b1, b2⟩ := cellsF_at L _ _ _ e1
      obtain ⟨b3, b4, b5⟩ := cellsF_at L _ _ _ e2
      have c0 := Ext.cell HW.out (HC.out _ _ b0)
      have c1 := Ext.cell HW.out (HC.out _ _ b1)
      have c2 := Ext.cell HW.out (HC.out _ _ b2)
      have c3 := Ext.cell HW.out (HC.out _ _ b3)
      have c4 := Ext.cell HW.out (HC.out _ _ b4)
      have c5 := Ext.cell HW.out (HC.out _ _ b5)
      rw [show 2 * i * 3 = i * 6 by omega] at c0 c1 c2
      rw [show (2 * i + 1) * 3 = i * 6 + 3 by omega] at c3 c4 c5
      have HT := Lib.hid (show L.take (2 * i) ++ [(p, f), (q, h)] = L.take (2 * (i + 1)) by
        rw [show 2 * (i + 1) = 2 * i + 1 + 1 by omega, List.take_add_one, List.take_add_one, e1, e2]; simp)
      have HVX := Lib.hid (fun wx (hx : Ext wr wx) => ownsRow_ext HV.out hx)
      have HGE := Lib.hid (ownsRow_ge HV.out)
      have hws := Ext.size HW.out
      have hgr : g < wr.heap.size := by omega
      clear e1 e2 b0 b1 b2 b3 b4 b5
      go_wp2_with fail
      go_region_held3 (fun w' => ∀ o, w'.cell? ⟨g, o, none⟩ = wr.cell? ⟨g, o, none⟩) (first | (with_reducible exact K1) | (intro o; first | rfl | (exact World.cell?_alloc_lt _ _ _ (by simp; omega))))
        ((refine step_appF rfl _ _ rfl w.heap.size v (2 * i) (L.take (2 * i)) [(p, f), (q, h)] rfl (HVX.out _ (by first | exact ((Ext.refl wr).alloc _).drew | exact (Ext.refl wr).drew.alloc _)) _ 2 _ rfl rfl (news_of _ [(p, f), (q, h)] _) (by decide) (by decide) (by omega) (by simp; omega) ?_; intro g2 cap w2 hown hgrow hat hlt; have K1 : ∀ o, w2.cell? ⟨g, o, none⟩ = wr.cell? ⟨g, o, none⟩ := fun o => (World.cell?_of_block (a := ⟨g, o, none⟩) (hgrow.block g (by simp; omega) (fun e => by have := HGE.out g e.symm; omega))).trans (by first | rfl | exact World.cell?_alloc_lt _ _ _ (by simp; omega))))
      all_goals
        have HO := Lib.hid (HT.out ▸ hown)
        have HX := Lib.hid (show Below w.heap.size w w2 by first | exact Ext.grown (Ext.drew (Ext.alloc HW.out _)) hgrow HGE.out | exact Ext.grown (Ext.alloc (Ext.drew HW.out) _) hgrow HGE.out)
        clear hown hgrow hat hlt K1 c0 c1 c2 c3 c4 c5
        go_wp2_with fail
        go_roundw
        case rel => exact ⟨i + 1, .slice (some ⟨g2, 0, none⟩) (2 * i + 2) cap, by omega, rfl, by go_num, HO.out, HX.out⟩
        case measure => simp [intOf]; omega
    · obtain rfl : i = n := by omega
      go_wp2_with fail
      go_ret
      exact ⟨v, rfl, by have h1 := HV.out; rw [List.take_of_length_le (by rw [HL.out]; exact Nat.le_refl _)] at h1; exact h1, HW.out⟩

end Go.Proofs.YtifonmdcicegdaaGreat

