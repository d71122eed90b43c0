/- Texts of this claim, joined: O1. -/
import Derived.ProofKit
import Derived.OpenShut
import Derived.ChangeOld
import Derived.Below
import Derived.Lib.SmallJoins
import Derived.Deep.Slices
import Derived.Deep.Fields
import Derived.ChangeSame
import Derived.Test.YtifonmdcicegdaaGreatQm
/- Arguments that come in: words, fractions, lists of fractions. -/
namespace Go.Proofs.YtifonmdcicegdaaGreat
open Go.ChangeShapes Go.WideShapes Go.ChangeAt Go.RowKit Go.Joins Go.Deep
set_option linter.unusedVariables false

section
variable {H : Type} {enc : TypeId × Value → H} {P : Program} {w : World} {base : Nat} {spare : Nat → Bool} {held : Bool}
theorem open_slice_fields {t e : TypeId} {fs : Array Field} {fuel : Nat} {cs : List Value} {x : DataW H × List MemPlace} (ht : P.underlying t = some (.slice e)) (he : P.underlying e = some (.struct fs))
    (hone : oneCellFields P fs = true) (hC : P.cellsOf e = fs.size) (h : DataW.trod enc P w base spare held fuel t cs = some x) :
    (cs = [.slice none 0 0] ∧ x = (.nil, [])) ∨
    ∃ (a : Addr) (len cap m : Nat) (D : Nat → DataW H) (Pl : Nat → List MemPlace), cs = [.slice (some a) len cap] ∧ base ≤ a.block ∧ len ≤ cap ∧ cap ≤ maxLen ∧ m = (if spare a.block then cap else len) ∧
      x = (.slice ((List.range len).map D) ((List.range (m - len)).map fun j => D (len + j)), MemPlace.row a (m * fs.size) ++ (List.range m).flatMap Pl) ∧
      ∀ i, i < m → ∃ (ys : List (DataW H × List MemPlace)) (n : Nat), D i = .agg (ys.map (·.1)) ∧ Pl i = ys.flatMap (·.2) ∧ ys.length = fs.size ∧
        ∀ (j : Nat) (f : Field), fs[j]? = some f → ∃ (v : Value) (y : DataW H × List MemPlace), w.cell? (a.add (i * fs.size + j)) = some v ∧ ys[j]? = some y ∧ DataW.trod enc P w base spare held n f.type [v] = some y := by
  rcases open_slice ht h with h0 | ⟨a, len, cap, m, n, D, Pl, hcs, hb, hl, hm, hmm, hx, hi⟩
  · exact .inl h0
  · refine .inr ⟨a, len, cap, m, D, Pl, hcs, hb, hl, hm, hmm, by rw [hC] at hx; exact hx, fun i him => ?_⟩
    obtain ⟨cs', hc, ht'⟩ := hi i him
    rw [hC] at hc
    obtain ⟨ys, n', hn', hy, hlen, hyl, hf⟩ := DataW.trod_struct he ht'
    obtain ⟨_, hcl, hat⟩ := World.cells?_some hc
    simp only [Prod.mk.injEq] at hy
    refine ⟨ys, n', hy.1, hy.2, hyl, fun j f hj => ?_⟩
    obtain ⟨ho, hk⟩ := hone_of hone j f hj
    have hjl : j < fs.size := (Array.getElem?_eq_some_iff.1 hj).1
    have hcell := hat j hjl
    have hv : cs'[j]? = some (cs'[j]'(by omega)) := List.getElem?_eq_getElem (by omega)
    have h1 := hf j f hj
    rw [ho, hk] at h1
    have hone' : (cs'.drop j).take 1 = [cs'[j]'(by omega)] := by
      rw [List.drop_eq_getElem_cons (by omega)]
      rfl
    rw [hone'] at h1
    have hys : ys[j]? = some (ys[j]'(by omega)) := List.getElem?_eq_getElem (by omega)
    refine ⟨_, _, ?_, hys, h1.trans hys⟩
    rw [← Go.Deep.add_add, hcell, hv]
end

theorem mk_own : ownKnob Tryz.prog.godebug = none := by kernel_rfl
theorem mk_laidOut : laidOutB Tryz.prog = true := by kernel_rfl

/-- a slice of words that came in -/
theorem rd_in {H : Type} {enc : TypeId × Value → H} {W : World} {c : Value} {fuel : Nat} {y : DataW H × List MemPlace} (hf : DataW.trod enc Tryz.prog W 0 (fun _ => true) true fuel 22 [c] = some y) :
    ∃ (A : Option Addr) (l cap : Nat) (xs : List Int), c = .slice A l cap ∧ xs.length = l ∧ Rd W A cap xs ∧ Wf xs := by
  rcases open_ints Tryz.underlying22 Tryz.underlying144 (by kernel_rfl) hf with ⟨hcs, _⟩ | ⟨x, l, cap, zs, hcs, _, hl, hm, hz, _, hcell, hwz⟩
  · simp at hcs
    subst hcs
    exact ⟨none, 0, 0, [], rfl, rfl, Rd.nil W, wf_nil⟩
  · simp at hcs
    subst hcs
    simp at hz
    simp only [maxLen] at hm
    have hlen : (zs.take l).length = l := by rw [List.length_take]; omega
    refine ⟨some x, l, cap, zs.take l, rfl, hlen, ⟨by omega, by omega, (fun e => by cases e), fun j hj => ⟨x, rfl, ?_⟩⟩, ?_⟩
    · rw [hlen] at hj
      rw [nth_take _ _ _ hj]
      exact hcell j (by omega)
    · intro n hn
      have := bounds_u32 (hwz n (List.mem_of_mem_take hn))
      omega

/-- a slice of fractions that came in -/
theorem frs_in {H : Type} {enc : TypeId × Value → H} {W : World} {c : Value} {fuel : Nat} {y : DataW H × List MemPlace} (hf : DataW.trod enc Tryz.prog W 0 (fun _ => true) true fuel 26 [c] = some y) :
    ∃ (A : Option Addr) (l cap : Nat) (P : Nat → Option Addr) (C : Nat → Nat) (L : Nat → Fr), c = .slice A l cap ∧ FsA A l P C L W ∧ (∀ j, j < l → (L j).Wf) ∧ l ≤ 9223372036854775807 := by
  rcases open_slice_fields Tryz.underlying26 Tryz.underlying24 (by kernel_rfl) (by kernel_rfl) hf with ⟨hcs, _⟩ | ⟨x, l, cap, m, D, Pl, hcs, _, hl, hm, hmm, _, hi⟩
  · simp at hcs
    subst hcs
    exact ⟨none, 0, 0, fun _ => none, fun _ => 0, fun _ => Fr.zero, rfl, ⟨fun j hj => by omega, fun gr o e => by cases e⟩, fun j hj => by omega, by omega⟩
  · simp at hcs
    subst hcs
    simp only [if_true] at hmm
    subst hmm
    simp only [maxLen] at hm
    have each : ∀ j, j < l → ∃ z : Fr × (Option Addr × Nat) × (Option Addr × Nat), W.cell? (x.add (j * 3 + 0)) = some (.bool z.1.neg) ∧ W.cell? (x.add (j * 3 + 1)) = some (.slice z.2.1.1 z.1.num.length z.2.1.2) ∧ W.cell? (x.add (j * 3 + 2)) = some (.slice z.2.2.1 z.1.den.length z.2.2.2) ∧ Rd W z.2.1.1 z.2.1.2 z.1.num ∧ Rd W z.2.2.1 z.2.2.2 z.1.den ∧ z.1.Wf := by
      intro j hj
      obtain ⟨ys, n, _, _, _, hfld⟩ := hi j (by omega)
      obtain ⟨v0, y0, hc0, _, t0⟩ := hfld 0 _ rfl
      obtain ⟨v1, y1, hc1, _, t1⟩ := hfld 1 _ rfl
      obtain ⟨v2, y2, hc2, _, t2⟩ := hfld 2 _ rfl
      obtain ⟨s0, hs0, _⟩ := DataW.trod_bool Tryz.underlying4 t0
      obtain ⟨A0, l0, cap0, xs, e1, hl0, hR0, hw0⟩ := rd_in t1
      obtain ⟨A1, l1, cap1, ys', e2, hl1, hR1, hw1⟩ := rd_in t2
      simp at hs0
      subst hs0 e1 e2 hl0 hl1
      exact ⟨(⟨s0, xs, ys'⟩, (A0, cap0), (A1, cap1)), hc0, hc1, hc2, hR0, hR1, ⟨hw0, hw1⟩⟩
    haveI : Inhabited Fr := ⟨Fr.zero⟩
    obtain ⟨z, hz⟩ := choose_lt each
    have hsp : ∀ j, j < l → ∃ gr o, some x = some (⟨gr, o, none⟩ : Addr) := by
      intro j hj
      obtain ⟨h0, _⟩ := hz 0 (by omega)
      have e : x.add (0 * 3 + 0) = x := rfl
      rw [e] at h0
      obtain ⟨g, o, s⟩ := x
      cases s with
      | none => exact ⟨g, o, rfl⟩
      | some s =>
        exfalso
        unfold World.cell? at h0
        split at h0 <;> simp at h0
    refine ⟨some x, l, m, fun j => if j % 2 = 0 then (z (j / 2)).2.1.1 else (z (j / 2)).2.2.1, fun j => if j % 2 = 0 then (z (j / 2)).2.1.2 else (z (j / 2)).2.2.2, fun j => (z j).1, rfl, ⟨hsp, fun gr o e => ?_⟩, fun j hj => (hz j hj).2.2.2.2.2, by omega⟩
    cases e
    have e1 : ∀ j, (2 * j) % 2 = 0 := fun j => by omega
    have e2 : ∀ j, ¬ (2 * j + 1) % 2 = 0 := fun j => by omega
    have e3 : ∀ j, 2 * j / 2 = j := fun j => by omega
    have e4 : ∀ j, (2 * j + 1) / 2 = j := fun j => by omega
    refine ⟨fun j hj => ?_, fun j hj => ?_, fun j hj => ?_, fun j hj => ?_, fun j hj => ?_⟩
    · have := (hz j hj).1; rw [add_plain] at this; exact this
    · have := (hz j hj).2.1; rw [add_plain] at this; simp only [e1, e3, if_true]; exact this
    · have := (hz j hj).2.2.1; rw [add_plain] at this; simp only [e2, e4, if_false]; exact this
    · have := (hz j hj).2.2.2.1; simp only [e1, e3, if_true]; exact this
    · have := (hz j hj).2.2.2.2.1; simp only [e2, e4, if_false]; exact this

set_option maxRecDepth 100000 in
/-- a fraction that came in by value -/
theorem fr_in {H : Type} {enc : TypeId × Value → H} {W : World} {b0 : Nat} {v : Value} {d : DataW H} {p : List MemPlace} (hv : Value.okWide Tryz.prog W .any b0 24 v) (h : DataW.Trod enc Tryz.prog W 0 (fun _ => true) true 24 v d p) :
    ∃ (f : Fr) (A : Option Addr) (c : Nat) (B : Option Addr) (e : Nat), v = .agg #[.bool f.neg, .slice A f.num.length c, .slice B f.den.length e] ∧ Rd W A c f.num ∧ Rd W B e f.den ∧ f.Wf := by
  obtain ⟨b0, c0, c1, y0, z0, z1, m0, hv0, _, _, e0, g0, g1⟩ := open_agg3 Tryz.underlying24 (by kernel_rfl) (by kernel_rfl) hv h
  obtain ⟨s0, hs0, _⟩ := DataW.trod_bool Tryz.underlying4 e0
  obtain ⟨A0, l0, cap0, xs, hc0, hl0, hR0, hw0⟩ := rd_in g0
  obtain ⟨A1, l1, cap1, ys, hc1, hl1, hR1, hw1⟩ := rd_in g1
  simp at hs0
  subst hs0 hc0 hc1 hv0 hl0 hl1
  exact ⟨⟨s0, xs, ys⟩, A0, cap0, A1, cap1, rfl, hR0, hR1, ⟨hw0, hw1⟩⟩

end Go.Proofs.YtifonmdcicegdaaGreat

