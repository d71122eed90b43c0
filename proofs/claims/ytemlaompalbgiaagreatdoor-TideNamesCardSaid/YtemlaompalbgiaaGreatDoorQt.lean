/- Texts of this claim, joined: O3 O5 L24a L24j. -/
import Derived.ChangeMaps5
import Derived.Lib.LaidTab
import Derived.LaidSub
import Derived.Stop.LaidErr
import Derived.MakeChecks
import Derived.KernelRfl
import Derived.Test.YtemlaompalbgiaaGreatDoorRows
import Derived.ProofKit
import Derived.OpenShut
import Derived.ChangeOld
import Derived.Below
import Derived.Lib.SmallJoins
import Derived.LaidHandle
import Derived.LaidLaws
import Derived.JoinedOf
import Derived.Test.YtemlaompalbgiaaGreatDoorQs
set_option linter.unusedVariables false
set_option linter.unusedSimpArgs false
set_option maxRecDepth 100000
namespace Go.Proofs.YtemlaompalbgiaaGreatDoor
open Go Go.RowKit Go.ChangeShapes Go.WideShapes Go.ChangeAt Go.Joins Go.Deep
def Ty.inn : Ty → Bool
  | .bo => true
  | .it _ => true
  | .st => true
  | .sl t => t.inn && !Nat.beq t.size 0
  | .pr a b => a.inn && b.inn
  | .un => true
  | _ => false
abbrev Zw (W : World) : Nat → Prop := fun g => g < W.heap.size
theorem lit_wf {k : IntKind} {n : Int} (h : (Lit.int k n).wf = true) : k.min ≤ n ∧ n ≤ k.max := by simpa [Lit.wf] using h
theorem inn_struct {P : Program} {tb : Tbl} {t e : Nat} {a b : Ty} (h : TyOk P tb t (.pr a b) e) : ∃ fs, P.underlying t = some (.struct fs) ∧ fsB tb (.pr a b) 0 fs.toList = true := by
  obtain ⟨d, h1, h2⟩ := h.und
  unfold dscB at h2
  split at h2 <;> first
    | (cases h2; done)
    | (rename_i e2; cases e2; done)
    | skip
  all_goals
    rename_i e2
    cases e2
    exact ⟨_, h1, h2⟩
theorem inn_slice {P : Program} {tb : Tbl} {t e : Nat} {u : Ty} (h : TyOk P tb t (.sl u) e) : P.underlying t = some (.slice e) ∧ ∃ e', look tb e = some (u, e') := by
  obtain ⟨d, h1, h2⟩ := h.und
  unfold dscB at h2
  split at h2 <;> first
    | (cases h2; done)
    | (rename_i e2; cases e2; done)
    | skip
  all_goals
    rename_i e2
    cases e2
    simp only [Bool.and_eq_true] at h2
    rw [Nat.eq_of_beq_eq_true h2.1] at h1
    exact ⟨h1, isT_look h2.2⟩
theorem size_of_ {P : Program} {tb : Tbl} {t e : Nat} {y : Ty} (h : TyOk P tb t y e) : P.cellsOf t = y.size := by
  obtain ⟨i, z, h1, h2, _⟩ := h.info
  simp [Program.cellsOf, h1, h2]
theorem rt_in {H : Type} {enc : TypeId × Value → H} {P : Program} {W : World} {tb : Tbl} (hT : tyB P tb tb = true) : ∀ (y : Ty), y.inn = true →
    (∀ {t e fuel : Nat} {cs : List Value} {x : DataW H × List MemPlace}, look tb t = some (y, e) → DataW.trod enc P W 0 (fun _ => true) true fuel t cs = some x → ∃ v : El y, RT (Zw W) W y v cs) ∧
    (∀ {o : Nat} {fs : List Field} {cs : List Value}, fsB tb y o fs = true → (∀ (i : Nat) (f : Field), fs[i]? = some f → ∃ (n : Nat) (x : DataW H × List MemPlace), DataW.trod enc P W 0 (fun _ => true) true n f.type ((cs.drop f.offset).take (P.cellsOf f.type)) = some x) → cs.length = o + y.size → ∃ v : El y, RT (Zw W) W y v (cs.drop o))
  | .bo, _ => by
    refine ⟨fun {t e fuel cs x} hl h => ?_, fun {o fs cs} h _ _ => by simp [fsB] at h⟩
    obtain ⟨d, h1, h2⟩ := (tyB_sound hT hl).und
    have : d = .bool := by cases d <;> simp [dscB] at h2; rfl
    subst this
    obtain ⟨b, rfl, _⟩ := DataW.trod_bool h1 h
    exact ⟨b, by rw [RT]⟩
  | .it k, _ => by
    refine ⟨fun {t e fuel cs x} hl h => ?_, fun {o fs cs} h _ _ => by simp [fsB] at h⟩
    obtain ⟨d, h1, h2⟩ := (tyB_sound hT hl).und
    have : d = .int k := by cases d <;> simp [dscB] at h2; rw [h2]
    subst this
    obtain ⟨n, rfl, _, hw⟩ := DataW.trod_int h1 h
    exact ⟨n, by rw [RT]; exact ⟨rfl, lit_wf hw⟩⟩
  | .st, _ => by
    refine ⟨fun {t e fuel cs x} hl h => ?_, fun {o fs cs} h _ _ => by simp [fsB] at h⟩
    obtain ⟨d, h1, h2⟩ := (tyB_sound hT hl).und
    have : d = .string := by cases d <;> simp [dscB] at h2; rfl
    subst this
    obtain ⟨s, rfl, _, hs⟩ := DataW.trod_string h1 h
    exact ⟨s, by rw [RT]; exact ⟨rfl, by simp only [maxLen] at hs; omega⟩⟩
  | .un, _ => by
    refine ⟨fun {t e fuel cs x} hl h => ?_, fun {o fs cs} _ _ hl => ⟨(), by rw [RT]; exact List.drop_of_length_le (by rw [hl]; exact Nat.le_refl _)⟩⟩
    obtain ⟨d, h1, h2⟩ := (tyB_sound hT hl).und
    cases d with
    | struct fs =>
      obtain ⟨xs, n, _, _, hl', _⟩ := DataW.trod_struct h1 h
      rw [size_of_ (tyB_sound hT hl)] at hl'
      exact ⟨(), by rw [RT]; exact List.eq_nil_of_length_eq_zero hl'⟩
    | _ => simp [dscB] at h2
  | .sl u, hy => by
    refine ⟨fun {t e fuel cs x} hl h => ?_, fun {o fs cs} h _ _ => by simp [fsB] at h⟩
    simp only [Ty.inn, Bool.and_eq_true, Bool.not_eq_true'] at hy
    have hu : u.size ≠ 0 := fun e0 => by rw [e0] at hy; exact absurd hy.2 (by decide)
    obtain ⟨h1, e', h2⟩ := inn_slice (tyB_sound hT hl)
    have hs := size_of_ (tyB_sound hT h2)
    rcases open_slice h1 h with ⟨rfl, _⟩ | ⟨a, len, cap, m, n, D, Pl, rfl, _, hl2, hm, rfl, _, hi⟩
    · exact ⟨[], RT.sl_nil _ _ _⟩
    · have hi : ∀ i, i < m → ∃ cs', W.cells? 0 (a.add (i * P.cellsOf e)) (P.cellsOf e) = some cs' ∧ DataW.trod enc P W 0 (fun _ => true) true n e cs' = some (D i, Pl i) := fun i hic => hi i hic
      simp only [maxLen] at hm
      have each : ∀ j, j < len → ∃ v : El u, ∃ us, RT (Zw W) W u v us ∧ us.length = u.size ∧ ∀ (i : Nat) (z : Value), us[i]? = some z → W.cell? ((a.add (j * u.size)).add i) = some z := fun j hj => by
        obtain ⟨us, k1, k2⟩ := hi j (by omega)
        obtain ⟨_, k3, k4⟩ := World.cells?_some k1
        obtain ⟨v, hv⟩ := (rt_in hT u hy.1).1 h2 k2
        rw [hs] at k3 k4
        refine ⟨v, us, hv, k3, fun i z hz => ?_⟩
        rw [k4 i (by rw [← k3]; exact (List.getElem?_eq_some_iff.1 hz).1)]
        exact hz
      haveI : Inhabited (El u) := ⟨dfl u⟩
      obtain ⟨f, hf⟩ := choose_lt each
      have hlen : ((List.range len).map f).length = len := by simp
      refine ⟨(List.range len).map f, ?_⟩
      rw [RT]
      refine ⟨some a, m, by rw [hlen], by rw [hlen]; exact hl2, by omega, (fun e => by cases e), fun j hj => ?_⟩
      rw [hlen] at hj
      obtain ⟨us, k1, k2, k3⟩ := hf j hj
      have e1 : ((List.range len).map f)[j]'(by rw [hlen]; exact hj) = f j := by simp
      rw [e1]
      have hpos : 0 < us.length := by omega
      obtain ⟨us0, _, l2, l3⟩ := hf 0 (by omega)
      have d0 := l3 0 _ (List.getElem?_eq_getElem (show 0 < us0.length by omega))
      have c0 := k3 0 _ (List.getElem?_eq_getElem hpos)
      obtain ⟨g, o, s⟩ := a
      cases s with
      | some s =>
        exfalso
        have e3 : ((⟨g, o, some s⟩ : Addr).add (0 * u.size)).add 0 = ⟨g, o, some s⟩ := by rw [Nat.zero_mul]; rfl
        rw [e3] at d0
        unfold World.cell? at d0
        split at d0 <;> simp at d0
      | none =>
        have e2 : ∀ i, ((⟨g, o, none⟩ : Addr).add (j * u.size)).add i = ⟨g, o + (j * u.size + i), none⟩ := fun i => by rw [add_plain, add_plain, Nat.add_assoc]
        refine ⟨g, o, us, rfl, ?_, k1, fun i z hz => ?_⟩
        · rw [e2] at c0
          exact World.block_lt_of_cell? W _ c0
        · have := k3 i z hz
          rw [e2] at this
          exact this
  | .pr a b, hy => by
    simp only [Ty.inn, Bool.and_eq_true] at hy
    have key : ∀ {o : Nat} {fs : List Field} {cs : List Value}, fsB tb (.pr a b) o fs = true → (∀ (i : Nat) (f : Field), fs[i]? = some f → ∃ (n : Nat) (x : DataW H × List MemPlace), DataW.trod enc P W 0 (fun _ => true) true n f.type ((cs.drop f.offset).take (P.cellsOf f.type)) = some x) → cs.length = o + (Ty.pr a b).size → ∃ v : El (.pr a b), RT (Zw W) W (.pr a b) v (cs.drop o) := fun {o fs cs} h hf hl => by
      cases fs with
      | nil => simp [fsB] at h
      | cons f fs =>
        simp only [fsB, Bool.and_eq_true] at h
        obtain ⟨⟨h1, h2⟩, h3⟩ := h
        obtain ⟨e, h2⟩ := isT_look h2
        obtain ⟨n, x, h4⟩ := hf 0 f rfl
        obtain ⟨v, hv⟩ := (rt_in hT a hy.1).1 h2 h4
        have hl' : cs.length = o + a.size + b.size := by rw [hl]; show o + (a.size + b.size) = _; omega
        obtain ⟨v', hv'⟩ := (rt_in hT b hy.2).2 h3 (fun i f' h => hf (i + 1) f' (by simpa using h)) hl'
        rw [Nat.eq_of_beq_eq_true h1, size_of_ (tyB_sound hT h2)] at hv
        refine ⟨(v, v'), ?_⟩
        rw [RT]
        refine ⟨_, _, ?_, hv, hv'⟩
        rw [← List.drop_drop, List.take_append_drop]
    refine ⟨fun {t e fuel cs x} hl h => ?_, key⟩
    obtain ⟨fs, h1, h2⟩ := inn_struct (tyB_sound hT hl)
    obtain ⟨xs, n, _, _, h3, h4, h5⟩ := DataW.trod_struct h1 h
    rw [size_of_ (tyB_sound hT hl)] at h3
    have := key (cs := cs) h2 (fun i f hf => by
      have hi := (List.getElem?_eq_some_iff.1 hf).1
      have h6 := h5 i f (by simpa using hf)
      have h7 : i < xs.length := by rw [h4]; simpa using hi
      exact ⟨n, xs[i], h6.trans (List.getElem?_eq_getElem h7)⟩) (by omega)
    simpa using this
  | .pt _, h => by cases h
  | .fn, h => by cases h
  | .lt _, h => by cases h
  | .lf _, h => by cases h
  | .oq, h => by cases h
theorem rv_in {H : Type} {enc : TypeId × Value → H} {P : Program} {W : World} {tb : Tbl} (hT : tyB P tb tb = true) {b0 t e : Nat} (y : Ty) (hy : y.inn = true) (hl : look tb t = some (y, e)) {v : Value} {d : DataW H} {p : List MemPlace} (hv : Value.okWide P W .any b0 t v) (h : DataW.Trod enc P W 0 (fun _ => true) true t v d p) : ∃ x : El y, RV (Zw W) W y x v := by
  obtain ⟨fuel, h⟩ := h
  have hty := tyB_sound hT hl
  obtain ⟨x, hx⟩ := (rt_in hT y hy).1 hl h
  refine ⟨x, ?_⟩
  unfold RV
  have one : v.cells.toList = [v] → y.agg = false → (if y.agg = true then ∃ us, v = .agg us ∧ RT (Zw W) W y x us.toList else RT (Zw W) W y x [v]) := fun h1 h2 => by
    rw [if_neg (by simp [h2]), ← h1]; exact hx
  obtain ⟨dsc, u1, u2⟩ := hty.und
  cases y with
  | bo =>
    have : dsc = .bool := by cases dsc <;> simp [dscB] at u2; rfl
    subst this
    obtain ⟨b, rfl⟩ := okWide_bool u1 hv
    exact one rfl rfl
  | it k =>
    have : dsc = .int k := by cases dsc <;> simp [dscB] at u2; rw [u2]
    subst this
    obtain ⟨n, rfl⟩ := okWide_int u1 hv
    exact one rfl rfl
  | st =>
    have : dsc = .string := by cases dsc <;> simp [dscB] at u2; rfl
    subst this
    obtain ⟨n, rfl⟩ := okWide_string u1 hv
    exact one rfl rfl
  | sl u =>
    obtain ⟨h1, _⟩ := inn_slice hty
    obtain ⟨A, l, c, rfl⟩ := okWide_slice h1 hv
    exact one rfl rfl
  | un =>
    cases dsc with
    | struct fs =>
      obtain ⟨cs, rfl, _⟩ := okWide_struct u1 hv
      rw [if_pos (show Ty.un.agg = true from rfl)]
      exact ⟨cs, rfl, hx⟩
    | _ => simp [dscB] at u2
  | pr a b =>
    obtain ⟨fs, h1, _⟩ := inn_struct hty
    obtain ⟨cs, rfl, _⟩ := okWide_struct h1 hv
    rw [if_pos (show (Ty.pr a b).agg = true from rfl)]
    exact ⟨cs, rfl, hx⟩
  | pt _ => cases hy
  | fn => cases hy
  | lt _ => cases hy
  | lf _ => cases hy
  | oq => cases hy
theorem law_calls {P : Program} {f : Nat} {ps : List Ty} (h : FnOk P f { q := .un, ps := ps, rs := [.bo], fresh := true, pre := fun _ _ => none, post := fun _ _ => ((), (true, ())) }) {W : World} {x : Els ps} {vs : List Value} (hg : Glob (Zw W) W) (hv : RVs (Zw W) W ps x vs) : Calls P f vs.toArray W fun e W' => e = .returned (.bool true) ∧ Below W.heap.size W W' := by
  refine (h.2 (Zw W) W 0 vs () x ⟨fun g hg => hg, hg⟩ hv trivial (fun e => by cases e) (fun _ => rfl)).mono ?_
  rintro e w' ⟨v, us, bs, Z', rfl, t1, t2, _, _, _, _, _, t8, _⟩
  have t8 : W.grownBy w' none := t8
  refine ⟨?_, t8.os, t8.tape, t8.output, t8.size, fun k hk => t8.block k hk (by simp)⟩
  match us, t2 with
  | [u], ⟨b, b', _, h1, h2⟩ =>
    have h1 : RT _ w' .bo true [u] ∧ b = [] := h1
    rw [RT] at h1
    have e1 : u = .bool true := by simpa using h1.1
    rcases t1 with ⟨u', e2, rfl⟩ | ⟨h3, _⟩
    · cases e2; rw [e1]
    · simp at h3
end Go.Proofs.YtemlaompalbgiaaGreatDoor
namespace Go.Proofs.YtemlaompalbgiaaGreatDoor
open Go Go.RowKit
theorem glob_tab {W : World} (h : Lib.TabIs Tryz.prog W "internal/strconv.uint64pow10" .u64 Lib.pow10Tab) : GlobT (Zw W) W := fun p hp => by
  have e : p = (1, IntKind.u64, Lib.pow10Tab) := by
    unfold globs at hp
    rw [List.nil_append] at hp
    exact List.mem_singleton.1 hp
  subst e
  unfold Lib.TabIs World.var? at h
  rw [show (Tryz.prog).globalNamed "internal/strconv.uint64pow10" = some 1 by kernel_rfl] at h
  have h : (match W.heap[1]? with
    | some (Obj.cells cs _ _) => some cs
    | _ => none) = some (Lib.pow10Tab.map fun z => Value.int .u64 z).toArray := h
  split at h
  · rename_i cs t z hc
    cases h
    exact ⟨(Array.getElem?_eq_some_iff.1 hc).1, t, z, hc⟩
  · cases h
theorem glob_laid {W : World} {L : List (String × DataW Unit)} (h : laidMetH Tryz.prog L W) (e : (L.filter fun x => x.1 == "internal/strconv.uint64pow10") = [("internal/strconv.uint64pow10", Lib.tabData .u64 Lib.pow10Tab)]) (k : GlobE (Zw W) W) : Glob (Zw W) W := by
  have h2 := h.filter fun x => x.1 == "internal/strconv.uint64pow10"
  rw [e, MakeChecks.laidMetH_plain _ _ _ (by kernel_rfl)] at h2
  refine ⟨?_, k⟩
  exact glob_tab (Lib.tabIs_of_head (g := 1) (t := 307) (e := 211) (n := 20) (by kernel_rfl) (by kernel_rfl) Tryz.underlying307 Tryz.underlying211 (by kernel_rfl) (by kernel_rfl) h2)
theorem err_row (u : TypeId) (h : (Tryz.prog).typeName? 3 u = some "*errors.errorString") : u = 323 := typeName_ptr_named (nm := "errors.errorString") (by rw [show "*" ++ "errors.errorString" = "*errors.errorString" by decide]; kernel_rfl) (by kernel_rfl) (by decide) u (by rw [show "*" ++ "errors.errorString" = "*errors.errorString" by decide]; exact h)
theorem ev_yntax {W : World} {L : List (String × DataW Unit)} {x : List UInt8} (h : laidMetH Tryz.prog L W) (e : (L.filter fun x => x.1 == "strconv.ErrSyntax") = [("strconv.ErrSyntax", .iface "*errors.errorString" (.ptr (.agg [.lit (.string x)])))]) : Zw W 2 ∧ ∃ te pe t z, W.heap[2]? = some (.cells #[.iface te pe] t z) := by
  have h2 := h.filter fun x => x.1 == "strconv.ErrSyntax"
  rw [e, MakeChecks.laidMetH_plain _ _ _ (by rfl)] at h2
  obtain ⟨a, s, hv, _⟩ := laid_sentinel (g := 2) (ti := 217) (tp := 323) (te := 325) (ts := 9) h2 (by kernel_rfl) (by kernel_rfl) Tryz.underlying217 err_row Tryz.underlying323 Tryz.underlying325 rfl rfl Tryz.underlying9 (by kernel_rfl) (by kernel_rfl)
  unfold World.var? at hv
  rw [show (Tryz.prog).globalNamed "strconv.ErrSyntax" = some 2 by kernel_rfl] at hv
  have hv : (match W.heap[2]? with
    | some (Obj.cells cs _ _) => some cs
    | _ => none) = some #[.iface 323 (.pointer (some a))] := hv
  split at hv
  · rename_i cs t z hc
    cases hv
    exact ⟨(Array.getElem?_eq_some_iff.1 hc).1, _, _, t, z, hc⟩
  · cases hv
theorem ev_Range {W : World} {L : List (String × DataW Unit)} {x : List UInt8} (h : laidMetH Tryz.prog L W) (e : (L.filter fun x => x.1 == "strconv.ErrRange") = [("strconv.ErrRange", .iface "*errors.errorString" (.ptr (.agg [.lit (.string x)])))]) : Zw W 3 ∧ ∃ te pe t z, W.heap[3]? = some (.cells #[.iface te pe] t z) := by
  have h2 := h.filter fun x => x.1 == "strconv.ErrRange"
  rw [e, MakeChecks.laidMetH_plain _ _ _ (by rfl)] at h2
  obtain ⟨a, s, hv, _⟩ := laid_sentinel (g := 3) (ti := 217) (tp := 323) (te := 325) (ts := 9) h2 (by kernel_rfl) (by kernel_rfl) Tryz.underlying217 err_row Tryz.underlying323 Tryz.underlying325 rfl rfl Tryz.underlying9 (by kernel_rfl) (by kernel_rfl)
  unfold World.var? at hv
  rw [show (Tryz.prog).globalNamed "strconv.ErrRange" = some 3 by kernel_rfl] at hv
  have hv : (match W.heap[3]? with
    | some (Obj.cells cs _ _) => some cs
    | _ => none) = some #[.iface 323 (.pointer (some a))] := hv
  split at hv
  · rename_i cs t z hc
    cases hv
    exact ⟨(Array.getElem?_eq_some_iff.1 hc).1, _, _, t, z, hc⟩
  · cases hv
theorem globE_laid {W : World} {L : List (String × DataW Unit)} (h : laidMetH Tryz.prog L W)
    (e1 : (L.filter fun x => x.1 == "strconv.ErrSyntax") = [("strconv.ErrSyntax", .iface "*errors.errorString" (.ptr (.agg [.lit (.string [105, 110, 118, 97, 108, 105, 100, 32, 115, 121, 110, 116, 97, 120])])))])
    (e2 : (L.filter fun x => x.1 == "strconv.ErrRange") = [("strconv.ErrRange", .iface "*errors.errorString" (.ptr (.agg [.lit (.string [118, 97, 108, 117, 101, 32, 111, 117, 116, 32, 111, 102, 32, 114, 97, 110, 103, 101])])))])
    : GlobE (Zw W) W := fun g hg => by
  unfold globsE at hg
  rw [List.nil_append] at hg
  rcases List.mem_cons.1 hg with rfl | hg
  · exact ev_yntax h e1
  · rcases List.mem_cons.1 hg with rfl | hg
    · exact ev_Range h e2
    · cases hg
end Go.Proofs.YtemlaompalbgiaaGreatDoor
namespace Go.Proofs.YtemlaompalbgiaaGreatDoor
open Go.ChangeShapes Go.WideShapes Go.ChangeAt Go.RowKit Go.Joins
set_option linter.unusedVariables false
theorem mk_lifted (os : Os) (started : os.Started) (H : Type) (enc : TypeId × Value → H) :
    ReturnsInHanded {} Tryz.checked os 7 .any (fun w args => (Rows.tideNamesSpec.pre enc Tryz.prog Tryz.f7 [] false w args ∧ laidMetH Tryz.prog Rows.tideNamesRow.laid w) ∧ sizedMet enc Tryz.prog Tryz.f7 (OpenSpec.ofChange Rows.tideNamesSpec) false w args) (Rows.tideNamesSpec.post enc Tryz.prog Tryz.f7 false true false false) := by
  refine returnsInHanded_of_change_and (C := Tryz.checked) (X := fun w _ => laidMetH Tryz.prog Rows.tideNamesRow.laid w) (fun _ _ _ hh h => h.of_heap hh) mk_own started (by kernel_rfl) Tryz.func7
    (ChangeSpec.witness_at (enc := enc) (C := Tryz.checked) (os := os) (X := fun w _ => laidMetH Tryz.prog Rows.tideNamesRow.laid w) false (laidWorld os) #[.string ⟨#[]⟩] 8 rfl (by kernel_rfl) (by kernel_rfl) (by kernel_rfl) (by kernel_rfl) (by kernel_rfl) (laid_met os _)) ?_
  intro W base args ds gs before hval0 hW _ _ hL _
  have hval : ∀ (j : Nat) t v, Tryz.f7.params[j]? = some t → args[j]? = some v → Value.okWide Tryz.prog W .any base t v := hval0
  have hW' := hW
  obtain ⟨p, q, hA0, hV, rfl, hfz, hnd⟩ := hW
  have hA : DataW.TrodAll enc Tryz.prog W 0 (fun _ => true) true Tryz.f7.params.toList args.toList ds p := hA0
  rw [Tryz.params7] at hA hval
  obtain ⟨v0, vs0, d0, ds0, p0, q0, hargs, rfl, rfl, h0, r0⟩ := trodAll_cons hA
  obtain ⟨rfl, rfl, rfl⟩ := trodAll_nil r0
  obtain rfl : args = #[v0] := by cases args; simp_all
  obtain ⟨rfl, rfl⟩ := trodVars_none hV
  have k0 := h0
  have lt0 : ∀ x ∈ p0, x.block < W.heap.size := by obtain ⟨m, hm⟩ := k0; exact DataW.trod_lt m _ _ _ hm
  obtain ⟨x0, hx0⟩ := rv_in tys_ok (e := 0) (.st) rfl rfl (hval 0 9 v0 rfl rfl) h0
  clear hA0 hval0
  refine (law_calls (x := (x0, ())) (vs := [v0]) fo_lawTideNames (glob_laid hL (by kernel_rfl) (globE_laid hL (by first | exact True.intro | kernel_rfl) (by first | exact True.intro | kernel_rfl))) ⟨hx0, trivial⟩).mono fun e W' ⟨he, bel⟩ => ?_
  subst he
  exact ⟨_, rfl, _, _, _, [], _, [], hW', trodAll_mk1 (shut_bool Tryz.underlying4 _), (trodAll_cons_mk (Below.trod mk_laidOut (by kernel_rfl) (of_decide_eq_true (by kernel_rfl)) k0 bel lt0) trodAll_mk0), rfl, Below.frame bel _, fun h => by cases h⟩
set_option linter.unusedVariables false
theorem and_tt {a b : Bool} (h : a = true) (k : b = true) : (a && b) = true := by rw [h, k]; rfl
def jo_ (P : Program) (f : FuncId) (fn : Func) (s : ChangeSpec) (c : OpenClaim) : Nat → Bool
  | 0 => c.wf (OpenSpec.ofChange s)
  | 1 => laidOutB P
  | 2 => mapsRowed P
  | 3 => fn.params.all (P.readableRec ·)
  | 4 => namedTie P c.named s.vars
  | 5 => (c.stops == [])
  | 6 => (P.stops == [])
  | 7 => (c.knobs == [])
  | 8 => (P.stopKnobs == [])
  | 9 => (c.inPlace == P.inPlace f)
  | 10 => (c.unfollowed == P.unfollowed f)
  | 11 => (c.recurses == P.recurses f)
  | 12 => (c.named == P.varsNamed f)
  | 13 => (c.maps == (fn.params.toList ++ s.plain.varTypes P).any (P.mapsRec ·))
  | 14 => (c.ifaces == (fn.params.toList ++ s.plain.varTypes P).any (P.ifacesRec ·))
  | 15 => (c.mapsOut == P.mapsAmong fn.resultTypes.toList)
  | 16 => (c.loops == (fn.params.toList ++ s.plain.varTypes P).any (P.loopsFrom ·))
  | 17 => (c.wideKeys == (fn.params.toList ++ s.plain.varTypes P ++ fn.resultTypes.toList).any (P.wideKeysFrom ·))
  | 18 => s.vars.all (P.varReadable ·)
  | 19 => fn.resultTypes.all (fun t => P.readableRec t && decide (t < P.types.size))
  | 20 => (c.ifacesOut == fn.resultTypes.toList.any (P.ifacesRec ·))
  | 21 => (c.loopsOut == fn.resultTypes.toList.any (P.loopsFrom ·))
  | 22 => (c.plainKeys == P.plainKeys)
  | 23 => c.shortTexts.isNone
  | 24 => P.stopsHeard
  | 25 => P.mayEnter
  | 26 => (c.lifted == P.liftsFinal)
  | 27 => (P.make == some c.make)
  | 28 => (c.kinds == (if c.domain.isEmpty then [] else fn.params.toList.map fun t => match P.underlying t with | some (.int k) => some k | _ => none))
  | 29 => (c.pinned == c.pinnedBy)
  | 30 => (c.veiled == (fn.params.toList ++ s.plain.varTypes P ++ fn.resultTypes.toList).any (P.veiledRec ·))
  | 31 => c.veiledFits P fn.params.toList (fn.params.toList ++ s.plain.varTypes P ++ fn.resultTypes.toList)
  | _ => true
theorem jo_0 : jo_ (Tryz.pinned).checked.prog 7 Tryz.f7 Rows.tideNamesSpec Rows.tideNamesRow 0 = true := by kernel_rfl
theorem jo_1 : jo_ (Tryz.pinned).checked.prog 7 Tryz.f7 Rows.tideNamesSpec Rows.tideNamesRow 1 = true := by kernel_rfl
theorem jo_2 : jo_ (Tryz.pinned).checked.prog 7 Tryz.f7 Rows.tideNamesSpec Rows.tideNamesRow 2 = true := by kernel_rfl
theorem jo_3 : jo_ (Tryz.pinned).checked.prog 7 Tryz.f7 Rows.tideNamesSpec Rows.tideNamesRow 3 = true := by kernel_rfl
theorem jo_4 : jo_ (Tryz.pinned).checked.prog 7 Tryz.f7 Rows.tideNamesSpec Rows.tideNamesRow 4 = true := by kernel_rfl
theorem jo_5 : jo_ (Tryz.pinned).checked.prog 7 Tryz.f7 Rows.tideNamesSpec Rows.tideNamesRow 5 = true := by kernel_rfl
theorem jo_6 : jo_ (Tryz.pinned).checked.prog 7 Tryz.f7 Rows.tideNamesSpec Rows.tideNamesRow 6 = true := by kernel_rfl
theorem jo_7 : jo_ (Tryz.pinned).checked.prog 7 Tryz.f7 Rows.tideNamesSpec Rows.tideNamesRow 7 = true := by kernel_rfl
theorem jo_8 : jo_ (Tryz.pinned).checked.prog 7 Tryz.f7 Rows.tideNamesSpec Rows.tideNamesRow 8 = true := by kernel_rfl
theorem jo_9 : jo_ (Tryz.pinned).checked.prog 7 Tryz.f7 Rows.tideNamesSpec Rows.tideNamesRow 9 = true := by kernel_rfl
theorem jo_10 : jo_ (Tryz.pinned).checked.prog 7 Tryz.f7 Rows.tideNamesSpec Rows.tideNamesRow 10 = true := by kernel_rfl
theorem jo_11 : jo_ (Tryz.pinned).checked.prog 7 Tryz.f7 Rows.tideNamesSpec Rows.tideNamesRow 11 = true := by kernel_rfl
theorem jo_12 : jo_ (Tryz.pinned).checked.prog 7 Tryz.f7 Rows.tideNamesSpec Rows.tideNamesRow 12 = true := by kernel_rfl
theorem jo_13 : jo_ (Tryz.pinned).checked.prog 7 Tryz.f7 Rows.tideNamesSpec Rows.tideNamesRow 13 = true := by kernel_rfl
theorem jo_14 : jo_ (Tryz.pinned).checked.prog 7 Tryz.f7 Rows.tideNamesSpec Rows.tideNamesRow 14 = true := by kernel_rfl
theorem jo_15 : jo_ (Tryz.pinned).checked.prog 7 Tryz.f7 Rows.tideNamesSpec Rows.tideNamesRow 15 = true := by kernel_rfl
theorem jo_16 : jo_ (Tryz.pinned).checked.prog 7 Tryz.f7 Rows.tideNamesSpec Rows.tideNamesRow 16 = true := by kernel_rfl
theorem jo_17 : jo_ (Tryz.pinned).checked.prog 7 Tryz.f7 Rows.tideNamesSpec Rows.tideNamesRow 17 = true := by kernel_rfl
theorem jo_18 : jo_ (Tryz.pinned).checked.prog 7 Tryz.f7 Rows.tideNamesSpec Rows.tideNamesRow 18 = true := by kernel_rfl
theorem jo_19 : jo_ (Tryz.pinned).checked.prog 7 Tryz.f7 Rows.tideNamesSpec Rows.tideNamesRow 19 = true := by kernel_rfl
theorem jo_20 : jo_ (Tryz.pinned).checked.prog 7 Tryz.f7 Rows.tideNamesSpec Rows.tideNamesRow 20 = true := by kernel_rfl
theorem jo_21 : jo_ (Tryz.pinned).checked.prog 7 Tryz.f7 Rows.tideNamesSpec Rows.tideNamesRow 21 = true := by kernel_rfl
theorem jo_22 : jo_ (Tryz.pinned).checked.prog 7 Tryz.f7 Rows.tideNamesSpec Rows.tideNamesRow 22 = true := by kernel_rfl
theorem jo_23 : jo_ (Tryz.pinned).checked.prog 7 Tryz.f7 Rows.tideNamesSpec Rows.tideNamesRow 23 = true := by kernel_rfl
theorem jo_24 : jo_ (Tryz.pinned).checked.prog 7 Tryz.f7 Rows.tideNamesSpec Rows.tideNamesRow 24 = true := by kernel_rfl
theorem jo_25 : jo_ (Tryz.pinned).checked.prog 7 Tryz.f7 Rows.tideNamesSpec Rows.tideNamesRow 25 = true := by kernel_rfl
theorem jo_26 : jo_ (Tryz.pinned).checked.prog 7 Tryz.f7 Rows.tideNamesSpec Rows.tideNamesRow 26 = true := by kernel_rfl
theorem jo_27 : jo_ (Tryz.pinned).checked.prog 7 Tryz.f7 Rows.tideNamesSpec Rows.tideNamesRow 27 = true := by kernel_rfl
theorem jo_28 : jo_ (Tryz.pinned).checked.prog 7 Tryz.f7 Rows.tideNamesSpec Rows.tideNamesRow 28 = true := by kernel_rfl
theorem jo_29 : jo_ (Tryz.pinned).checked.prog 7 Tryz.f7 Rows.tideNamesSpec Rows.tideNamesRow 29 = true := by kernel_rfl
theorem jo_30 : jo_ (Tryz.pinned).checked.prog 7 Tryz.f7 Rows.tideNamesSpec Rows.tideNamesRow 30 = true := by kernel_rfl
theorem jo_31 : jo_ (Tryz.pinned).checked.prog 7 Tryz.f7 Rows.tideNamesSpec Rows.tideNamesRow 31 = true := by kernel_rfl
end Go.Proofs.YtemlaompalbgiaaGreatDoor
