/- Texts of this claim, joined: B15 B16 B17 B18. -/
import Derived.Test.YtakaehdolpmelaaGreatQv
set_option linter.unusedVariables false
set_option linter.unusedSimpArgs false
set_option maxRecDepth 100000
namespace Go.Proofs.YtakaehdolpmelaaGreat
open Go Go.RowKit
def lett (c : Int) : Bool := decide (97 ≤ c ∧ c ≤ 122) || decide (65 ≤ c ∧ c ≤ 90)
def digI (c : Int) : Bool := decide (48 ≤ c ∧ c ≤ 57)
def gi (s : ByteArray) (i : Nat) : Int := ((s.get! i).toNat : Int)
def nameS (s : ByteArray) : Bool := decide (0 < s.size ∧ s.size ≤ 20) && lett (gi s 0) && (List.range s.size).all fun i => lett (gi s i) || digI (gi s i)
theorem ntt {b : Bool} (h : (!b) = true) : b = false := by simpa using h
theorem nff {b : Bool} (h : (!b) = false) : b = true := by simpa using h
theorem ba_loop (s : ByteArray) (i : Nat) (r : List UInt8) : ByteArray.toList.loop s i r = r.reverse ++ s.data.toList.drop i := by
  by_cases h : i < s.size
  · rw [ByteArray.toList.loop, if_pos h, ba_loop s (i + 1), List.reverse_cons, List.append_assoc]
    have hl : i < s.data.toList.length := h
    rw [List.drop_eq_getElem_cons hl]
    congr 1
    show [s.get! i] ++ _ = _
    have : s.get! i = s.data.toList[i] := by
      show s.data[i]! = _
      rw [getElem!_pos s.data i h]
      simp
    rw [this]
    rfl
  · rw [ByteArray.toList.loop, if_neg h, List.drop_of_length_le (by show s.data.toList.length ≤ i; simpa using h), List.append_nil]
  termination_by s.size - i
theorem ba_list (s : ByteArray) : s.toList = s.data.toList := by
  unfold ByteArray.toList
  rw [ba_loop]
  rfl
theorem ba_eq (a b : ByteArray) : (a.toList == b.toList) = decide (a = b) := by
  rw [Bool.eq_iff_iff, beq_iff_eq, decide_eq_true_eq, ba_list, ba_list]
  constructor
  · intro h
    obtain ⟨⟨a⟩⟩ := a
    obtain ⟨⟨b⟩⟩ := b
    have h : a = b := h
    rw [h]
  · intro h; rw [h]
theorem ba_0 (s : ByteArray) : (s.toList == ByteArray.toList { data := #[] }) = decide (s.size = 0) := by
  rw [Bool.eq_iff_iff, beq_iff_eq, decide_eq_true_eq, ba_list, ba_list]
  obtain ⟨⟨a⟩⟩ := s
  show a = [] ↔ a.length = 0
  simp
theorem all_succ_ {i : Nat} {f : Nat → Bool} (h : (List.range i).all f = true) (k : f i = true) : (List.range (i + 1)).all f = true := by
  rw [List.range_succ, List.all_append, h]
  simp [k]
theorem nameS_0 {s : ByteArray} (h : s.size = 0) : (false, ()) = (nameS s, ()) := by
  unfold nameS
  rw [decide_eq_false (by omega)]
  rfl
theorem nameS_long {s : ByteArray} (h : 20 < s.size) : (false, ()) = (nameS s, ()) := by
  unfold nameS
  rw [decide_eq_false (by omega)]
  rfl
theorem nameS_first {s : ByteArray} (h : lett (gi s 0) = false) : (false, ()) = (nameS s, ()) := by
  unfold nameS
  rw [h]
  simp
theorem nameS_bad {s : ByteArray} {i : Nat} (h : i < s.size) (k : (lett (gi s i) || digI (gi s i)) = false) : (false, ()) = (nameS s, ()) := by
  have : ((List.range s.size).all fun i => lett (gi s i) || digI (gi s i)) = false := by
    rw [List.all_eq_false]
    exact ⟨i, List.mem_range.2 h, by rw [k]; decide⟩
  unfold nameS
  rw [this]
  simp
theorem nameS_ok {s : ByteArray} (h : 0 < s.size) (k : s.size ≤ 20) (l : lett (gi s 0) = true) (m : ((List.range s.size).all fun i => lett (gi s i) || digI (gi s i)) = true) : (true, ()) = (nameS s, ()) := by
  unfold nameS
  rw [m, l, decide_eq_true ⟨h, k⟩]
  rfl
theorem ltT {a b : Int} (h : decide (a < b) = true) : a < b := of_decide_eq_true h
theorem ltF {a b : Int} (h : decide (a < b) = false) : b ≤ a := by have := of_decide_eq_false h; omega
theorem gtT {a b : Int} (h : decide (a > b) = true) : b < a := of_decide_eq_true h
theorem gtF {a b : Int} (h : decide (a > b) = false) : a ≤ b := by have := of_decide_eq_false h; omega
theorem eqT {a b : Int} (h : (a == b) = true) : a = b := eq_of_beq h
theorem eqF {a b : Int} (h : (a == b) = false) : a ≠ b := ne_of_beq_false h
theorem neT {a b : Int} (h : (a != b) = true) : a ≠ b := by simpa using h
theorem neF {a b : Int} (h : (a != b) = false) : a = b := by simpa using h
theorem lett_law (c : Int) : (decide (c ≥ 97) = true → (decide (c ≤ 122) = true → (true, ()) = (lett c, ())) ∧ (decide (c ≤ 122) = false → (decide (c ≥ 65) = true → (decide (c ≤ 90), ()) = (lett c, ())) ∧ (decide (c ≥ 65) = false → (false, ()) = (lett c, ())))) ∧ (decide (c ≥ 97) = false → (decide (c ≥ 65) = true → (decide (c ≤ 90), ()) = (lett c, ())) ∧ (decide (c ≥ 65) = false → (false, ()) = (lett c, ()))) := by
  unfold lett
  refine ⟨fun h => ⟨fun k => ?_, fun k => ⟨fun m => ?_, fun m => ?_⟩⟩, fun h => ⟨fun m => ?_, fun m => ?_⟩⟩
  all_goals
    simp only [decide_eq_true_eq, decide_eq_false_iff_not] at *
    refine congrArg (fun b => (b, ())) ?_
    rw [Bool.eq_iff_iff]
    simp only [Bool.or_eq_true, decide_eq_true_eq, true_iff, Bool.false_eq_true, false_iff]
    omega
theorem dig_law (c : Int) : (decide (c ≥ 48) = true → (decide (c ≤ 57), ()) = (digI c, ())) ∧ (decide (c ≥ 48) = false → (false, ()) = (digI c, ())) := by
  unfold digI
  refine ⟨fun h => ?_, fun h => ?_⟩
  all_goals
    simp only [decide_eq_true_eq, decide_eq_false_iff_not] at *
    refine congrArg (fun b => (b, ())) ?_
    rw [Bool.eq_iff_iff]
    simp only [decide_eq_true_eq, Bool.false_eq_true, false_iff]
    omega
noncomputable def sp_tletter : Spec := { q := .un, ps := [.it .u8], rs := [.bo], fresh := true, pre := fun _ _ => none, post := fun _ x => ((), (lett x.1, ())) }
noncomputable def iv_tletter (y : El sp_tletter.q) (x : Els sp_tletter.ps) : Nat → Option Inv := fun _ => none
noncomputable abbrev c_tletter : Cfg := cfgS (Tryz.f141).ntmps false []
def F_tletter (y : El sp_tletter.q) (x : Els sp_tletter.ps) : Prop :=
  (decide (x.1 ≥ (97 : Int)) = true → (decide (x.1 ≤ (122 : Int)) = true → (true, ()) = (lett x.1, ())) ∧ (decide (x.1 ≤ (122 : Int)) = false → (decide (x.1 ≥ (65 : Int)) = true → (decide (x.1 ≤ (90 : Int)), ()) = (lett x.1, ())) ∧ (decide (x.1 ≥ (65 : Int)) = false → (false, ()) = (lett x.1, ())))) ∧ (decide (x.1 ≥ (97 : Int)) = false → (decide (x.1 ≥ (65 : Int)) = true → (decide (x.1 ≤ (90 : Int)), ()) = (lett x.1, ())) ∧ (decide (x.1 ≥ (65 : Int)) = false → (false, ()) = (lett x.1, ())))
theorem w_tletter (y : El sp_tletter.q) (x : Els sp_tletter.ps) : aW c_tletter (iv_tletter y x) Tryz.f141 sp_tletter y x = F_tletter y x := by kernel_rfl
theorem m_tletter (y : El (.un)) (x : Els [.it .u8]) (h2 : wfE (.un) y) (h3 : wfEs [.it .u8] x) : F_tletter y x := by
  unfold F_tletter
  exact lett_law x.1
theorem fo_tletter : FnOk Tryz.prog 141 sp_tletter := fnOk_of (C := c_tletter) iv_tletter Tryz.func141 rfl (by kernel_rfl) tys_ok prims_nil mixed_ (Nat.le_refl _) rfl fun y x h1 h2 h3 h4 =>
  Eq.mpr (w_tletter y x) (m_tletter y x h2 h3)
noncomputable def sp_nletter : Spec := { q := .un, ps := [.it .u8], rs := [.bo], fresh := true, pre := fun _ _ => none, post := fun _ x => ((), (lett x.1, ())) }
noncomputable def iv_nletter (y : El sp_nletter.q) (x : Els sp_nletter.ps) : Nat → Option Inv := fun _ => none
noncomputable abbrev c_nletter : Cfg := cfgS (Tryz.f144).ntmps false []
def F_nletter (y : El sp_nletter.q) (x : Els sp_nletter.ps) : Prop :=
  (decide (x.1 ≥ (97 : Int)) = true → (decide (x.1 ≤ (122 : Int)) = true → (true, ()) = (lett x.1, ())) ∧ (decide (x.1 ≤ (122 : Int)) = false → (decide (x.1 ≥ (65 : Int)) = true → (decide (x.1 ≤ (90 : Int)), ()) = (lett x.1, ())) ∧ (decide (x.1 ≥ (65 : Int)) = false → (false, ()) = (lett x.1, ())))) ∧ (decide (x.1 ≥ (97 : Int)) = false → (decide (x.1 ≥ (65 : Int)) = true → (decide (x.1 ≤ (90 : Int)), ()) = (lett x.1, ())) ∧ (decide (x.1 ≥ (65 : Int)) = false → (false, ()) = (lett x.1, ())))
theorem w_nletter (y : El sp_nletter.q) (x : Els sp_nletter.ps) : aW c_nletter (iv_nletter y x) Tryz.f144 sp_nletter y x = F_nletter y x := by kernel_rfl
theorem m_nletter (y : El (.un)) (x : Els [.it .u8]) (h2 : wfE (.un) y) (h3 : wfEs [.it .u8] x) : F_nletter y x := by
  unfold F_nletter
  exact lett_law x.1
theorem fo_nletter : FnOk Tryz.prog 144 sp_nletter := fnOk_of (C := c_nletter) iv_nletter Tryz.func144 rfl (by kernel_rfl) tys_ok prims_nil mixed_ (Nat.le_refl _) rfl fun y x h1 h2 h3 h4 =>
  Eq.mpr (w_nletter y x) (m_nletter y x h2 h3)
noncomputable def sp_ndigit : Spec := { q := .un, ps := [.it .u8], rs := [.bo], fresh := true, pre := fun _ _ => none, post := fun _ x => ((), (digI x.1, ())) }
noncomputable def iv_ndigit (y : El sp_ndigit.q) (x : Els sp_ndigit.ps) : Nat → Option Inv := fun _ => none
noncomputable abbrev c_ndigit : Cfg := cfgS (Tryz.f145).ntmps false []
def F_ndigit (y : El sp_ndigit.q) (x : Els sp_ndigit.ps) : Prop :=
  (decide (x.1 ≥ (48 : Int)) = true → (decide (x.1 ≤ (57 : Int)), ()) = (digI x.1, ())) ∧ (decide (x.1 ≥ (48 : Int)) = false → (false, ()) = (digI x.1, ()))
theorem w_ndigit (y : El sp_ndigit.q) (x : Els sp_ndigit.ps) : aW c_ndigit (iv_ndigit y x) Tryz.f145 sp_ndigit y x = F_ndigit y x := by kernel_rfl
theorem m_ndigit (y : El (.un)) (x : Els [.it .u8]) (h2 : wfE (.un) y) (h3 : wfEs [.it .u8] x) : F_ndigit y x := by
  unfold F_ndigit
  exact dig_law x.1
theorem fo_ndigit : FnOk Tryz.prog 145 sp_ndigit := fnOk_of (C := c_ndigit) iv_ndigit Tryz.func145 rfl (by kernel_rfl) tys_ok prims_nil mixed_ (Nat.le_refl _) rfl fun y x h1 h2 h3 h4 =>
  Eq.mpr (w_ndigit y x) (m_ndigit y x h2 h3)
noncomputable def sp_tName : Spec := { q := .un, ps := [.st], rs := [.bo], fresh := true, pre := fun _ _ => none, post := fun _ x => ((), (nameS x.1, ())) }
noncomputable def iv_tName (y : El sp_tName.q) (x : Els sp_tName.ps) : Nat → Option Inv := fun k => if k = 0 then some { X := Nat, tm := fun i => [(0, .c (.sc (.string x.1))), (19, .c (.sc (.int .i64 i))), (18, .c (.sc (.int .i64 x.1.size)))], ob := fun _ => [], n := 1, I := fun i => i ≤ x.1.size ∧ 0 < x.1.size ∧ x.1.size ≤ 20 ∧ lett (gi x.1 0) = true ∧ ((List.range i).all fun i => lett (gi x.1 i) || digI (gi x.1 i)) = true, μ := fun i => x.1.size - i } else none
noncomputable abbrev c_tName : Cfg := cfgS (Tryz.f101).ntmps false [(141, sp_tletter.prim)]
def F_tName (y : El sp_tName.q) (x : Els sp_tName.ps) : Prop :=
  ((ByteArray.toList x.1 == (ByteArray.toList (⟨#[]⟩ : ByteArray))) = true → (false, ()) = (nameS x.1, ())) ∧ ((ByteArray.toList x.1 == (ByteArray.toList (⟨#[]⟩ : ByteArray))) = false → (decide ((↑(ByteArray.size x.1) : Int) > (20 : Int)) = true → (false, ()) = (nameS x.1, ())) ∧ (decide ((↑(ByteArray.size x.1) : Int) > (20 : Int)) = false → ((0 : Int) ≤ (0 : Int) ∧ (0 : Int) < (↑(ByteArray.size x.1) : Int)) ∧ ∀ (r : Ro [Ty.bo]), r = ((), lett (↑(ByteArray.get! x.1 (Int.toNat (0 : Int))).toNat : Int), ()) → ((!r.2.1) = true → (false, ()) = (nameS x.1, ())) ∧ ((!r.2.1) = false → (∃ (x_1 : Nat), x.1 = x.1 ∧ (↑x_1 : Int) = (0 : Int) ∧ (↑(ByteArray.size x.1) : Int) = (↑(ByteArray.size x.1) : Int) ∧ x_1 ≤ ByteArray.size x.1 ∧ (0 : Nat) < ByteArray.size x.1 ∧ ByteArray.size x.1 ≤ (20 : Nat) ∧ lett (gi x.1 (0 : Nat)) = true ∧ ((List.range x_1).all fun (i : Nat) => lett (gi x.1 i) || digI (gi x.1 i)) = true) ∧ ∀ (x_1 : Nat), x_1 ≤ ByteArray.size x.1 ∧ (0 : Nat) < ByteArray.size x.1 ∧ ByteArray.size x.1 ≤ (20 : Nat) ∧ lett (gi x.1 (0 : Nat)) = true ∧ ((List.range x_1).all fun (i : Nat) => lett (gi x.1 i) || digI (gi x.1 i)) = true → (decide ((↑x_1 : Int) < (↑(ByteArray.size x.1) : Int)) = true → ((0 : Int) ≤ (↑x_1 : Int) ∧ (↑x_1 : Int) < (↑(ByteArray.size x.1) : Int)) ∧ ∀ (r : Ro [Ty.bo]), r = ((), lett (↑(ByteArray.get! x.1 (↑x_1 : Int).toNat).toNat : Int), ()) → ((!r.2.1) = true → ((0 : Int) ≤ (↑x_1 : Int) ∧ (↑x_1 : Int) < (↑(ByteArray.size x.1) : Int)) ∧ (decide ((↑(ByteArray.get! x.1 (↑x_1 : Int).toNat).toNat : Int) < (48 : Int)) = true → (false, ()) = (nameS x.1, ())) ∧ (decide ((↑(ByteArray.get! x.1 (↑x_1 : Int).toNat).toNat : Int) < (48 : Int)) = false → ((0 : Int) ≤ (↑x_1 : Int) ∧ (↑x_1 : Int) < (↑(ByteArray.size x.1) : Int)) ∧ (decide ((↑(ByteArray.get! x.1 (↑x_1 : Int).toNat).toNat : Int) > (57 : Int)) = true → (false, ()) = (nameS x.1, ())) ∧ (decide ((↑(ByteArray.get! x.1 (↑x_1 : Int).toNat).toNat : Int) > (57 : Int)) = false → ((-9223372036854775808 : Int) ≤ (↑x_1 : Int) + (1 : Int) ∧ (↑x_1 : Int) + (1 : Int) ≤ (9223372036854775807 : Int)) ∧ ∃ (x' : Nat), x.1 = x.1 ∧ (↑x' : Int) = (↑x_1 : Int) + (1 : Int) ∧ (↑(ByteArray.size x.1) : Int) = (↑(ByteArray.size x.1) : Int) ∧ (x' ≤ ByteArray.size x.1 ∧ (0 : Nat) < ByteArray.size x.1 ∧ ByteArray.size x.1 ≤ (20 : Nat) ∧ lett (gi x.1 (0 : Nat)) = true ∧ ((List.range x').all fun (i : Nat) => lett (gi x.1 i) || digI (gi x.1 i)) = true) ∧ ByteArray.size x.1 - x' < ByteArray.size x.1 - x_1))) ∧ ((!r.2.1) = false → ((-9223372036854775808 : Int) ≤ (↑x_1 : Int) + (1 : Int) ∧ (↑x_1 : Int) + (1 : Int) ≤ (9223372036854775807 : Int)) ∧ ∃ (x' : Nat), x.1 = x.1 ∧ (↑x' : Int) = (↑x_1 : Int) + (1 : Int) ∧ (↑(ByteArray.size x.1) : Int) = (↑(ByteArray.size x.1) : Int) ∧ (x' ≤ ByteArray.size x.1 ∧ (0 : Nat) < ByteArray.size x.1 ∧ ByteArray.size x.1 ≤ (20 : Nat) ∧ lett (gi x.1 (0 : Nat)) = true ∧ ((List.range x').all fun (i : Nat) => lett (gi x.1 i) || digI (gi x.1 i)) = true) ∧ ByteArray.size x.1 - x' < ByteArray.size x.1 - x_1)) ∧ (decide ((↑x_1 : Int) < (↑(ByteArray.size x.1) : Int)) = false → (true, ()) = (nameS x.1, ())))))
theorem w_tName (y : El sp_tName.q) (x : Els sp_tName.ps) : aW c_tName (iv_tName y x) Tryz.f101 sp_tName y x = F_tName y x := by kernel_rfl
theorem m_tName (y : El (.un)) (x : Els [.st]) (h2 : wfE (.un) y) (h3 : wfEs [.st] x) : F_tName y x := by
  unfold F_tName
  have gz : ∀ i : Nat, ((ByteArray.get! x.1 ((i : Int)).toNat).toNat : Int) = gi x.1 i := fun i => by rw [Int.toNat_natCast]; rfl
  refine ⟨fun h => ?_, fun h => ⟨fun k => ?_, fun k => ⟨⟨Int.le_refl _, ?_⟩, ?_⟩⟩⟩
  · rw [ba_0] at h
    exact nameS_0 (of_decide_eq_true h)
  · exact nameS_long (by have := of_decide_eq_true k; omega)
  all_goals
    rw [ba_0] at h
    have h := of_decide_eq_false h
    have k := of_decide_eq_false k
  · omega
  rintro _ rfl
  refine ⟨fun m => nameS_first (ntt m), fun m => ⟨⟨0, rfl, rfl, rfl, Nat.zero_le _, by omega, by omega, nff m, rfl⟩, fun i hi => ⟨fun l => ?_, fun l => ?_⟩⟩⟩
  · obtain ⟨i0, i1, i2, i3, i4⟩ := hi
    have l := of_decide_eq_true l
    have il : i < x.1.size := by omega
    refine ⟨⟨by omega, l⟩, ?_⟩
    rintro _ rfl
    simp only [gz]
    refine ⟨fun m => ⟨⟨by omega, l⟩, fun u => ?_, fun u => ⟨⟨by omega, l⟩, fun v => ?_, fun v => ⟨by omega, i + 1, (by first | exact rfl | exact trivial), rfl, (by first | exact rfl | exact trivial), ⟨il, i1, i2, i3, all_succ_ i4 ?_⟩, by omega⟩⟩⟩, fun m => ⟨by omega, i + 1, (by first | exact rfl | exact trivial), rfl, (by first | exact rfl | exact trivial), ⟨il, i1, i2, i3, all_succ_ i4 ?_⟩, by omega⟩⟩
    · have u := of_decide_eq_true u
      exact nameS_bad il (by rw [(ntt m : lett (gi x.1 i) = false)]; unfold digI; rw [decide_eq_false (by omega)]; rfl)
    · have v := of_decide_eq_true v
      exact nameS_bad il (by rw [(ntt m : lett (gi x.1 i) = false)]; unfold digI; rw [decide_eq_false (by omega)]; rfl)
    · have u := of_decide_eq_false u
      have v := of_decide_eq_false v
      show (lett (gi x.1 i) || digI (gi x.1 i)) = true
      unfold digI
      rw [decide_eq_true (by omega)]
      simp
    · show (lett (gi x.1 i) || digI (gi x.1 i)) = true
      rw [(nff m : lett (gi x.1 i) = true)]
      rfl
  · obtain ⟨i0, i1, i2, i3, i4⟩ := hi
    have l := of_decide_eq_false l
    have e : i = x.1.size := by omega
    rw [e] at i4
    exact nameS_ok i1 i2 i3 i4
theorem fo_tName : FnOk Tryz.prog 101 sp_tName := fnOk_of (C := c_tName) iv_tName Tryz.func101 rfl (by kernel_rfl) tys_ok (prims_cons (spec_prim fo_tletter) prims_nil) mixed_ (Nat.le_refl _) rfl fun y x h1 h2 h3 h4 =>
  Eq.mpr (w_tName y x) (m_tName y x h2 h3)
noncomputable def sp_nName : Spec := { q := .un, ps := [.st], rs := [.bo], fresh := true, pre := fun _ _ => none, post := fun _ x => ((), (nameS x.1, ())) }
noncomputable def iv_nName (y : El sp_nName.q) (x : Els sp_nName.ps) : Nat → Option Inv := fun k => if k = 0 then some { X := Nat, tm := fun i => [(0, .c (.sc (.string x.1))), (3, .c (.sc (.int .i64 i)))], ob := fun _ => [], n := 1, I := fun i => i ≤ x.1.size ∧ 0 < x.1.size ∧ x.1.size ≤ 20 ∧ lett (gi x.1 0) = true ∧ ((List.range i).all fun i => lett (gi x.1 i) || digI (gi x.1 i)) = true, μ := fun i => x.1.size - i } else none
noncomputable abbrev c_nName : Cfg := cfgS (Tryz.f105).ntmps false [(144, sp_nletter.prim), (145, sp_ndigit.prim)]
def F_nName (y : El sp_nName.q) (x : Els sp_nName.ps) : Prop :=
  (decide ((↑(ByteArray.size x.1) : Int) < (1 : Int)) = true → (false, ()) = (nameS x.1, ())) ∧ (decide ((↑(ByteArray.size x.1) : Int) < (1 : Int)) = false → (decide ((↑(ByteArray.size x.1) : Int) > (20 : Int)) = true → (false, ()) = (nameS x.1, ())) ∧ (decide ((↑(ByteArray.size x.1) : Int) > (20 : Int)) = false → ((0 : Int) ≤ (0 : Int) ∧ (0 : Int) < (↑(ByteArray.size x.1) : Int)) ∧ ∀ (r : Ro [Ty.bo]), r = ((), lett (↑(ByteArray.get! x.1 (Int.toNat (0 : Int))).toNat : Int), ()) → ((!r.2.1) = true → (false, ()) = (nameS x.1, ())) ∧ ((!r.2.1) = false → (∃ (x_1 : Nat), x.1 = x.1 ∧ (↑x_1 : Int) = (0 : Int) ∧ x_1 ≤ ByteArray.size x.1 ∧ (0 : Nat) < ByteArray.size x.1 ∧ ByteArray.size x.1 ≤ (20 : Nat) ∧ lett (gi x.1 (0 : Nat)) = true ∧ ((List.range x_1).all fun (i : Nat) => lett (gi x.1 i) || digI (gi x.1 i)) = true) ∧ ∀ (x_1 : Nat), x_1 ≤ ByteArray.size x.1 ∧ (0 : Nat) < ByteArray.size x.1 ∧ ByteArray.size x.1 ≤ (20 : Nat) ∧ lett (gi x.1 (0 : Nat)) = true ∧ ((List.range x_1).all fun (i : Nat) => lett (gi x.1 i) || digI (gi x.1 i)) = true → (decide ((↑x_1 : Int) < (↑(ByteArray.size x.1) : Int)) = true → ((0 : Int) ≤ (↑x_1 : Int) ∧ (↑x_1 : Int) < (↑(ByteArray.size x.1) : Int)) ∧ ∀ (r : Ro [Ty.bo]), r = ((), lett (↑(ByteArray.get! x.1 (↑x_1 : Int).toNat).toNat : Int), ()) → ((!r.2.1) = true → ((0 : Int) ≤ (↑x_1 : Int) ∧ (↑x_1 : Int) < (↑(ByteArray.size x.1) : Int)) ∧ ∀ (r : Ro [Ty.bo]), r = ((), digI (↑(ByteArray.get! x.1 (↑x_1 : Int).toNat).toNat : Int), ()) → ((!r.2.1) = true → (false, ()) = (nameS x.1, ())) ∧ ((!r.2.1) = false → ((-9223372036854775808 : Int) ≤ (↑x_1 : Int) + (1 : Int) ∧ (↑x_1 : Int) + (1 : Int) ≤ (9223372036854775807 : Int)) ∧ ∃ (x' : Nat), x.1 = x.1 ∧ (↑x' : Int) = (↑x_1 : Int) + (1 : Int) ∧ (x' ≤ ByteArray.size x.1 ∧ (0 : Nat) < ByteArray.size x.1 ∧ ByteArray.size x.1 ≤ (20 : Nat) ∧ lett (gi x.1 (0 : Nat)) = true ∧ ((List.range x').all fun (i : Nat) => lett (gi x.1 i) || digI (gi x.1 i)) = true) ∧ ByteArray.size x.1 - x' < ByteArray.size x.1 - x_1)) ∧ ((!r.2.1) = false → ((-9223372036854775808 : Int) ≤ (↑x_1 : Int) + (1 : Int) ∧ (↑x_1 : Int) + (1 : Int) ≤ (9223372036854775807 : Int)) ∧ ∃ (x' : Nat), x.1 = x.1 ∧ (↑x' : Int) = (↑x_1 : Int) + (1 : Int) ∧ (x' ≤ ByteArray.size x.1 ∧ (0 : Nat) < ByteArray.size x.1 ∧ ByteArray.size x.1 ≤ (20 : Nat) ∧ lett (gi x.1 (0 : Nat)) = true ∧ ((List.range x').all fun (i : Nat) => lett (gi x.1 i) || digI (gi x.1 i)) = true) ∧ ByteArray.size x.1 - x' < ByteArray.size x.1 - x_1)) ∧ (decide ((↑x_1 : Int) < (↑(ByteArray.size x.1) : Int)) = false → (true, ()) = (nameS x.1, ())))))
theorem w_nName (y : El sp_nName.q) (x : Els sp_nName.ps) : aW c_nName (iv_nName y x) Tryz.f105 sp_nName y x = F_nName y x := by kernel_rfl
theorem m_nName (y : El (.un)) (x : Els [.st]) (h2 : wfE (.un) y) (h3 : wfEs [.st] x) : F_nName y x := by
  unfold F_nName
  have gz : ∀ i : Nat, ((ByteArray.get! x.1 ((i : Int)).toNat).toNat : Int) = gi x.1 i := fun i => by rw [Int.toNat_natCast]; rfl
  refine ⟨fun h => ?_, fun h => ⟨fun k => ?_, fun k => ⟨⟨Int.le_refl _, ?_⟩, ?_⟩⟩⟩
  · exact nameS_0 (by have := of_decide_eq_true h; omega)
  · exact nameS_long (by have := of_decide_eq_true k; omega)
  all_goals
    have h := of_decide_eq_false h
    have k := of_decide_eq_false k
  · omega
  rintro _ rfl
  refine ⟨fun m => nameS_first (ntt m), fun m => ⟨⟨0, rfl, rfl, Nat.zero_le _, by omega, by omega, nff m, rfl⟩, fun i hi => ⟨fun l => ?_, fun l => ?_⟩⟩⟩
  · obtain ⟨i0, i1, i2, i3, i4⟩ := hi
    have l := of_decide_eq_true l
    have il : i < x.1.size := by omega
    refine ⟨⟨by omega, l⟩, ?_⟩
    rintro _ rfl
    simp only [gz]
    refine ⟨fun m => ⟨⟨by omega, l⟩, ?_⟩, fun m => ⟨by omega, i + 1, (by first | exact rfl | exact trivial), rfl, ⟨il, i1, i2, i3, all_succ_ i4 ?_⟩, by omega⟩⟩
    · rintro _ rfl
      refine ⟨fun u => nameS_bad il (by rw [(ntt m : lett (gi x.1 i) = false), (ntt u : digI (gi x.1 i) = false)]; rfl), fun u => ⟨by omega, i + 1, (by first | exact rfl | exact trivial), rfl, ⟨il, i1, i2, i3, all_succ_ i4 ?_⟩, by omega⟩⟩
      show (lett (gi x.1 i) || digI (gi x.1 i)) = true
      rw [(nff u : digI (gi x.1 i) = true)]
      simp
    · show (lett (gi x.1 i) || digI (gi x.1 i)) = true
      rw [(nff m : lett (gi x.1 i) = true)]
      rfl
  · obtain ⟨i0, i1, i2, i3, i4⟩ := hi
    have l := of_decide_eq_false l
    have e : i = x.1.size := by omega
    rw [e] at i4
    exact nameS_ok i1 i2 i3 i4
theorem fo_nName : FnOk Tryz.prog 105 sp_nName := fnOk_of (C := c_nName) iv_nName Tryz.func105 rfl (by kernel_rfl) tys_ok (prims_cons (spec_prim fo_nletter) (prims_cons (spec_prim fo_ndigit) prims_nil)) mixed_ (Nat.le_refl _) rfl fun y x h1 h2 h3 h4 =>
  Eq.mpr (w_nName y x) (m_nName y x h2 h3)
theorem gcd_tstep (a b : Int) : Int.gcd b (a.tmod b) = Int.gcd a b := by
  show Nat.gcd b.natAbs (a.tmod b).natAbs = Nat.gcd a.natAbs b.natAbs
  rw [Int.natAbs_tmod, Nat.gcd_comm, ← Nat.gcd_rec, Nat.gcd_comm]
theorem abs_if (a : Int) : (if -a > a then -a else a) = (a.natAbs : Int) := by
  split <;> omega
noncomputable def sp_rcommon : Spec := { q := .un, ps := [.it .i64, .it .i64], rs := [.it .i64], fresh := true, pre := fun _ x => some (x.1.natAbs ≤ 10000000000 ∧ x.2.1.natAbs ≤ 10000000000), post := fun _ x => ((), (((Int.gcd x.1 x.2.1 : Nat) : Int), ())) }
noncomputable def iv_rcommon (y : El sp_rcommon.q) (x : Els sp_rcommon.ps) : Nat → Option Inv := fun k => if k = 0 then some { X := Int × Int, tm := fun i => [(0, .c (.sc (.int .i64 i.1))), (1, .c (.sc (.int .i64 i.2)))], ob := fun _ => [], n := 1, I := fun i => Int.gcd i.1 i.2 = Int.gcd x.1 x.2.1 ∧ i.1.natAbs ≤ 10000000000 ∧ i.2.natAbs ≤ 10000000000, μ := fun i => i.2.natAbs } else none
noncomputable abbrev c_rcommon : Cfg := cfgS (Tryz.f127).ntmps false []
def F_rcommon (y : El sp_rcommon.q) (x : Els sp_rcommon.ps) : Prop :=
  (∃ (x_1 : Int × Int), x_1.1 = x.1 ∧ x_1.2 = x.2.1 ∧ x_1.1.gcd x_1.2 = Int.gcd x.1 x.2.1 ∧ x_1.1.natAbs ≤ (10000000000 : Nat) ∧ x_1.2.natAbs ≤ (10000000000 : Nat)) ∧ ∀ (x_1 : Int × Int), x_1.1.gcd x_1.2 = Int.gcd x.1 x.2.1 ∧ x_1.1.natAbs ≤ (10000000000 : Nat) ∧ x_1.2.natAbs ≤ (10000000000 : Nat) → ((x_1.2 != (0 : Int)) = true → x_1.2 ≠ (0 : Int) ∧ ∃ (x' : Int × Int), x'.1 = x_1.2 ∧ x'.2 = x_1.1.tmod x_1.2 ∧ (x'.1.gcd x'.2 = Int.gcd x.1 x.2.1 ∧ x'.1.natAbs ≤ (10000000000 : Nat) ∧ x'.2.natAbs ≤ (10000000000 : Nat)) ∧ x'.2.natAbs < x_1.2.natAbs) ∧ ((x_1.2 != (0 : Int)) = false → ((-9223372036854775808 : Int) ≤ -x_1.1 ∧ -x_1.1 ≤ (9223372036854775807 : Int)) ∧ (if -x_1.1 > x_1.1 then -x_1.1 else x_1.1, ()) = ((↑(Int.gcd x.1 x.2.1) : Int), ()))
theorem w_rcommon (y : El sp_rcommon.q) (x : Els sp_rcommon.ps) : aW c_rcommon (iv_rcommon y x) Tryz.f127 sp_rcommon y x = F_rcommon y x := by kernel_rfl
theorem m_rcommon (y : El (.un)) (x : Els [.it .i64, .it .i64]) (h2 : wfE (.un) y) (h3 : wfEs [.it .i64, .it .i64] x) (h4 : x.1.natAbs ≤ 10000000000 ∧ x.2.1.natAbs ≤ 10000000000) : F_rcommon y x := by
  unfold F_rcommon
  obtain ⟨h5, h6⟩ := h4
  refine ⟨⟨(x.1, x.2.1), rfl, rfl, rfl, h5, h6⟩, fun i hi => ?_⟩
  obtain ⟨i1, i2, i3⟩ := hi
  refine ⟨fun h => ?_, fun h => ⟨by omega, ?_⟩⟩
  · have h : i.2 ≠ 0 := by simpa using h
    have hp : 0 < i.2.natAbs := Int.natAbs_pos.2 h
    have hm : (i.1.tmod i.2).natAbs < i.2.natAbs := by rw [Int.natAbs_tmod]; exact Nat.mod_lt _ hp
    exact ⟨h, (i.2, i.1.tmod i.2), rfl, rfl, ⟨(gcd_tstep i.1 i.2).trans i1, i3, by show (i.1.tmod i.2).natAbs ≤ _; omega⟩, hm⟩
  · have h : i.2 = 0 := by simpa using h
    rw [h, Int.gcd_zero_right] at i1
    rw [abs_if, i1]
theorem fo_rcommon : FnOk Tryz.prog 127 sp_rcommon := fnOk_of (C := c_rcommon) iv_rcommon Tryz.func127 rfl (by kernel_rfl) tys_ok prims_nil mixed_ (Nat.le_refl _) rfl fun y x h1 h2 h3 h4 =>
  Eq.mpr (w_rcommon y x) (m_rcommon y x h2 h3 h4)
noncomputable def sp_ngcd : Spec := { q := .un, ps := [.it .i64, .it .i64], rs := [.it .i64], fresh := true, pre := fun _ x => some (x.1.natAbs ≤ 10000000000 ∧ x.2.1.natAbs ≤ 10000000000), post := fun _ x => ((), (((Int.gcd x.1 x.2.1 : Nat) : Int), ())) }
noncomputable def iv_ngcd (y : El sp_ngcd.q) (x : Els sp_ngcd.ps) : Nat → Option Inv := fun k => if k = 0 then some { X := Int × Int, tm := fun i => [(0, .c (.sc (.int .i64 i.1))), (1, .c (.sc (.int .i64 i.2)))], ob := fun _ => [], n := 1, I := fun i => Int.gcd i.1 i.2 = Int.gcd x.1 x.2.1 ∧ i.1.natAbs ≤ 10000000000 ∧ i.2.natAbs ≤ 10000000000, μ := fun i => i.2.natAbs } else none
noncomputable abbrev c_ngcd : Cfg := cfgS (Tryz.f128).ntmps false []
def F_ngcd (y : El sp_ngcd.q) (x : Els sp_ngcd.ps) : Prop :=
  (∃ (x_1 : Int × Int), x_1.1 = x.1 ∧ x_1.2 = x.2.1 ∧ x_1.1.gcd x_1.2 = Int.gcd x.1 x.2.1 ∧ x_1.1.natAbs ≤ (10000000000 : Nat) ∧ x_1.2.natAbs ≤ (10000000000 : Nat)) ∧ ∀ (x_1 : Int × Int), x_1.1.gcd x_1.2 = Int.gcd x.1 x.2.1 ∧ x_1.1.natAbs ≤ (10000000000 : Nat) ∧ x_1.2.natAbs ≤ (10000000000 : Nat) → ((x_1.2 != (0 : Int)) = true → x_1.2 ≠ (0 : Int) ∧ ∃ (x' : Int × Int), x'.1 = x_1.2 ∧ x'.2 = x_1.1.tmod x_1.2 ∧ (x'.1.gcd x'.2 = Int.gcd x.1 x.2.1 ∧ x'.1.natAbs ≤ (10000000000 : Nat) ∧ x'.2.natAbs ≤ (10000000000 : Nat)) ∧ x'.2.natAbs < x_1.2.natAbs) ∧ ((x_1.2 != (0 : Int)) = false → ((-9223372036854775808 : Int) ≤ -x_1.1 ∧ -x_1.1 ≤ (9223372036854775807 : Int)) ∧ (if -x_1.1 > x_1.1 then -x_1.1 else x_1.1, ()) = ((↑(Int.gcd x.1 x.2.1) : Int), ()))
theorem w_ngcd (y : El sp_ngcd.q) (x : Els sp_ngcd.ps) : aW c_ngcd (iv_ngcd y x) Tryz.f128 sp_ngcd y x = F_ngcd y x := by kernel_rfl
theorem m_ngcd (y : El (.un)) (x : Els [.it .i64, .it .i64]) (h2 : wfE (.un) y) (h3 : wfEs [.it .i64, .it .i64] x) (h4 : x.1.natAbs ≤ 10000000000 ∧ x.2.1.natAbs ≤ 10000000000) : F_ngcd y x := by
  unfold F_ngcd
  obtain ⟨h5, h6⟩ := h4
  refine ⟨⟨(x.1, x.2.1), rfl, rfl, rfl, h5, h6⟩, fun i hi => ?_⟩
  obtain ⟨i1, i2, i3⟩ := hi
  refine ⟨fun h => ?_, fun h => ⟨by omega, ?_⟩⟩
  · have h : i.2 ≠ 0 := by simpa using h
    have hp : 0 < i.2.natAbs := Int.natAbs_pos.2 h
    have hm : (i.1.tmod i.2).natAbs < i.2.natAbs := by rw [Int.natAbs_tmod]; exact Nat.mod_lt _ hp
    exact ⟨h, (i.2, i.1.tmod i.2), rfl, rfl, ⟨(gcd_tstep i.1 i.2).trans i1, i3, by show (i.1.tmod i.2).natAbs ≤ _; omega⟩, hm⟩
  · have h : i.2 = 0 := by simpa using h
    rw [h, Int.gcd_zero_right] at i1
    rw [abs_if, i1]
theorem fo_ngcd : FnOk Tryz.prog 128 sp_ngcd := fnOk_of (C := c_ngcd) iv_ngcd Tryz.func128 rfl (by kernel_rfl) tys_ok prims_nil mixed_ (Nat.le_refl _) rfl fun y x h1 h2 h3 h4 =>
  Eq.mpr (w_ngcd y x) (m_ngcd y x h2 h3 h4)
def rotC (r : El tRot) : Int := if 1 ≤ r.1 ∧ r.1 ≤ 1000 ∧ -1000 ≤ r.2.1 ∧ r.2.1 ≤ 1000 ∧ r.2.1 ≠ 0 ∧ r.1 ≠ r.2.1 ∧ r.1 ≠ -r.2.1 ∧ Int.gcd r.1 r.2.1 = 1 then 0 else 150
def rotI (a b : Int) : Prop := 1 ≤ a ∧ a ≤ 1000 ∧ -1000 ≤ b ∧ b ≤ 1000 ∧ b ≠ 0 ∧ a ≠ b ∧ a ≠ -b ∧ Int.gcd a b = 1
def rotB (r : El tRot) : Prop := rotI r.1 r.2.1
theorem rotn {r : El tRot} (h : ¬ rotB r) : ((150 : Int), ()) = (rotC r, ()) := by
  unfold rotB rotI at h
  unfold rotC
  rw [if_neg h]
theorem roty {r : El tRot} (h : rotB r) : ((0 : Int), ()) = (rotC r, ()) := by
  unfold rotB rotI at h
  unfold rotC
  rw [if_pos h]
theorem rotC_0 {r : El tRot} (h : rotC r = 0) : rotB r := by
  unfold rotC at h
  split at h
  · rename_i k; exact k
  · cases h
theorem i32_rng {a : Int} (h : IntKind.i32.min ≤ a ∧ a ≤ IntKind.i32.max) : -2147483648 ≤ a ∧ a ≤ 2147483647 := h
theorem wrap64_32 {a : Int} (h : -2147483648 ≤ a ∧ a ≤ 2147483647) : IntKind.i64.wrap a = a := wrap_id (k := .i64) (by have : IntKind.i64.min = -9223372036854775808 := rfl; omega) (by have : IntKind.i64.max = 9223372036854775807 := rfl; omega)
theorem wrap32_neg {a : Int} (h : -2147483648 < a ∧ a ≤ 2147483647) : IntKind.i32.wrap (0 - a) = -a := by
  rw [Int.zero_sub]
  exact wrap_id (k := .i32) (by have : IntKind.i32.min = -2147483648 := rfl; omega) (by have : IntKind.i32.max = 2147483647 := rfl; omega)
noncomputable def sp_rCk : Spec := { q := .un, ps := [tRot], rs := [.it .i64], fresh := true, pre := fun _ _ => none, post := fun _ x => ((), (rotC x.1, ())) }
noncomputable def iv_rCk (y : El sp_rCk.q) (x : Els sp_rCk.ps) : Nat → Option Inv := fun _ => none
noncomputable abbrev c_rCk : Cfg := cfgS (Tryz.f79).ntmps false [(127, sp_rcommon.prim)]
def F_rCk (y : El sp_rCk.q) (x : Els sp_rCk.ps) : Prop :=
  (decide (IntKind.i64.wrap x.1.1 < (1 : Int)) = true → ((150 : Int), ()) = (rotC x.1, ())) ∧ (decide (IntKind.i64.wrap x.1.1 < (1 : Int)) = false → (decide (IntKind.i64.wrap x.1.1 > (1000 : Int)) = true → ((150 : Int), ()) = (rotC x.1, ())) ∧ (decide (IntKind.i64.wrap x.1.1 > (1000 : Int)) = false → (decide (IntKind.i64.wrap x.1.2.1 < (-1000 : Int)) = true → ((150 : Int), ()) = (rotC x.1, ())) ∧ (decide (IntKind.i64.wrap x.1.2.1 < (-1000 : Int)) = false → (decide (IntKind.i64.wrap x.1.2.1 > (1000 : Int)) = true → ((150 : Int), ()) = (rotC x.1, ())) ∧ (decide (IntKind.i64.wrap x.1.2.1 > (1000 : Int)) = false → ((IntKind.i64.wrap x.1.2.1 == (0 : Int)) = true → ((150 : Int), ()) = (rotC x.1, ())) ∧ ((IntKind.i64.wrap x.1.2.1 == (0 : Int)) = false → ((IntKind.i64.wrap x.1.1 == IntKind.i64.wrap x.1.2.1) = true → ((150 : Int), ()) = (rotC x.1, ())) ∧ ((IntKind.i64.wrap x.1.1 == IntKind.i64.wrap x.1.2.1) = false → ((-9223372036854775808 : Int) ≤ -IntKind.i64.wrap x.1.2.1 ∧ -IntKind.i64.wrap x.1.2.1 ≤ (9223372036854775807 : Int)) ∧ ((IntKind.i64.wrap x.1.1 == -IntKind.i64.wrap x.1.2.1) = true → ((150 : Int), ()) = (rotC x.1, ())) ∧ ((IntKind.i64.wrap x.1.1 == -IntKind.i64.wrap x.1.2.1) = false → ((IntKind.i64.wrap x.1.1).natAbs ≤ (10000000000 : Nat) ∧ (IntKind.i64.wrap x.1.2.1).natAbs ≤ (10000000000 : Nat)) ∧ ∀ (r : Ro [Ty.it IntKind.i64]), r = ((), (↑((IntKind.i64.wrap x.1.1).gcd (IntKind.i64.wrap x.1.2.1)) : Int), ()) → ((r.2.1 != (1 : Int)) = true → ((150 : Int), ()) = (rotC x.1, ())) ∧ ((r.2.1 != (1 : Int)) = false → ((0 : Int), ()) = (rotC x.1, ())))))))))
theorem w_rCk (y : El sp_rCk.q) (x : Els sp_rCk.ps) : aW c_rCk (iv_rCk y x) Tryz.f79 sp_rCk y x = F_rCk y x := by kernel_rfl
theorem m_rCk (y : El (.un)) (x : Els [tRot]) (h2 : wfE (.un) y) (h3 : wfEs [tRot] x) : F_rCk y x := by
  unfold F_rCk
  have r1 := i32_rng h3.1.1
  have r2 := i32_rng h3.1.2.1
  simp only [wrap64_32 r1, wrap64_32 r2]
  refine ⟨fun h => rotn (r := x.1) fun c => ?_, fun h1 => ⟨fun h => rotn (r := x.1) fun c => ?_, fun h2 => ⟨fun h => rotn (r := x.1) fun c => ?_, fun h3 => ⟨fun h => rotn (r := x.1) fun c => ?_, fun h4 => ⟨fun h => rotn (r := x.1) fun c => ?_, fun h5 => ⟨fun h => rotn (r := x.1) fun c => ?_, fun h6 => ?_⟩⟩⟩⟩⟩⟩
  · unfold rotB rotI at c; have h := ltT h; omega
  · unfold rotB rotI at c; have h := gtT h; omega
  · unfold rotB rotI at c; have h := ltT h; omega
  · unfold rotB rotI at c; have h := gtT h; omega
  · unfold rotB rotI at c; have h := eqT h; omega
  · unfold rotB rotI at c; have h := eqT h; omega
  have h1 := ltF h1
  have h2 := gtF h2
  have h3 := ltF h3
  have h4 := gtF h4
  have h5 := eqF h5
  have h6 := eqF h6
  refine ⟨⟨by omega, by omega⟩, ?_⟩
  refine ⟨fun h => rotn (r := x.1) fun c => ?_, fun h7 => ⟨⟨?_, ?_⟩, ?_⟩⟩
  · unfold rotB rotI at c
    have h := eqT h
    omega
  · omega
  · omega
  have h7 := eqF h7
  rintro _ rfl
  refine ⟨fun h => rotn (r := x.1) fun c => ?_, fun h8 => roty (r := x.1) ⟨by omega, by omega, by omega, by omega, h5, h6, h7, ?_⟩⟩
  · unfold rotB rotI at c
    have h := neT h
    exact h (by rw [c.2.2.2.2.2.2.2]; rfl)
  · have h := neF h8
    exact Int.ofNat_inj.1 h
theorem fo_rCk : FnOk Tryz.prog 79 sp_rCk := fnOk_of (C := c_rCk) iv_rCk Tryz.func79 rfl (by kernel_rfl) tys_ok (prims_cons (spec_prim fo_rcommon) prims_nil) mixed_ (Nat.le_refl _) rfl fun y x h1 h2 h3 h4 =>
  Eq.mpr (w_rCk y x) (m_rCk y x h2 h3)
noncomputable def sp_nRCk : Spec := { q := .un, ps := [tRot], rs := [.it .i64], fresh := true, pre := fun _ _ => none, post := fun _ x => ((), (rotC x.1, ())) }
noncomputable def iv_nRCk (y : El sp_nRCk.q) (x : Els sp_nRCk.ps) : Nat → Option Inv := fun _ => none
noncomputable abbrev c_nRCk : Cfg := cfgS (Tryz.f80).ntmps false [(128, sp_ngcd.prim)]
def F_nRCk (y : El sp_nRCk.q) (x : Els sp_nRCk.ps) : Prop :=
  (decide (x.1.1 < (1 : Int)) = true → ((150 : Int), ()) = (rotC x.1, ())) ∧ (decide (x.1.1 < (1 : Int)) = false → (decide (x.1.1 > (1000 : Int)) = true → ((150 : Int), ()) = (rotC x.1, ())) ∧ (decide (x.1.1 > (1000 : Int)) = false → (decide (x.1.2.1 < (-1000 : Int)) = true → ((150 : Int), ()) = (rotC x.1, ())) ∧ (decide (x.1.2.1 < (-1000 : Int)) = false → (decide (x.1.2.1 > (1000 : Int)) = true → ((150 : Int), ()) = (rotC x.1, ())) ∧ (decide (x.1.2.1 > (1000 : Int)) = false → ((x.1.2.1 == (0 : Int)) = true → ((150 : Int), ()) = (rotC x.1, ())) ∧ ((x.1.2.1 == (0 : Int)) = false → ((x.1.1 == x.1.2.1) = true → ((150 : Int), ()) = (rotC x.1, ())) ∧ ((x.1.1 == x.1.2.1) = false → ((x.1.1 == IntKind.i32.wrap ((0 : Int) - x.1.2.1)) = true → ((150 : Int), ()) = (rotC x.1, ())) ∧ ((x.1.1 == IntKind.i32.wrap ((0 : Int) - x.1.2.1)) = false → ((IntKind.i64.wrap x.1.1).natAbs ≤ (10000000000 : Nat) ∧ (IntKind.i64.wrap x.1.2.1).natAbs ≤ (10000000000 : Nat)) ∧ ∀ (r : Ro [Ty.it IntKind.i64]), r = ((), (↑((IntKind.i64.wrap x.1.1).gcd (IntKind.i64.wrap x.1.2.1)) : Int), ()) → ((r.2.1 != (1 : Int)) = true → ((150 : Int), ()) = (rotC x.1, ())) ∧ ((r.2.1 != (1 : Int)) = false → ((0 : Int), ()) = (rotC x.1, ())))))))))
theorem w_nRCk (y : El sp_nRCk.q) (x : Els sp_nRCk.ps) : aW c_nRCk (iv_nRCk y x) Tryz.f80 sp_nRCk y x = F_nRCk y x := by kernel_rfl
theorem m_nRCk (y : El (.un)) (x : Els [tRot]) (h2 : wfE (.un) y) (h3 : wfEs [tRot] x) : F_nRCk y x := by
  unfold F_nRCk
  have r1 := i32_rng h3.1.1
  have r2 := i32_rng h3.1.2.1
  simp only [wrap64_32 r1, wrap64_32 r2]
  refine ⟨fun h => rotn (r := x.1) fun c => ?_, fun h1 => ⟨fun h => rotn (r := x.1) fun c => ?_, fun h2 => ⟨fun h => rotn (r := x.1) fun c => ?_, fun h3 => ⟨fun h => rotn (r := x.1) fun c => ?_, fun h4 => ⟨fun h => rotn (r := x.1) fun c => ?_, fun h5 => ⟨fun h => rotn (r := x.1) fun c => ?_, fun h6 => ?_⟩⟩⟩⟩⟩⟩
  · unfold rotB rotI at c; have h := ltT h; omega
  · unfold rotB rotI at c; have h := gtT h; omega
  · unfold rotB rotI at c; have h := ltT h; omega
  · unfold rotB rotI at c; have h := gtT h; omega
  · unfold rotB rotI at c; have h := eqT h; omega
  · unfold rotB rotI at c; have h := eqT h; omega
  have h1 := ltF h1
  have h2 := gtF h2
  have h3 := ltF h3
  have h4 := gtF h4
  have h5 := eqF h5
  have h6 := eqF h6
  simp only [wrap32_neg (a := x.1.2.1) ⟨by omega, by omega⟩]
  refine ⟨fun h => rotn (r := x.1) fun c => ?_, fun h7 => ⟨⟨?_, ?_⟩, ?_⟩⟩
  · unfold rotB rotI at c
    have h := eqT h
    omega
  · omega
  · omega
  have h7 := eqF h7
  rintro _ rfl
  refine ⟨fun h => rotn (r := x.1) fun c => ?_, fun h8 => roty (r := x.1) ⟨by omega, by omega, by omega, by omega, h5, h6, h7, ?_⟩⟩
  · unfold rotB rotI at c
    have h := neT h
    exact h (by rw [c.2.2.2.2.2.2.2]; rfl)
  · have h := neF h8
    exact Int.ofNat_inj.1 h
theorem fo_nRCk : FnOk Tryz.prog 80 sp_nRCk := fnOk_of (C := c_nRCk) iv_nRCk Tryz.func80 rfl (by kernel_rfl) tys_ok (prims_cons (spec_prim fo_ngcd) prims_nil) mixed_ (Nat.le_refl _) rfl fun y x h1 h2 h3 h4 =>
  Eq.mpr (w_nRCk y x) (m_nRCk y x h2 h3)
def tchk (a : El tTide) : Int := if nameS a.1 = false then 4 else if rotC a.2.1 ≠ 0 then rotC a.2.1 else gchk (toGa a.2.2.1)
noncomputable def sp_tCk : Spec := { q := .un, ps := [tTide], rs := [.it .i64], fresh := true, pre := fun _ _ => none, post := fun _ x => ((), (tchk x.1, ())) }
noncomputable def iv_tCk (y : El sp_tCk.q) (x : Els sp_tCk.ps) : Nat → Option Inv := fun _ => none
noncomputable abbrev c_tCk : Cfg := cfgS (Tryz.f53).ntmps false [(101, sp_tName.prim), (79, sp_rCk.prim), (102, sp_gCheck.prim)]
def F_tCk (y : El sp_tCk.q) (x : Els sp_tCk.ps) : Prop :=
  ∀ (r : Ro [Ty.bo]), r = ((), nameS x.1.1, ()) → ((!r.2.1) = true → ((4 : Int), ()) = (tchk x.1, ())) ∧ ((!r.2.1) = false → ∀ (r : Ro [Ty.it IntKind.i64]), r = ((), rotC x.1.2.1, ()) → ((r.2.1 != (0 : Int)) = true → r.2 = (tchk x.1, ())) ∧ ((r.2.1 != (0 : Int)) = false → ∀ (r : Ro [Ty.it IntKind.i64]), r = ((), gchk (toGa x.1.2.2.1), ()) → r.2 = (tchk x.1, ())))
theorem w_tCk (y : El sp_tCk.q) (x : Els sp_tCk.ps) : aW c_tCk (iv_tCk y x) Tryz.f53 sp_tCk y x = F_tCk y x := by kernel_rfl
theorem m_tCk (y : El (.un)) (x : Els [tTide]) (h2 : wfE (.un) y) (h3 : wfEs [tTide] x) : F_tCk y x := by
  unfold F_tCk
  rintro _ rfl
  refine ⟨fun h => ?_, fun h => ?_⟩
  · unfold tchk
    rw [if_pos (ntt h : nameS x.1.1 = false)]
  · rintro _ rfl
    refine ⟨fun k => ?_, fun k => ?_⟩
    · unfold tchk
      rw [if_neg (by rw [(nff h : nameS x.1.1 = true)]; decide), if_pos (ne_ k)]
    · rintro _ rfl
      unfold tchk
      rw [if_neg (by rw [(nff h : nameS x.1.1 = true)]; decide), if_neg (fun c => c (eq_ k))]
theorem fo_tCk : FnOk Tryz.prog 53 sp_tCk := fnOk_of (C := c_tCk) iv_tCk Tryz.func53 rfl (by kernel_rfl) tys_ok (prims_cons (spec_prim fo_tName) (prims_cons (spec_prim fo_rCk) (prims_cons (spec_prim fo_gCheck) prims_nil))) mixed_ (Nat.le_refl _) rfl fun y x h1 h2 h3 h4 =>
  Eq.mpr (w_tCk y x) (m_tCk y x h2 h3)
noncomputable def sp_nTCk : Spec := { q := .un, ps := [tTide], rs := [.it .i64], fresh := true, pre := fun _ _ => none, post := fun _ x => ((), (tchk x.1, ())) }
noncomputable def iv_nTCk (y : El sp_nTCk.q) (x : Els sp_nTCk.ps) : Nat → Option Inv := fun _ => none
noncomputable abbrev c_nTCk : Cfg := cfgS (Tryz.f56).ntmps false [(105, sp_nName.prim), (80, sp_nRCk.prim), (94, sp_hCheck.prim)]
def F_nTCk (y : El sp_nTCk.q) (x : Els sp_nTCk.ps) : Prop :=
  ∀ (r : Ro [Ty.bo]), r = ((), nameS x.1.1, ()) → ((!r.2.1) = true → ((4 : Int), ()) = (tchk x.1, ())) ∧ ((!r.2.1) = false → ∀ (r : Ro [Ty.it IntKind.i64]), r = ((), rotC x.1.2.1, ()) → ((r.2.1 != (0 : Int)) = true → r.2 = (tchk x.1, ())) ∧ ((r.2.1 != (0 : Int)) = false → ∀ (r : Ro [Ty.it IntKind.i64]), r = ((), gchk (toGa x.1.2.2.1), ()) → r.2 = (tchk x.1, ())))
theorem w_nTCk (y : El sp_nTCk.q) (x : Els sp_nTCk.ps) : aW c_nTCk (iv_nTCk y x) Tryz.f56 sp_nTCk y x = F_nTCk y x := by kernel_rfl
theorem m_nTCk (y : El (.un)) (x : Els [tTide]) (h2 : wfE (.un) y) (h3 : wfEs [tTide] x) : F_nTCk y x := by
  unfold F_nTCk
  rintro _ rfl
  refine ⟨fun h => ?_, fun h => ?_⟩
  · unfold tchk
    rw [if_pos (ntt h : nameS x.1.1 = false)]
  · rintro _ rfl
    refine ⟨fun k => ?_, fun k => ?_⟩
    · unfold tchk
      rw [if_neg (by rw [(nff h : nameS x.1.1 = true)]; decide), if_pos (ne_ k)]
    · rintro _ rfl
      unfold tchk
      rw [if_neg (by rw [(nff h : nameS x.1.1 = true)]; decide), if_neg (fun c => c (eq_ k))]
theorem fo_nTCk : FnOk Tryz.prog 56 sp_nTCk := fnOk_of (C := c_nTCk) iv_nTCk Tryz.func56 rfl (by kernel_rfl) tys_ok (prims_cons (spec_prim fo_nName) (prims_cons (spec_prim fo_nRCk) (prims_cons (spec_prim fo_hCheck) prims_nil))) mixed_ (Nat.le_refl _) rfl fun y x h1 h2 h3 h4 =>
  Eq.mpr (w_nTCk y x) (m_nTCk y x h2 h3)
def sameT (a b : El tTide) : Bool := decide (a.1 = b.1) && decide (a.2.1 = b.2.1) && decide (toGa a.2.2.1 = toGa b.2.2.1)
theorem eq_rot (a b : El tRot) : eqV tRot a b = decide (a = b) := by
  obtain ⟨a, c, _⟩ := a
  obtain ⟨b, d, _⟩ := b
  rw [Bool.eq_iff_iff, decide_eq_true_eq]
  simp [eqV]
theorem sameT_n1 {a b : El tTide} (h : decide (a.1 = b.1) = false) : (false, ()) = (sameT a b, ()) := by
  unfold sameT
  rw [h]
  rfl
theorem sameT_n2 {a b : El tTide} (h : decide (a.2.1 = b.2.1) = false) : (false, ()) = (sameT a b, ()) := by
  unfold sameT
  rw [h]
  simp
theorem sameT_y {a b : El tTide} {d : Bool} (h1 : decide (a.1 = b.1) = true) (h2 : decide (a.2.1 = b.2.1) = true) (h : decide (toGa a.2.2.1 = toGa b.2.2.1) = d) : (d, ()) = (sameT a b, ()) := by
  unfold sameT
  rw [h1, h2, h]
  rfl
noncomputable def sp_kSameTide : Spec := { q := .un, ps := [tTide, tTide], rs := [.bo], fresh := true, pre := fun _ _ => none, post := fun _ x => ((), (sameT x.1 x.2.1, ())) }
noncomputable def iv_kSameTide (y : El sp_kSameTide.q) (x : Els sp_kSameTide.ps) : Nat → Option Inv := fun _ => none
noncomputable abbrev c_kSameTide : Cfg := cfgS (Tryz.f116).ntmps false [(16, sp_kSameGauss.prim)]
def F_kSameTide (y : El sp_kSameTide.q) (x : Els sp_kSameTide.ps) : Prop :=
  ((ByteArray.toList x.1.1 == ByteArray.toList x.2.1.1) = true → (eqV tRot x.1.2.1 x.2.1.2.1 = true → ∀ (r : Ro [Ty.bo]), r = ((), decide (toGa x.1.2.2.1 = toGa x.2.1.2.2.1), ()) → r.2 = (sameT x.1 x.2.1, ())) ∧ (eqV tRot x.1.2.1 x.2.1.2.1 = false → (false, ()) = (sameT x.1 x.2.1, ()))) ∧ ((ByteArray.toList x.1.1 == ByteArray.toList x.2.1.1) = false → (false, ()) = (sameT x.1 x.2.1, ()))
theorem w_kSameTide (y : El sp_kSameTide.q) (x : Els sp_kSameTide.ps) : aW c_kSameTide (iv_kSameTide y x) Tryz.f116 sp_kSameTide y x = F_kSameTide y x := by kernel_rfl
theorem m_kSameTide (y : El (.un)) (x : Els [tTide, tTide]) (h2 : wfE (.un) y) (h3 : wfEs [tTide, tTide] x) : F_kSameTide y x := by
  unfold F_kSameTide
  simp only [ba_eq, eq_rot]
  refine ⟨fun h => ⟨fun k => ?_, fun k => sameT_n2 k⟩, fun h => sameT_n1 h⟩
  rintro _ rfl
  exact sameT_y h k rfl
theorem fo_kSameTide : FnOk Tryz.prog 116 sp_kSameTide := fnOk_of (C := c_kSameTide) iv_kSameTide Tryz.func116 rfl (by kernel_rfl) tys_ok (prims_cons (spec_prim fo_kSameGauss) prims_nil) mixed_ (Nat.le_refl _) rfl fun y x h1 h2 h3 h4 =>
  Eq.mpr (w_kSameTide y x) (m_kSameTide y x h2 h3)
noncomputable def sp_kLentTide : Spec := { q := .un, ps := [tTide], rs := [tTideL], fresh := true, pre := fun _ x => some (FewG (toGa x.1.2.2.1)), post := fun _ x => ((), (x.1, ())) }
noncomputable def iv_kLentTide (y : El sp_kLentTide.q) (x : Els sp_kLentTide.ps) : Nat → Option Inv := fun _ => none
noncomputable abbrev c_kLentTide : Cfg := cfgS (Tryz.f8).ntmps false [(50, sp_kLentG.prim)]
def F_kLentTide (y : El sp_kLentTide.q) (x : Els sp_kLentTide.ps) : Prop :=
  (((toFr x.1.2.2.1.1).num.length ≤ (35184372087808 : Nat) ∧ (toFr x.1.2.2.1.1).den.length ≤ (35184372087808 : Nat)) ∧ (toFr x.1.2.2.1.2.1).num.length ≤ (35184372087808 : Nat) ∧ (toFr x.1.2.2.1.2.1).den.length ≤ (35184372087808 : Nat)) ∧ ∀ (r : Ro [tGL]), r = ((), x.1.2.2) → ((x.1.1, x.1.2.1, r.2), ()) = x
theorem w_kLentTide (y : El sp_kLentTide.q) (x : Els sp_kLentTide.ps) : aW c_kLentTide (iv_kLentTide y x) Tryz.f8 sp_kLentTide y x = F_kLentTide y x := by kernel_rfl
theorem m_kLentTide (y : El (.un)) (x : Els [tTide]) (h2 : wfE (.un) y) (h3 : wfEs [tTide] x) (h4 : FewG (toGa x.1.2.2.1)) : F_kLentTide y x := by
  unfold F_kLentTide
  refine ⟨h4, ?_⟩
  rintro _ rfl
  rfl
theorem fo_kLentTide : FnOk Tryz.prog 8 sp_kLentTide := fnOk_of (C := c_kLentTide) iv_kLentTide Tryz.func8 rfl (by kernel_rfl) tys_ok (prims_cons (spec_prim fo_kLentG) prims_nil) mixed_ (Nat.le_refl _) rfl fun y x h1 h2 h3 h4 =>
  Eq.mpr (w_kLentTide y x) (m_kLentTide y x h2 h3 h4)
noncomputable def sp_kKeptTide : Spec := { q := .un, ps := [tTideL, tTide], rs := [.bo], fresh := true, pre := fun _ x => some (x.1.1 = x.2.1.1 ∧ x.1.2.1 = x.2.1.2.1 ∧ toGaL x.1.2.2.1 = toGa x.2.1.2.2.1 ∧ FewG (toGa x.2.1.2.2.1)), post := fun _ _ => ((), (true, ())) }
noncomputable def iv_kKeptTide (y : El sp_kKeptTide.q) (x : Els sp_kKeptTide.ps) : Nat → Option Inv := fun _ => none
noncomputable abbrev c_kKeptTide : Cfg := cfgS (Tryz.f18).ntmps false [(67, sp_kKeptG.prim)]
def F_kKeptTide (y : El sp_kKeptTide.q) (x : Els sp_kKeptTide.ps) : Prop :=
  ((ByteArray.toList x.1.1 == ByteArray.toList x.2.1.1) = true → (eqV tRot x.1.2.1 x.2.1.2.1 = true → (toGaL x.1.2.2.1 = toGa x.2.1.2.2.1 ∧ ((toFr x.2.1.2.2.1.1).num.length ≤ (35184372087808 : Nat) ∧ (toFr x.2.1.2.2.1.1).den.length ≤ (35184372087808 : Nat)) ∧ (toFr x.2.1.2.2.1.2.1).num.length ≤ (35184372087808 : Nat) ∧ (toFr x.2.1.2.2.1.2.1).den.length ≤ (35184372087808 : Nat)) ∧ ∀ (r : Ro [Ty.bo]), r = ((), true, ()) → r.2 = (true, ())) ∧ (eqV tRot x.1.2.1 x.2.1.2.1 = false → (false, ()) = (true, ()))) ∧ ((ByteArray.toList x.1.1 == ByteArray.toList x.2.1.1) = false → (false, ()) = (true, ()))
theorem w_kKeptTide (y : El sp_kKeptTide.q) (x : Els sp_kKeptTide.ps) : aW c_kKeptTide (iv_kKeptTide y x) Tryz.f18 sp_kKeptTide y x = F_kKeptTide y x := by kernel_rfl
theorem m_kKeptTide (y : El (.un)) (x : Els [tTideL, tTide]) (h2 : wfE (.un) y) (h3 : wfEs [tTideL, tTide] x) (h4 : x.1.1 = x.2.1.1 ∧ x.1.2.1 = x.2.1.2.1 ∧ toGaL x.1.2.2.1 = toGa x.2.1.2.2.1 ∧ FewG (toGa x.2.1.2.2.1)) : F_kKeptTide y x := by
  unfold F_kKeptTide
  obtain ⟨e1, e2, e3, e4⟩ := h4
  simp only [ba_eq, eq_rot]
  refine ⟨fun _ => ⟨fun _ => ⟨⟨e3, e4⟩, by rintro _ rfl; rfl⟩, fun h => absurd e2 (of_decide_eq_false h)⟩, fun h => absurd e1 (of_decide_eq_false h)⟩
theorem fo_kKeptTide : FnOk Tryz.prog 18 sp_kKeptTide := fnOk_of (C := c_kKeptTide) iv_kKeptTide Tryz.func18 rfl (by kernel_rfl) tys_ok (prims_cons (spec_prim fo_kKeptG) prims_nil) mixed_ (Nat.le_refl _) rfl fun y x h1 h2 h3 h4 =>
  Eq.mpr (w_kKeptTide y x) (m_kKeptTide y x h2 h3 h4)
def numQ (a : El tTideQ) : List (El tGQ) := [a.2.2.1]
def tysQ : List (Nat × (Ty × Nat)) := [(26, (tRQ, 0)), (28, (tGQ, 0)), (51, (.sl tGQ, 28)), (48, (.sl tRQ, 26)), (24, (.oq, 0)), (4, (.bo, 0)), (3, (.it .i64, 0)),
 (21, (.it .i32, 0)),
 (23, (tRot, 0)),
 (30, (tTideQ, 0)),
 (31, (.sl tTideQ, 30)),
 (9, (.st, 0)),
  (2, (.it .i64, 0))]
theorem tysQ_ok : tyB Tryz.prog tysQ tysQ = true := by kernel_rfl
theorem take_fl {α β : Type} {f : α → List β} {l : List α} {i : Nat} (h : i < l.length) (d : α) : (l.take (i + 1)).flatMap f = (l.take i).flatMap f ++ f (l.getD i d) := by
  rw [List.take_add_one, List.getElem?_eq_getElem h, Option.toList_some, List.flatMap_append, List.getD_eq_getElem?_getD, List.getElem?_eq_getElem h]
  simp
theorem fl_len1 {α β : Type} {f : α → List β} {c : Nat} (hf : ∀ x, (f x).length = c) (l : List α) : (l.flatMap f).length = c * l.length := len_flat hf l
noncomputable def sp_movN : Spec := { q := .un, ps := [.sl tTideQ], rs := [.sl tGQ], fresh := true, pre := fun _ x => some (x.1.length ≤ 5000), post := fun _ x => ((), (x.1.flatMap numQ, ())) }
noncomputable def iv_movN (y : El sp_movN.q) (x : Els sp_movN.ps) : Nat → Option Inv := fun k => if k = 0 then some { X := Nat, tm := fun i => [(0, .c (.sl tTideQ x.1)), (3, .c (.ow 1)), (4, .c (.sc (.int .i64 i)))], ob := fun i => [(1, .ty 28 tGQ ((x.1.take i).flatMap numQ) 0)], n := 2, I := fun i => i ≤ x.1.length, μ := fun i => x.1.length - i } else none
noncomputable abbrev c_movN : Cfg := { cfgS (Tryz.f22).ntmps false [] with ty := tysQ }
def F_movN (y : El sp_movN.q) (x : Els sp_movN.ps) : Prop :=
  (∃ (x_1 : Nat), x.1 = x.1 ∧ (↑x_1 : Int) = (0 : Int) ∧ List.flatMap numQ (List.take x_1 x.1) = [] ∧ x_1.le (List.length x.1)) ∧ ∀ (x_1 : Nat), x_1.le (List.length x.1) → (decide ((↑x_1 : Int) < (x.1.length : Int)) = true → ((0 : Int) ≤ (↑x_1 : Int) ∧ (↑x_1 : Int) < (x.1.length : Int)) ∧ (List.flatMap numQ (List.take x_1 x.1)).length + [(List.getD x.1 (↑x_1 : Int).toNat (dfl tTideQ)).2.2.1].length ≤ (1073741824 : Nat) ∧ ((-9223372036854775808 : Int) ≤ (↑x_1 : Int) + (1 : Int) ∧ (↑x_1 : Int) + (1 : Int) ≤ (9223372036854775807 : Int)) ∧ ∃ (x' : Nat), x.1 = x.1 ∧ (↑x' : Int) = (↑x_1 : Int) + (1 : Int) ∧ List.flatMap numQ (List.take x' x.1) = List.flatMap numQ (List.take x_1 x.1) ++ [(List.getD x.1 (↑x_1 : Int).toNat (dfl tTideQ)).2.2.1] ∧ x'.le (List.length x.1) ∧ List.length x.1 - x' < List.length x.1 - x_1) ∧ (decide ((↑x_1 : Int) < (x.1.length : Int)) = false → (List.flatMap numQ (List.take x_1 x.1), ()) = (List.flatMap numQ x.1, ()))
theorem w_movN (y : El sp_movN.q) (x : Els sp_movN.ps) : aW c_movN (iv_movN y x) Tryz.f22 sp_movN y x = F_movN y x := by kernel_rfl
theorem m_movN (y : El (.un)) (x : Els [.sl tTideQ]) (h2 : wfE (.un) y) (h3 : wfEs [.sl tTideQ] x) (h4 : x.1.length ≤ 5000) : F_movN y x := by
  unfold F_movN
  have hL : x.1.length ≤ 5000 := h4
  refine ⟨⟨0, rfl, rfl, rfl, Nat.zero_le _⟩, fun i hi => ⟨fun h => ?_, fun h => ?_⟩⟩
  all_goals have hi : i ≤ x.1.length := hi
  · have h := ltT h
    have hi' : i < x.1.length := by omega
    have fl := fl_len1 (f := numQ) (c := 1) (fun _ => rfl) (x.1.take i)
    rw [List.length_take] at fl
    refine ⟨⟨by omega, h⟩, ?_, ⟨by omega, by omega⟩, i + 1, rfl, rfl, ?_, hi', by omega⟩
    · rw [fl]
      show _ + 1 ≤ _
      omega
    · rw [Int.toNat_natCast]
      exact take_fl hi' _
  · have h := ltF h
    rw [List.take_of_length_le (by omega)]
theorem fo_movN : FnOk Tryz.prog 22 sp_movN := fnOk_of (C := c_movN) iv_movN Tryz.func22 rfl (by kernel_rfl) tysQ_ok prims_nil mixed_ (Nat.le_refl _) rfl fun y x h1 h2 h3 h4 =>
  Eq.mpr (w_movN y x) (m_movN y x h2 h3 h4)
def numG (a : El tTide) : List (El tG) := [a.2.2.1]
theorem mov_num : Mov tTide tG numG numQ := fun w x vs b h => by
  obtain ⟨u1, u1', c1, c1', rfl, rfl, h1, h2⟩ := h
  obtain ⟨u2, u2', c2, c2', rfl, rfl, h3, h4⟩ := h2
  obtain ⟨u3, u3', c3, c3', rfl, rfl, h5, h6⟩ := h4
  obtain ⟨rfl, rfl⟩ := h6
  have l1 : u1.length = 1 := h1.szd rfl
  have l2 : u2.length = 2 := h3.szd rfl
  have l3 : u3.length = 6 := h5.szd rfl
  have e1 : c1 = [] := (h1.flat_to rfl).2
  have e2 : c2 = [] := (h3.flat_to rfl).2
  have e : (opqV tTide x (u1 ++ (u2 ++ (u3 ++ [])))).2.2.1 = opqV tG x.2.2.1 u3 := by
    show opqV tG x.2.2.1 ((((u1 ++ (u2 ++ (u3 ++ []))).drop 1).drop 2).take 6) = _
    rw [List.drop_left' l1, List.drop_left' l2, List.append_nil, List.take_of_length_le (by omega)]
  have v : vcs (opq tG) (opqV tG x.2.2.1 u3) = u3 := ((h5.opq (Z' := noZ) rfl).vcs rfl).symm
  refine ⟨[c3], ?_, by rw [e1, e2]; simp⟩
  show FQ w tG [x.2.2.1] (vcs (opq tG) (opqV tTide x (u1 ++ (u2 ++ (u3 ++ [])))).2.2.1 ++ []) [c3]
  rw [e, v, List.append_nil]
  refine ⟨by rw [l3]; rfl, rfl, fun j hj b hb => ?_⟩
  cases j with
  | zero =>
    cases hb
    rw [Nat.zero_mul, List.drop_zero, List.take_of_length_le (by rw [l3]; exact Nat.le_refl _)]
    exact h5
  | succ j => simp at hb
def p_movN : Prim := p_mov tTide tG numG
theorem pr_movN : PrimOk Tryz.prog 22 p_movN := mov_prim (t := tTide) (u := tG) (Gq := numQ) fo_movN mov_num rfl rfl rfl rfl rfl rfl (by decide) (by decide)
theorem sameT_refl (a : El tTide) : sameT a a = true := by
  unfold sameT
  simp
def gint (a b : Int) : Ga := ⟨(fsmall a 1).1, (fsmall b 1).1⟩
section
variable {t r : Ga}
end
section
variable {r : El tRule}
end
noncomputable def sp_n15Zero : Spec := { q := .un, ps := [], rs := [tG], fresh := false, pre := fun _ _ => none, post := fun _ x => ((), (ofGa (gint 0 0), ())) }
noncomputable def iv_n15Zero (y : El sp_n15Zero.q) (x : Els sp_n15Zero.ps) : Nat → Option Inv := fun _ => none
noncomputable abbrev c_n15Zero : Cfg := cfgS (Tryz.f64).ntmps false [(95, sp_nSmall.prim)]
def F_n15Zero (y : El sp_n15Zero.q) (x : Els sp_n15Zero.ps) : Prop :=
  ∀ (r : Ro [tR, Ty.it IntKind.i64]), r = pR (fsmall (0 : Int) (1 : Int)) → ∀ (r_1 : Ro [tR, Ty.it IntKind.i64]), r_1 = pR (fsmall (0 : Int) (1 : Int)) → ((r.2.1, r_1.2.1, ()), ()) = (ofGa (gint (0 : Int) (0 : Int)), ())
theorem w_n15Zero (y : El sp_n15Zero.q) (x : Els sp_n15Zero.ps) : aW c_n15Zero (iv_n15Zero y x) Tryz.f64 sp_n15Zero y x = F_n15Zero y x := by kernel_rfl
theorem m_n15Zero (y : El (.un)) (x : Els []) (h2 : wfE (.un) y) (h3 : wfEs [] x) : F_n15Zero y x := by
  unfold F_n15Zero
  rintro _ rfl _ rfl
  rfl
theorem fo_n15Zero : FnOk Tryz.prog 64 sp_n15Zero := fnOk_of (C := c_n15Zero) iv_n15Zero Tryz.func64 rfl (by kernel_rfl) tys_ok (prims_cons (spec_prim fo_nSmall) prims_nil) mixed_ (Nat.le_refl _) rfl fun y x h1 h2 h3 h4 =>
  Eq.mpr (w_n15Zero y x) (m_n15Zero y x h2 h3)
def gone (r : Ga) : Ga × Int := if r = gint (-1) 0 then (Ga.zero, 7) else gadd (gint 1 0) r
theorem few_gz : FewG Ga.zero := ⟨few_zero, few_zero⟩
end Go.Proofs.YtakaehdolpmelaaGreat
