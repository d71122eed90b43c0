/- Texts of this claim, joined: B15. -/
import Derived.Test.YtifonmdcicegdaaGreatQv
set_option linter.unusedVariables false
set_option linter.unusedSimpArgs false
namespace Go.Proofs.YtifonmdcicegdaaGreat
open Go Go.RowKit

def lett (c : Int) : Bool := decide (97 ≤ c ∧ c ≤ 122) || decide (65 ≤ c ∧ c ≤ 90)
def digI (c : Int) : Bool := decide (48 ≤ c ∧ c ≤ 57)
def gi (s : ByteArray) (i : Nat) : Int := ((s.get! i).toNat : Int)
def nameS (s : ByteArray) : Bool := decide (0 < s.size ∧ s.size ≤ 20) && lett (gi s 0) && (List.range s.size).all fun i => lett (gi s i) || digI (gi s i)
theorem ntt {b : Bool} (h : (!b) = true) : b = false := by simpa using h
theorem nff {b : Bool} (h : (!b) = false) : b = true := by simpa using h
theorem ba_loop (s : ByteArray) (i : Nat) (r : List UInt8) : ByteArray.toList.loop s i r = r.reverse ++ s.data.toList.drop i := by
  by_cases h : i < s.size
  · rw [ByteArray.toList.loop, if_pos h, ba_loop s (i + 1), List.reverse_cons, List.append_assoc]
    have hl : i < s.data.toList.length := h
    rw [List.drop_eq_getElem_cons hl]
    congr 1
    show [s.get! i] ++ _ = _
    have : s.get! i = s.data.toList[i] := by
      show s.data[i]! = _
      rw [getElem!_pos s.data i h]
      simp
    rw [this]
    rfl
  · rw [ByteArray.toList.loop, if_neg h, List.drop_of_length_le (by show s.data.toList.length ≤ i; simpa using h), List.append_nil]
termination_by s.size - i
theorem ba_list (s : ByteArray) : s.toList = s.data.toList := by
  unfold ByteArray.toList
  rw [ba_loop]
  rfl
theorem ba_eq (a b : ByteArray) : (a.toList == b.toList) = decide (a = b) := by
  rw [Bool.eq_iff_iff, beq_iff_eq, decide_eq_true_eq, ba_list, ba_list]
  constructor
  · intro h
    obtain ⟨⟨a⟩⟩ := a
    obtain ⟨⟨b⟩⟩ := b
    have h : a = b := h
    rw [h]
  · intro h; rw [h]
theorem ba_0 (s : ByteArray) : (s.toList == ByteArray.toList { data := #[] }) = decide (s.size = 0) := by
  rw [Bool.eq_iff_iff, beq_iff_eq, decide_eq_true_eq, ba_list, ba_list]
  obtain ⟨⟨a⟩⟩ := s
  show a = [] ↔ a.length = 0
  simp
theorem all_succ_ {i : Nat} {f : Nat → Bool} (h : (List.range i).all f = true) (k : f i = true) : (List.range (i + 1)).all f = true := by
  rw [List.range_succ, List.all_append, h]
  simp [k]
theorem nameS_0 {s : ByteArray} (h : s.size = 0) : (false, ()) = (nameS s, ()) := by
  unfold nameS
  rw [decide_eq_false (by omega)]
  rfl
theorem nameS_long {s : ByteArray} (h : 20 < s.size) : (false, ()) = (nameS s, ()) := by
  unfold nameS
  rw [decide_eq_false (by omega)]
  rfl
theorem nameS_first {s : ByteArray} (h : lett (gi s 0) = false) : (false, ()) = (nameS s, ()) := by
  unfold nameS
  rw [h]
  simp
theorem nameS_bad {s : ByteArray} {i : Nat} (h : i < s.size) (k : (lett (gi s i) || digI (gi s i)) = false) : (false, ()) = (nameS s, ()) := by
  have : ((List.range s.size).all fun i => lett (gi s i) || digI (gi s i)) = false := by
    rw [List.all_eq_false]
    exact ⟨i, List.mem_range.2 h, by rw [k]; decide⟩
  unfold nameS
  rw [this]
  simp
theorem nameS_ok {s : ByteArray} (h : 0 < s.size) (k : s.size ≤ 20) (l : lett (gi s 0) = true) (m : ((List.range s.size).all fun i => lett (gi s i) || digI (gi s i)) = true) : (true, ()) = (nameS s, ()) := by
  unfold nameS
  rw [m, l, decide_eq_true ⟨h, k⟩]
  rfl
theorem ltT {a b : Int} (h : decide (a < b) = true) : a < b := of_decide_eq_true h
theorem ltF {a b : Int} (h : decide (a < b) = false) : b ≤ a := by have := of_decide_eq_false h; omega
theorem gtT {a b : Int} (h : decide (a > b) = true) : b < a := of_decide_eq_true h
theorem gtF {a b : Int} (h : decide (a > b) = false) : a ≤ b := by have := of_decide_eq_false h; omega
theorem eqT {a b : Int} (h : (a == b) = true) : a = b := eq_of_beq h
theorem eqF {a b : Int} (h : (a == b) = false) : a ≠ b := ne_of_beq_false h
theorem neT {a b : Int} (h : (a != b) = true) : a ≠ b := by simpa using h
theorem neF {a b : Int} (h : (a != b) = false) : a = b := by simpa using h
theorem lett_law (c : Int) : (decide (c ≥ 97) = true → (decide (c ≤ 122) = true → (true, ()) = (lett c, ())) ∧ (decide (c ≤ 122) = false → (decide (c ≥ 65) = true → (decide (c ≤ 90), ()) = (lett c, ())) ∧ (decide (c ≥ 65) = false → (false, ()) = (lett c, ())))) ∧ (decide (c ≥ 97) = false → (decide (c ≥ 65) = true → (decide (c ≤ 90), ()) = (lett c, ())) ∧ (decide (c ≥ 65) = false → (false, ()) = (lett c, ()))) := by
  unfold lett
  refine ⟨fun h => ⟨fun k => ?_, fun k => ⟨fun m => ?_, fun m => ?_⟩⟩, fun h => ⟨fun m => ?_, fun m => ?_⟩⟩
  all_goals
    simp only [decide_eq_true_eq, decide_eq_false_iff_not] at *
    refine congrArg (fun b => (b, ())) ?_
    rw [Bool.eq_iff_iff]
    simp only [Bool.or_eq_true, decide_eq_true_eq, true_iff, Bool.false_eq_true, false_iff]
    omega
theorem dig_law (c : Int) : (decide (c ≥ 48) = true → (decide (c ≤ 57), ()) = (digI c, ())) ∧ (decide (c ≥ 48) = false → (false, ()) = (digI c, ())) := by
  unfold digI
  refine ⟨fun h => ?_, fun h => ?_⟩
  all_goals
    simp only [decide_eq_true_eq, decide_eq_false_iff_not] at *
    refine congrArg (fun b => (b, ())) ?_
    rw [Bool.eq_iff_iff]
    simp only [decide_eq_true_eq, Bool.false_eq_true, false_iff]
    omega
noncomputable def sp_tletter : Spec := { q := .un, ps := [.it .u8], rs := [.bo], fresh := true, pre := fun _ _ => none, post := fun _ x => ((), (lett x.1, ())) }
noncomputable def iv_tletter (y : El sp_tletter.q) (x : Els sp_tletter.ps) : Nat → Option Inv := fun _ => none
noncomputable abbrev c_tletter : Cfg := cfgS (Tryz.f179).ntmps false []
def F_tletter (y : El sp_tletter.q) (x : Els sp_tletter.ps) : Prop :=
  (decide (x.fst ≥ (97 : Int)) = true → (decide (x.fst ≤ (122 : Int)) = true → (true, ()) = (lett x.fst, ())) ∧ (decide (x.fst ≤ (122 : Int)) = false → (decide (x.fst ≥ (65 : Int)) = true → (decide (x.fst ≤ (90 : Int)), ()) = (lett x.fst, ())) ∧ (decide (x.fst ≥ (65 : Int)) = false → (false, ()) = (lett x.fst, ())))) ∧ (decide (x.fst ≥ (97 : Int)) = false → (decide (x.fst ≥ (65 : Int)) = true → (decide (x.fst ≤ (90 : Int)), ()) = (lett x.fst, ())) ∧ (decide (x.fst ≥ (65 : Int)) = false → (false, ()) = (lett x.fst, ())))
set_option maxRecDepth 100000 in
theorem w_tletter (y : El sp_tletter.q) (x : Els sp_tletter.ps) : aw c_tletter (iv_tletter y x) (codeOf Tryz.f179) 0 (retQ c_tletter sp_tletter (Tryz.f179).results.toList y x) (startT sp_tletter x) (startO sp_tletter y) 1 = F_tletter y x := by kernel_rfl
theorem m_tletter (y : El (.un)) (x : Els [.it .u8]) (h2 : wfE (.un) y) (h3 : wfEs [.it .u8] x) : F_tletter y x := by
  unfold F_tletter
  exact lett_law x.1
set_option maxRecDepth 100000 in
theorem fo_tletter : FnOk Tryz.prog 179 sp_tletter := fnOk_of (C := c_tletter) iv_tletter Tryz.func179 rfl (by kernel_rfl) tys_ok prims_nil mixed_ (Nat.le_refl _) rfl fun y x h1 h2 h3 h4 =>
  Eq.mpr (w_tletter y x) (m_tletter y x h2 h3)
noncomputable def sp_nletter : Spec := { q := .un, ps := [.it .u8], rs := [.bo], fresh := true, pre := fun _ _ => none, post := fun _ x => ((), (lett x.1, ())) }
noncomputable def iv_nletter (y : El sp_nletter.q) (x : Els sp_nletter.ps) : Nat → Option Inv := fun _ => none
noncomputable abbrev c_nletter : Cfg := cfgS (Tryz.f180).ntmps false []
def F_nletter (y : El sp_nletter.q) (x : Els sp_nletter.ps) : Prop :=
  (decide (x.fst ≥ (97 : Int)) = true → (decide (x.fst ≤ (122 : Int)) = true → (true, ()) = (lett x.fst, ())) ∧ (decide (x.fst ≤ (122 : Int)) = false → (decide (x.fst ≥ (65 : Int)) = true → (decide (x.fst ≤ (90 : Int)), ()) = (lett x.fst, ())) ∧ (decide (x.fst ≥ (65 : Int)) = false → (false, ()) = (lett x.fst, ())))) ∧ (decide (x.fst ≥ (97 : Int)) = false → (decide (x.fst ≥ (65 : Int)) = true → (decide (x.fst ≤ (90 : Int)), ()) = (lett x.fst, ())) ∧ (decide (x.fst ≥ (65 : Int)) = false → (false, ()) = (lett x.fst, ())))
set_option maxRecDepth 100000 in
theorem w_nletter (y : El sp_nletter.q) (x : Els sp_nletter.ps) : aw c_nletter (iv_nletter y x) (codeOf Tryz.f180) 0 (retQ c_nletter sp_nletter (Tryz.f180).results.toList y x) (startT sp_nletter x) (startO sp_nletter y) 1 = F_nletter y x := by kernel_rfl
theorem m_nletter (y : El (.un)) (x : Els [.it .u8]) (h2 : wfE (.un) y) (h3 : wfEs [.it .u8] x) : F_nletter y x := by
  unfold F_nletter
  exact lett_law x.1
set_option maxRecDepth 100000 in
theorem fo_nletter : FnOk Tryz.prog 180 sp_nletter := fnOk_of (C := c_nletter) iv_nletter Tryz.func180 rfl (by kernel_rfl) tys_ok prims_nil mixed_ (Nat.le_refl _) rfl fun y x h1 h2 h3 h4 =>
  Eq.mpr (w_nletter y x) (m_nletter y x h2 h3)
noncomputable def sp_ndigit : Spec := { q := .un, ps := [.it .u8], rs := [.bo], fresh := true, pre := fun _ _ => none, post := fun _ x => ((), (digI x.1, ())) }
noncomputable def iv_ndigit (y : El sp_ndigit.q) (x : Els sp_ndigit.ps) : Nat → Option Inv := fun _ => none
noncomputable abbrev c_ndigit : Cfg := cfgS (Tryz.f181).ntmps false []
def F_ndigit (y : El sp_ndigit.q) (x : Els sp_ndigit.ps) : Prop :=
  (decide (x.fst ≥ (48 : Int)) = true → (decide (x.fst ≤ (57 : Int)), ()) = (digI x.fst, ())) ∧ (decide (x.fst ≥ (48 : Int)) = false → (false, ()) = (digI x.fst, ()))
set_option maxRecDepth 100000 in
theorem w_ndigit (y : El sp_ndigit.q) (x : Els sp_ndigit.ps) : aw c_ndigit (iv_ndigit y x) (codeOf Tryz.f181) 0 (retQ c_ndigit sp_ndigit (Tryz.f181).results.toList y x) (startT sp_ndigit x) (startO sp_ndigit y) 1 = F_ndigit y x := by kernel_rfl
theorem m_ndigit (y : El (.un)) (x : Els [.it .u8]) (h2 : wfE (.un) y) (h3 : wfEs [.it .u8] x) : F_ndigit y x := by
  unfold F_ndigit
  exact dig_law x.1
set_option maxRecDepth 100000 in
theorem fo_ndigit : FnOk Tryz.prog 181 sp_ndigit := fnOk_of (C := c_ndigit) iv_ndigit Tryz.func181 rfl (by kernel_rfl) tys_ok prims_nil mixed_ (Nat.le_refl _) rfl fun y x h1 h2 h3 h4 =>
  Eq.mpr (w_ndigit y x) (m_ndigit y x h2 h3)
noncomputable def sp_tName : Spec := { q := .un, ps := [.st], rs := [.bo], fresh := true, pre := fun _ _ => none, post := fun _ x => ((), (nameS x.1, ())) }
noncomputable def iv_tName (y : El sp_tName.q) (x : Els sp_tName.ps) : Nat → Option Inv := fun k => if k = 0 then some { X := Nat, tm := fun i => [(0, .c (.sc (.string x.1))), (19, .c (.sc (.int .i64 i))), (18, .c (.sc (.int .i64 x.1.size)))], ob := fun _ => [], n := 1, I := fun i => i ≤ x.1.size ∧ 0 < x.1.size ∧ x.1.size ≤ 20 ∧ lett (gi x.1 0) = true ∧ ((List.range i).all fun i => lett (gi x.1 i) || digI (gi x.1 i)) = true, μ := fun i => x.1.size - i } else none
noncomputable abbrev c_tName : Cfg := cfgS (Tryz.f72).ntmps false [(179, sp_tletter.prim)]
def F_tName (y : El sp_tName.q) (x : Els sp_tName.ps) : Prop :=
  ((ByteArray.toList x.fst == (ByteArray.toList (⟨#[]⟩ : ByteArray))) = true → (false, ()) = (nameS x.fst, ())) ∧ ((ByteArray.toList x.fst == (ByteArray.toList (⟨#[]⟩ : ByteArray))) = false → (decide ((↑(ByteArray.size x.fst) : Int) > (20 : Int)) = true → (false, ()) = (nameS x.fst, ())) ∧ (decide ((↑(ByteArray.size x.fst) : Int) > (20 : Int)) = false → ((0 : Int) ≤ (0 : Int) ∧ (0 : Int) < (↑(ByteArray.size x.fst) : Int)) ∧ ∀ (r : El Ty.un × Els [Ty.bo]), r = ((), lett (↑(ByteArray.get! x.fst (Int.toNat (0 : Int))).toNat : Int), ()) → ((!r.snd.fst) = true → (false, ()) = (nameS x.fst, ())) ∧ ((!r.snd.fst) = false → (∃ (x_1 : Nat), x.fst = x.fst ∧ (↑x_1 : Int) = (0 : Int) ∧ (↑(ByteArray.size x.fst) : Int) = (↑(ByteArray.size x.fst) : Int) ∧ x_1 ≤ ByteArray.size x.fst ∧ (0 : Nat) < ByteArray.size x.fst ∧ ByteArray.size x.fst ≤ (20 : Nat) ∧ lett (gi x.fst (0 : Nat)) = true ∧ ((List.range x_1).all fun (i : Nat) => lett (gi x.fst i) || digI (gi x.fst i)) = true) ∧ ∀ (x_1 : Nat), x_1 ≤ ByteArray.size x.fst ∧ (0 : Nat) < ByteArray.size x.fst ∧ ByteArray.size x.fst ≤ (20 : Nat) ∧ lett (gi x.fst (0 : Nat)) = true ∧ ((List.range x_1).all fun (i : Nat) => lett (gi x.fst i) || digI (gi x.fst i)) = true → (decide ((↑x_1 : Int) < (↑(ByteArray.size x.fst) : Int)) = true → ((0 : Int) ≤ (↑x_1 : Int) ∧ (↑x_1 : Int) < (↑(ByteArray.size x.fst) : Int)) ∧ ∀ (r : El Ty.un × Els [Ty.bo]), r = ((), lett (↑(ByteArray.get! x.fst (↑x_1 : Int).toNat).toNat : Int), ()) → ((!r.snd.fst) = true → ((0 : Int) ≤ (↑x_1 : Int) ∧ (↑x_1 : Int) < (↑(ByteArray.size x.fst) : Int)) ∧ (decide ((↑(ByteArray.get! x.fst (↑x_1 : Int).toNat).toNat : Int) < (48 : Int)) = true → (false, ()) = (nameS x.fst, ())) ∧ (decide ((↑(ByteArray.get! x.fst (↑x_1 : Int).toNat).toNat : Int) < (48 : Int)) = false → ((0 : Int) ≤ (↑x_1 : Int) ∧ (↑x_1 : Int) < (↑(ByteArray.size x.fst) : Int)) ∧ (decide ((↑(ByteArray.get! x.fst (↑x_1 : Int).toNat).toNat : Int) > (57 : Int)) = true → (false, ()) = (nameS x.fst, ())) ∧ (decide ((↑(ByteArray.get! x.fst (↑x_1 : Int).toNat).toNat : Int) > (57 : Int)) = false → ((-9223372036854775808 : Int) ≤ (↑x_1 : Int) + (1 : Int) ∧ (↑x_1 : Int) + (1 : Int) ≤ (9223372036854775807 : Int)) ∧ ∃ (x' : Nat), x.fst = x.fst ∧ (↑x' : Int) = (↑x_1 : Int) + (1 : Int) ∧ (↑(ByteArray.size x.fst) : Int) = (↑(ByteArray.size x.fst) : Int) ∧ (x' ≤ ByteArray.size x.fst ∧ (0 : Nat) < ByteArray.size x.fst ∧ ByteArray.size x.fst ≤ (20 : Nat) ∧ lett (gi x.fst (0 : Nat)) = true ∧ ((List.range x').all fun (i : Nat) => lett (gi x.fst i) || digI (gi x.fst i)) = true) ∧ ByteArray.size x.fst - x' < ByteArray.size x.fst - x_1))) ∧ ((!r.snd.fst) = false → ((-9223372036854775808 : Int) ≤ (↑x_1 : Int) + (1 : Int) ∧ (↑x_1 : Int) + (1 : Int) ≤ (9223372036854775807 : Int)) ∧ ∃ (x' : Nat), x.fst = x.fst ∧ (↑x' : Int) = (↑x_1 : Int) + (1 : Int) ∧ (↑(ByteArray.size x.fst) : Int) = (↑(ByteArray.size x.fst) : Int) ∧ (x' ≤ ByteArray.size x.fst ∧ (0 : Nat) < ByteArray.size x.fst ∧ ByteArray.size x.fst ≤ (20 : Nat) ∧ lett (gi x.fst (0 : Nat)) = true ∧ ((List.range x').all fun (i : Nat) => lett (gi x.fst i) || digI (gi x.fst i)) = true) ∧ ByteArray.size x.fst - x' < ByteArray.size x.fst - x_1)) ∧ (decide ((↑x_1 : Int) < (↑(ByteArray.size x.fst) : Int)) = false → (true, ()) = (nameS x.fst, ())))))
set_option maxRecDepth 100000 in
theorem w_tName (y : El sp_tName.q) (x : Els sp_tName.ps) : aw c_tName (iv_tName y x) (codeOf Tryz.f72) 0 (retQ c_tName sp_tName (Tryz.f72).results.toList y x) (startT sp_tName x) (startO sp_tName y) 1 = F_tName y x := by kernel_rfl
theorem m_tName (y : El (.un)) (x : Els [.st]) (h2 : wfE (.un) y) (h3 : wfEs [.st] x) : F_tName y x := by
  unfold F_tName
  have gz : ∀ i : Nat, ((ByteArray.get! x.1 ((i : Int)).toNat).toNat : Int) = gi x.1 i := fun i => by rw [Int.toNat_natCast]; rfl
  refine ⟨fun h => ?_, fun h => ⟨fun k => ?_, fun k => ⟨⟨Int.le_refl _, ?_⟩, ?_⟩⟩⟩
  · rw [ba_0] at h
    exact nameS_0 (of_decide_eq_true h)
  · exact nameS_long (by have := of_decide_eq_true k; omega)
  all_goals
    rw [ba_0] at h
    have h := of_decide_eq_false h
    have k := of_decide_eq_false k
  · omega
  rintro _ rfl
  refine ⟨fun m => nameS_first (ntt m), fun m => ⟨⟨0, rfl, rfl, rfl, Nat.zero_le _, by omega, by omega, nff m, rfl⟩, fun i hi => ⟨fun l => ?_, fun l => ?_⟩⟩⟩
  · obtain ⟨i0, i1, i2, i3, i4⟩ := hi
    have l := of_decide_eq_true l
    have il : i < x.1.size := by omega
    refine ⟨⟨by omega, l⟩, ?_⟩
    rintro _ rfl
    simp only [gz]
    refine ⟨fun m => ⟨⟨by omega, l⟩, fun u => ?_, fun u => ⟨⟨by omega, l⟩, fun v => ?_, fun v => ⟨by omega, i + 1, (by first | exact rfl | exact trivial), rfl, (by first | exact rfl | exact trivial), ⟨il, i1, i2, i3, all_succ_ i4 ?_⟩, by omega⟩⟩⟩, fun m => ⟨by omega, i + 1, (by first | exact rfl | exact trivial), rfl, (by first | exact rfl | exact trivial), ⟨il, i1, i2, i3, all_succ_ i4 ?_⟩, by omega⟩⟩
    · have u := of_decide_eq_true u
      exact nameS_bad il (by rw [(ntt m : lett (gi x.1 i) = false)]; unfold digI; rw [decide_eq_false (by omega)]; rfl)
    · have v := of_decide_eq_true v
      exact nameS_bad il (by rw [(ntt m : lett (gi x.1 i) = false)]; unfold digI; rw [decide_eq_false (by omega)]; rfl)
    · have u := of_decide_eq_false u
      have v := of_decide_eq_false v
      show (lett (gi x.1 i) || digI (gi x.1 i)) = true
      unfold digI
      rw [decide_eq_true (by omega)]
      simp
    · show (lett (gi x.1 i) || digI (gi x.1 i)) = true
      rw [(nff m : lett (gi x.1 i) = true)]
      rfl
  · obtain ⟨i0, i1, i2, i3, i4⟩ := hi
    have l := of_decide_eq_false l
    have e : i = x.1.size := by omega
    rw [e] at i4
    exact nameS_ok i1 i2 i3 i4
set_option maxRecDepth 100000 in
theorem fo_tName : FnOk Tryz.prog 72 sp_tName := fnOk_of (C := c_tName) iv_tName Tryz.func72 rfl (by kernel_rfl) tys_ok (prims_cons (spec_prim fo_tletter) prims_nil) mixed_ (Nat.le_refl _) rfl fun y x h1 h2 h3 h4 =>
  Eq.mpr (w_tName y x) (m_tName y x h2 h3)
noncomputable def sp_nName : Spec := { q := .un, ps := [.st], rs := [.bo], fresh := true, pre := fun _ _ => none, post := fun _ x => ((), (nameS x.1, ())) }
noncomputable def iv_nName (y : El sp_nName.q) (x : Els sp_nName.ps) : Nat → Option Inv := fun k => if k = 0 then some { X := Nat, tm := fun i => [(0, .c (.sc (.string x.1))), (3, .c (.sc (.int .i64 i)))], ob := fun _ => [], n := 1, I := fun i => i ≤ x.1.size ∧ 0 < x.1.size ∧ x.1.size ≤ 20 ∧ lett (gi x.1 0) = true ∧ ((List.range i).all fun i => lett (gi x.1 i) || digI (gi x.1 i)) = true, μ := fun i => x.1.size - i } else none
noncomputable abbrev c_nName : Cfg := cfgS (Tryz.f73).ntmps false [(180, sp_nletter.prim), (181, sp_ndigit.prim)]
def F_nName (y : El sp_nName.q) (x : Els sp_nName.ps) : Prop :=
  (decide ((↑(ByteArray.size x.fst) : Int) < (1 : Int)) = true → (false, ()) = (nameS x.fst, ())) ∧ (decide ((↑(ByteArray.size x.fst) : Int) < (1 : Int)) = false → (decide ((↑(ByteArray.size x.fst) : Int) > (20 : Int)) = true → (false, ()) = (nameS x.fst, ())) ∧ (decide ((↑(ByteArray.size x.fst) : Int) > (20 : Int)) = false → ((0 : Int) ≤ (0 : Int) ∧ (0 : Int) < (↑(ByteArray.size x.fst) : Int)) ∧ ∀ (r : El Ty.un × Els [Ty.bo]), r = ((), lett (↑(ByteArray.get! x.fst (Int.toNat (0 : Int))).toNat : Int), ()) → ((!r.snd.fst) = true → (false, ()) = (nameS x.fst, ())) ∧ ((!r.snd.fst) = false → (∃ (x_1 : Nat), x.fst = x.fst ∧ (↑x_1 : Int) = (0 : Int) ∧ x_1 ≤ ByteArray.size x.fst ∧ (0 : Nat) < ByteArray.size x.fst ∧ ByteArray.size x.fst ≤ (20 : Nat) ∧ lett (gi x.fst (0 : Nat)) = true ∧ ((List.range x_1).all fun (i : Nat) => lett (gi x.fst i) || digI (gi x.fst i)) = true) ∧ ∀ (x_1 : Nat), x_1 ≤ ByteArray.size x.fst ∧ (0 : Nat) < ByteArray.size x.fst ∧ ByteArray.size x.fst ≤ (20 : Nat) ∧ lett (gi x.fst (0 : Nat)) = true ∧ ((List.range x_1).all fun (i : Nat) => lett (gi x.fst i) || digI (gi x.fst i)) = true → (decide ((↑x_1 : Int) < (↑(ByteArray.size x.fst) : Int)) = true → ((0 : Int) ≤ (↑x_1 : Int) ∧ (↑x_1 : Int) < (↑(ByteArray.size x.fst) : Int)) ∧ ∀ (r : El Ty.un × Els [Ty.bo]), r = ((), lett (↑(ByteArray.get! x.fst (↑x_1 : Int).toNat).toNat : Int), ()) → ((!r.snd.fst) = true → ((0 : Int) ≤ (↑x_1 : Int) ∧ (↑x_1 : Int) < (↑(ByteArray.size x.fst) : Int)) ∧ ∀ (r : El Ty.un × Els [Ty.bo]), r = ((), digI (↑(ByteArray.get! x.fst (↑x_1 : Int).toNat).toNat : Int), ()) → ((!r.snd.fst) = true → (false, ()) = (nameS x.fst, ())) ∧ ((!r.snd.fst) = false → ((-9223372036854775808 : Int) ≤ (↑x_1 : Int) + (1 : Int) ∧ (↑x_1 : Int) + (1 : Int) ≤ (9223372036854775807 : Int)) ∧ ∃ (x' : Nat), x.fst = x.fst ∧ (↑x' : Int) = (↑x_1 : Int) + (1 : Int) ∧ (x' ≤ ByteArray.size x.fst ∧ (0 : Nat) < ByteArray.size x.fst ∧ ByteArray.size x.fst ≤ (20 : Nat) ∧ lett (gi x.fst (0 : Nat)) = true ∧ ((List.range x').all fun (i : Nat) => lett (gi x.fst i) || digI (gi x.fst i)) = true) ∧ ByteArray.size x.fst - x' < ByteArray.size x.fst - x_1)) ∧ ((!r.snd.fst) = false → ((-9223372036854775808 : Int) ≤ (↑x_1 : Int) + (1 : Int) ∧ (↑x_1 : Int) + (1 : Int) ≤ (9223372036854775807 : Int)) ∧ ∃ (x' : Nat), x.fst = x.fst ∧ (↑x' : Int) = (↑x_1 : Int) + (1 : Int) ∧ (x' ≤ ByteArray.size x.fst ∧ (0 : Nat) < ByteArray.size x.fst ∧ ByteArray.size x.fst ≤ (20 : Nat) ∧ lett (gi x.fst (0 : Nat)) = true ∧ ((List.range x').all fun (i : Nat) => lett (gi x.fst i) || digI (gi x.fst i)) = true) ∧ ByteArray.size x.fst - x' < ByteArray.size x.fst - x_1)) ∧ (decide ((↑x_1 : Int) < (↑(ByteArray.size x.fst) : Int)) = false → (true, ()) = (nameS x.fst, ())))))
set_option maxRecDepth 100000 in
theorem w_nName (y : El sp_nName.q) (x : Els sp_nName.ps) : aw c_nName (iv_nName y x) (codeOf Tryz.f73) 0 (retQ c_nName sp_nName (Tryz.f73).results.toList y x) (startT sp_nName x) (startO sp_nName y) 1 = F_nName y x := by kernel_rfl
theorem m_nName (y : El (.un)) (x : Els [.st]) (h2 : wfE (.un) y) (h3 : wfEs [.st] x) : F_nName y x := by
  unfold F_nName
  have gz : ∀ i : Nat, ((ByteArray.get! x.1 ((i : Int)).toNat).toNat : Int) = gi x.1 i := fun i => by rw [Int.toNat_natCast]; rfl
  refine ⟨fun h => ?_, fun h => ⟨fun k => ?_, fun k => ⟨⟨Int.le_refl _, ?_⟩, ?_⟩⟩⟩
  · exact nameS_0 (by have := of_decide_eq_true h; omega)
  · exact nameS_long (by have := of_decide_eq_true k; omega)
  all_goals
    have h := of_decide_eq_false h
    have k := of_decide_eq_false k
  · omega
  rintro _ rfl
  refine ⟨fun m => nameS_first (ntt m), fun m => ⟨⟨0, rfl, rfl, Nat.zero_le _, by omega, by omega, nff m, rfl⟩, fun i hi => ⟨fun l => ?_, fun l => ?_⟩⟩⟩
  · obtain ⟨i0, i1, i2, i3, i4⟩ := hi
    have l := of_decide_eq_true l
    have il : i < x.1.size := by omega
    refine ⟨⟨by omega, l⟩, ?_⟩
    rintro _ rfl
    simp only [gz]
    refine ⟨fun m => ⟨⟨by omega, l⟩, ?_⟩, fun m => ⟨by omega, i + 1, (by first | exact rfl | exact trivial), rfl, ⟨il, i1, i2, i3, all_succ_ i4 ?_⟩, by omega⟩⟩
    · rintro _ rfl
      refine ⟨fun u => nameS_bad il (by rw [(ntt m : lett (gi x.1 i) = false), (ntt u : digI (gi x.1 i) = false)]; rfl), fun u => ⟨by omega, i + 1, (by first | exact rfl | exact trivial), rfl, ⟨il, i1, i2, i3, all_succ_ i4 ?_⟩, by omega⟩⟩
      show (lett (gi x.1 i) || digI (gi x.1 i)) = true
      rw [(nff u : digI (gi x.1 i) = true)]
      simp
    · show (lett (gi x.1 i) || digI (gi x.1 i)) = true
      rw [(nff m : lett (gi x.1 i) = true)]
      rfl
  · obtain ⟨i0, i1, i2, i3, i4⟩ := hi
    have l := of_decide_eq_false l
    have e : i = x.1.size := by omega
    rw [e] at i4
    exact nameS_ok i1 i2 i3 i4
set_option maxRecDepth 100000 in
theorem fo_nName : FnOk Tryz.prog 73 sp_nName := fnOk_of (C := c_nName) iv_nName Tryz.func73 rfl (by kernel_rfl) tys_ok (prims_cons (spec_prim fo_nletter) (prims_cons (spec_prim fo_ndigit) prims_nil)) mixed_ (Nat.le_refl _) rfl fun y x h1 h2 h3 h4 =>
  Eq.mpr (w_nName y x) (m_nName y x h2 h3)
theorem gcd_tstep (a b : Int) : Int.gcd b (a.tmod b) = Int.gcd a b := by
  show Nat.gcd b.natAbs (a.tmod b).natAbs = Nat.gcd a.natAbs b.natAbs
  rw [Int.natAbs_tmod, Nat.gcd_comm, ← Nat.gcd_rec, Nat.gcd_comm]
theorem abs_if (a : Int) : (if -a > a then -a else a) = (a.natAbs : Int) := by
  split <;> omega
noncomputable def sp_rcommon : Spec := { q := .un, ps := [.it .i64, .it .i64], rs := [.it .i64], fresh := true, pre := fun _ x => some (x.1.natAbs ≤ 10000000000 ∧ x.2.1.natAbs ≤ 10000000000), post := fun _ x => ((), (((Int.gcd x.1 x.2.1 : Nat) : Int), ())) }
noncomputable def iv_rcommon (y : El sp_rcommon.q) (x : Els sp_rcommon.ps) : Nat → Option Inv := fun k => if k = 0 then some { X := Int × Int, tm := fun i => [(0, .c (.sc (.int .i64 i.1))), (1, .c (.sc (.int .i64 i.2)))], ob := fun _ => [], n := 1, I := fun i => Int.gcd i.1 i.2 = Int.gcd x.1 x.2.1 ∧ i.1.natAbs ≤ 10000000000 ∧ i.2.natAbs ≤ 10000000000, μ := fun i => i.2.natAbs } else none
noncomputable abbrev c_rcommon : Cfg := cfgS (Tryz.f248).ntmps false []
def F_rcommon (y : El sp_rcommon.q) (x : Els sp_rcommon.ps) : Prop :=
  (∃ (x_1 : Int × Int), x_1.fst = x.fst ∧ x_1.snd = x.snd.fst ∧ x_1.fst.gcd x_1.snd = Int.gcd x.fst x.snd.fst ∧ x_1.fst.natAbs ≤ (10000000000 : Nat) ∧ x_1.snd.natAbs ≤ (10000000000 : Nat)) ∧ ∀ (x_1 : Int × Int), x_1.fst.gcd x_1.snd = Int.gcd x.fst x.snd.fst ∧ x_1.fst.natAbs ≤ (10000000000 : Nat) ∧ x_1.snd.natAbs ≤ (10000000000 : Nat) → ((x_1.snd != (0 : Int)) = true → x_1.snd ≠ (0 : Int) ∧ ∃ (x' : Int × Int), x'.fst = x_1.snd ∧ x'.snd = x_1.fst.tmod x_1.snd ∧ (x'.fst.gcd x'.snd = Int.gcd x.fst x.snd.fst ∧ x'.fst.natAbs ≤ (10000000000 : Nat) ∧ x'.snd.natAbs ≤ (10000000000 : Nat)) ∧ x'.snd.natAbs < x_1.snd.natAbs) ∧ ((x_1.snd != (0 : Int)) = false → ((-9223372036854775808 : Int) ≤ -x_1.fst ∧ -x_1.fst ≤ (9223372036854775807 : Int)) ∧ (if -x_1.fst > x_1.fst then -x_1.fst else x_1.fst, ()) = ((↑(Int.gcd x.fst x.snd.fst) : Int), ()))
set_option maxRecDepth 100000 in
theorem w_rcommon (y : El sp_rcommon.q) (x : Els sp_rcommon.ps) : aw c_rcommon (iv_rcommon y x) (codeOf Tryz.f248) 0 (retQ c_rcommon sp_rcommon (Tryz.f248).results.toList y x) (startT sp_rcommon x) (startO sp_rcommon y) 1 = F_rcommon y x := by kernel_rfl
theorem m_rcommon (y : El (.un)) (x : Els [.it .i64, .it .i64]) (h2 : wfE (.un) y) (h3 : wfEs [.it .i64, .it .i64] x) (h4 : x.1.natAbs ≤ 10000000000 ∧ x.2.1.natAbs ≤ 10000000000) : F_rcommon y x := by
  unfold F_rcommon
  obtain ⟨h5, h6⟩ := h4
  refine ⟨⟨(x.1, x.2.1), rfl, rfl, rfl, h5, h6⟩, fun i hi => ?_⟩
  obtain ⟨i1, i2, i3⟩ := hi
  refine ⟨fun h => ?_, fun h => ⟨by omega, ?_⟩⟩
  · have h : i.2 ≠ 0 := by simpa using h
    have hp : 0 < i.2.natAbs := Int.natAbs_pos.2 h
    have hm : (i.1.tmod i.2).natAbs < i.2.natAbs := by rw [Int.natAbs_tmod]; exact Nat.mod_lt _ hp
    exact ⟨h, (i.2, i.1.tmod i.2), rfl, rfl, ⟨(gcd_tstep i.1 i.2).trans i1, i3, by show (i.1.tmod i.2).natAbs ≤ _; omega⟩, hm⟩
  · have h : i.2 = 0 := by simpa using h
    rw [h, Int.gcd_zero_right] at i1
    rw [abs_if, i1]
set_option maxRecDepth 100000 in
theorem fo_rcommon : FnOk Tryz.prog 248 sp_rcommon := fnOk_of (C := c_rcommon) iv_rcommon Tryz.func248 rfl (by kernel_rfl) tys_ok prims_nil mixed_ (Nat.le_refl _) rfl fun y x h1 h2 h3 h4 =>
  Eq.mpr (w_rcommon y x) (m_rcommon y x h2 h3 h4)
noncomputable def sp_ngcd : Spec := { q := .un, ps := [.it .i64, .it .i64], rs := [.it .i64], fresh := true, pre := fun _ x => some (x.1.natAbs ≤ 10000000000 ∧ x.2.1.natAbs ≤ 10000000000), post := fun _ x => ((), (((Int.gcd x.1 x.2.1 : Nat) : Int), ())) }
noncomputable def iv_ngcd (y : El sp_ngcd.q) (x : Els sp_ngcd.ps) : Nat → Option Inv := fun k => if k = 0 then some { X := Int × Int, tm := fun i => [(0, .c (.sc (.int .i64 i.1))), (1, .c (.sc (.int .i64 i.2)))], ob := fun _ => [], n := 1, I := fun i => Int.gcd i.1 i.2 = Int.gcd x.1 x.2.1 ∧ i.1.natAbs ≤ 10000000000 ∧ i.2.natAbs ≤ 10000000000, μ := fun i => i.2.natAbs } else none
noncomputable abbrev c_ngcd : Cfg := cfgS (Tryz.f249).ntmps false []
def F_ngcd (y : El sp_ngcd.q) (x : Els sp_ngcd.ps) : Prop :=
  (∃ (x_1 : Int × Int), x_1.fst = x.fst ∧ x_1.snd = x.snd.fst ∧ x_1.fst.gcd x_1.snd = Int.gcd x.fst x.snd.fst ∧ x_1.fst.natAbs ≤ (10000000000 : Nat) ∧ x_1.snd.natAbs ≤ (10000000000 : Nat)) ∧ ∀ (x_1 : Int × Int), x_1.fst.gcd x_1.snd = Int.gcd x.fst x.snd.fst ∧ x_1.fst.natAbs ≤ (10000000000 : Nat) ∧ x_1.snd.natAbs ≤ (10000000000 : Nat) → ((x_1.snd != (0 : Int)) = true → x_1.snd ≠ (0 : Int) ∧ ∃ (x' : Int × Int), x'.fst = x_1.snd ∧ x'.snd = x_1.fst.tmod x_1.snd ∧ (x'.fst.gcd x'.snd = Int.gcd x.fst x.snd.fst ∧ x'.fst.natAbs ≤ (10000000000 : Nat) ∧ x'.snd.natAbs ≤ (10000000000 : Nat)) ∧ x'.snd.natAbs < x_1.snd.natAbs) ∧ ((x_1.snd != (0 : Int)) = false → ((-9223372036854775808 : Int) ≤ -x_1.fst ∧ -x_1.fst ≤ (9223372036854775807 : Int)) ∧ (if -x_1.fst > x_1.fst then -x_1.fst else x_1.fst, ()) = ((↑(Int.gcd x.fst x.snd.fst) : Int), ()))
set_option maxRecDepth 100000 in
theorem w_ngcd (y : El sp_ngcd.q) (x : Els sp_ngcd.ps) : aw c_ngcd (iv_ngcd y x) (codeOf Tryz.f249) 0 (retQ c_ngcd sp_ngcd (Tryz.f249).results.toList y x) (startT sp_ngcd x) (startO sp_ngcd y) 1 = F_ngcd y x := by kernel_rfl
theorem m_ngcd (y : El (.un)) (x : Els [.it .i64, .it .i64]) (h2 : wfE (.un) y) (h3 : wfEs [.it .i64, .it .i64] x) (h4 : x.1.natAbs ≤ 10000000000 ∧ x.2.1.natAbs ≤ 10000000000) : F_ngcd y x := by
  unfold F_ngcd
  obtain ⟨h5, h6⟩ := h4
  refine ⟨⟨(x.1, x.2.1), rfl, rfl, rfl, h5, h6⟩, fun i hi => ?_⟩
  obtain ⟨i1, i2, i3⟩ := hi
  refine ⟨fun h => ?_, fun h => ⟨by omega, ?_⟩⟩
  · have h : i.2 ≠ 0 := by simpa using h
    have hp : 0 < i.2.natAbs := Int.natAbs_pos.2 h
    have hm : (i.1.tmod i.2).natAbs < i.2.natAbs := by rw [Int.natAbs_tmod]; exact Nat.mod_lt _ hp
    exact ⟨h, (i.2, i.1.tmod i.2), rfl, rfl, ⟨(gcd_tstep i.1 i.2).trans i1, i3, by show (i.1.tmod i.2).natAbs ≤ _; omega⟩, hm⟩
  · have h : i.2 = 0 := by simpa using h
    rw [h, Int.gcd_zero_right] at i1
    rw [abs_if, i1]
set_option maxRecDepth 100000 in
theorem fo_ngcd : FnOk Tryz.prog 249 sp_ngcd := fnOk_of (C := c_ngcd) iv_ngcd Tryz.func249 rfl (by kernel_rfl) tys_ok prims_nil mixed_ (Nat.le_refl _) rfl fun y x h1 h2 h3 h4 =>
  Eq.mpr (w_ngcd y x) (m_ngcd y x h2 h3 h4)
def rotC (r : El tRot) : Int := if 1 ≤ r.1 ∧ r.1 ≤ 1000 ∧ -1000 ≤ r.2.1 ∧ r.2.1 ≤ 1000 ∧ r.2.1 ≠ 0 ∧ r.1 ≠ r.2.1 ∧ r.1 ≠ -r.2.1 ∧ Int.gcd r.1 r.2.1 = 1 then 0 else 150
def rotI (a b : Int) : Prop := 1 ≤ a ∧ a ≤ 1000 ∧ -1000 ≤ b ∧ b ≤ 1000 ∧ b ≠ 0 ∧ a ≠ b ∧ a ≠ -b ∧ Int.gcd a b = 1
def rotB (r : El tRot) : Prop := rotI r.1 r.2.1
theorem rotn {r : El tRot} (h : ¬ rotB r) : ((150 : Int), ()) = (rotC r, ()) := by
  unfold rotB rotI at h
  unfold rotC
  rw [if_neg h]
theorem roty {r : El tRot} (h : rotB r) : ((0 : Int), ()) = (rotC r, ()) := by
  unfold rotB rotI at h
  unfold rotC
  rw [if_pos h]
theorem rotC_0 {r : El tRot} (h : rotC r = 0) : rotB r := by
  unfold rotC at h
  split at h
  · rename_i k; exact k
  · cases h
theorem i32_rng {a : Int} (h : IntKind.i32.min ≤ a ∧ a ≤ IntKind.i32.max) : -2147483648 ≤ a ∧ a ≤ 2147483647 := h
theorem wrap64_32 {a : Int} (h : -2147483648 ≤ a ∧ a ≤ 2147483647) : IntKind.i64.wrap a = a := wrap_id (k := .i64) (by have : IntKind.i64.min = -9223372036854775808 := rfl; omega) (by have : IntKind.i64.max = 9223372036854775807 := rfl; omega)
theorem wrap32_neg {a : Int} (h : -2147483648 < a ∧ a ≤ 2147483647) : IntKind.i32.wrap (0 - a) = -a := by
  rw [Int.zero_sub]
  exact wrap_id (k := .i32) (by have : IntKind.i32.min = -2147483648 := rfl; omega) (by have : IntKind.i32.max = 2147483647 := rfl; omega)
noncomputable def sp_rCk : Spec := { q := .un, ps := [tRot], rs := [.it .i64], fresh := true, pre := fun _ _ => none, post := fun _ x => ((), (rotC x.1, ())) }
noncomputable def iv_rCk (y : El sp_rCk.q) (x : Els sp_rCk.ps) : Nat → Option Inv := fun _ => none
noncomputable abbrev c_rCk : Cfg := cfgS (Tryz.f182).ntmps false [(248, sp_rcommon.prim)]
def F_rCk (y : El sp_rCk.q) (x : Els sp_rCk.ps) : Prop :=
  (decide (IntKind.i64.wrap x.fst.fst < (1 : Int)) = true → ((150 : Int), ()) = (rotC x.fst, ())) ∧ (decide (IntKind.i64.wrap x.fst.fst < (1 : Int)) = false → (decide (IntKind.i64.wrap x.fst.fst > (1000 : Int)) = true → ((150 : Int), ()) = (rotC x.fst, ())) ∧ (decide (IntKind.i64.wrap x.fst.fst > (1000 : Int)) = false → (decide (IntKind.i64.wrap x.fst.snd.fst < (-1000 : Int)) = true → ((150 : Int), ()) = (rotC x.fst, ())) ∧ (decide (IntKind.i64.wrap x.fst.snd.fst < (-1000 : Int)) = false → (decide (IntKind.i64.wrap x.fst.snd.fst > (1000 : Int)) = true → ((150 : Int), ()) = (rotC x.fst, ())) ∧ (decide (IntKind.i64.wrap x.fst.snd.fst > (1000 : Int)) = false → ((IntKind.i64.wrap x.fst.snd.fst == (0 : Int)) = true → ((150 : Int), ()) = (rotC x.fst, ())) ∧ ((IntKind.i64.wrap x.fst.snd.fst == (0 : Int)) = false → ((IntKind.i64.wrap x.fst.fst == IntKind.i64.wrap x.fst.snd.fst) = true → ((150 : Int), ()) = (rotC x.fst, ())) ∧ ((IntKind.i64.wrap x.fst.fst == IntKind.i64.wrap x.fst.snd.fst) = false → ((-9223372036854775808 : Int) ≤ -IntKind.i64.wrap x.fst.snd.fst ∧ -IntKind.i64.wrap x.fst.snd.fst ≤ (9223372036854775807 : Int)) ∧ ((IntKind.i64.wrap x.fst.fst == -IntKind.i64.wrap x.fst.snd.fst) = true → ((150 : Int), ()) = (rotC x.fst, ())) ∧ ((IntKind.i64.wrap x.fst.fst == -IntKind.i64.wrap x.fst.snd.fst) = false → ((IntKind.i64.wrap x.fst.fst).natAbs ≤ (10000000000 : Nat) ∧ (IntKind.i64.wrap x.fst.snd.fst).natAbs ≤ (10000000000 : Nat)) ∧ ∀ (r : El Ty.un × Els [Ty.it IntKind.i64]), r = ((), (↑((IntKind.i64.wrap x.fst.fst).gcd (IntKind.i64.wrap x.fst.snd.fst)) : Int), ()) → ((r.snd.fst != (1 : Int)) = true → ((150 : Int), ()) = (rotC x.fst, ())) ∧ ((r.snd.fst != (1 : Int)) = false → ((0 : Int), ()) = (rotC x.fst, ())))))))))
set_option maxRecDepth 100000 in
theorem w_rCk (y : El sp_rCk.q) (x : Els sp_rCk.ps) : aw c_rCk (iv_rCk y x) (codeOf Tryz.f182) 0 (retQ c_rCk sp_rCk (Tryz.f182).results.toList y x) (startT sp_rCk x) (startO sp_rCk y) 1 = F_rCk y x := by kernel_rfl
theorem m_rCk (y : El (.un)) (x : Els [tRot]) (h2 : wfE (.un) y) (h3 : wfEs [tRot] x) : F_rCk y x := by
  unfold F_rCk
  have r1 := i32_rng h3.1.1
  have r2 := i32_rng h3.1.2.1
  simp only [wrap64_32 r1, wrap64_32 r2]
  refine ⟨fun h => rotn (r := x.1) fun c => ?_, fun h1 => ⟨fun h => rotn (r := x.1) fun c => ?_, fun h2 => ⟨fun h => rotn (r := x.1) fun c => ?_, fun h3 => ⟨fun h => rotn (r := x.1) fun c => ?_, fun h4 => ⟨fun h => rotn (r := x.1) fun c => ?_, fun h5 => ⟨fun h => rotn (r := x.1) fun c => ?_, fun h6 => ?_⟩⟩⟩⟩⟩⟩
  · unfold rotB rotI at c; have h := ltT h; omega
  · unfold rotB rotI at c; have h := gtT h; omega
  · unfold rotB rotI at c; have h := ltT h; omega
  · unfold rotB rotI at c; have h := gtT h; omega
  · unfold rotB rotI at c; have h := eqT h; omega
  · unfold rotB rotI at c; have h := eqT h; omega
  have h1 := ltF h1
  have h2 := gtF h2
  have h3 := ltF h3
  have h4 := gtF h4
  have h5 := eqF h5
  have h6 := eqF h6
  refine ⟨⟨by omega, by omega⟩, ?_⟩
  refine ⟨fun h => rotn (r := x.1) fun c => ?_, fun h7 => ⟨⟨?_, ?_⟩, ?_⟩⟩
  · unfold rotB rotI at c
    have h := eqT h
    omega
  · omega
  · omega
  have h7 := eqF h7
  rintro _ rfl
  refine ⟨fun h => rotn (r := x.1) fun c => ?_, fun h8 => roty (r := x.1) ⟨by omega, by omega, by omega, by omega, h5, h6, h7, ?_⟩⟩
  · unfold rotB rotI at c
    have h := neT h
    exact h (by rw [c.2.2.2.2.2.2.2]; rfl)
  · have h := neF h8
    exact Int.ofNat_inj.1 h
set_option maxRecDepth 100000 in
theorem fo_rCk : FnOk Tryz.prog 182 sp_rCk := fnOk_of (C := c_rCk) iv_rCk Tryz.func182 rfl (by kernel_rfl) tys_ok (prims_cons (spec_prim fo_rcommon) prims_nil) mixed_ (Nat.le_refl _) rfl fun y x h1 h2 h3 h4 =>
  Eq.mpr (w_rCk y x) (m_rCk y x h2 h3)
noncomputable def sp_nRCk : Spec := { q := .un, ps := [tRot], rs := [.it .i64], fresh := true, pre := fun _ _ => none, post := fun _ x => ((), (rotC x.1, ())) }
noncomputable def iv_nRCk (y : El sp_nRCk.q) (x : Els sp_nRCk.ps) : Nat → Option Inv := fun _ => none
noncomputable abbrev c_nRCk : Cfg := cfgS (Tryz.f183).ntmps false [(249, sp_ngcd.prim)]
def F_nRCk (y : El sp_nRCk.q) (x : Els sp_nRCk.ps) : Prop :=
  (decide (x.fst.fst < (1 : Int)) = true → ((150 : Int), ()) = (rotC x.fst, ())) ∧ (decide (x.fst.fst < (1 : Int)) = false → (decide (x.fst.fst > (1000 : Int)) = true → ((150 : Int), ()) = (rotC x.fst, ())) ∧ (decide (x.fst.fst > (1000 : Int)) = false → (decide (x.fst.snd.fst < (-1000 : Int)) = true → ((150 : Int), ()) = (rotC x.fst, ())) ∧ (decide (x.fst.snd.fst < (-1000 : Int)) = false → (decide (x.fst.snd.fst > (1000 : Int)) = true → ((150 : Int), ()) = (rotC x.fst, ())) ∧ (decide (x.fst.snd.fst > (1000 : Int)) = false → ((x.fst.snd.fst == (0 : Int)) = true → ((150 : Int), ()) = (rotC x.fst, ())) ∧ ((x.fst.snd.fst == (0 : Int)) = false → ((x.fst.fst == x.fst.snd.fst) = true → ((150 : Int), ()) = (rotC x.fst, ())) ∧ ((x.fst.fst == x.fst.snd.fst) = false → ((x.fst.fst == IntKind.i32.wrap ((0 : Int) - x.fst.snd.fst)) = true → ((150 : Int), ()) = (rotC x.fst, ())) ∧ ((x.fst.fst == IntKind.i32.wrap ((0 : Int) - x.fst.snd.fst)) = false → ((IntKind.i64.wrap x.fst.fst).natAbs ≤ (10000000000 : Nat) ∧ (IntKind.i64.wrap x.fst.snd.fst).natAbs ≤ (10000000000 : Nat)) ∧ ∀ (r : El Ty.un × Els [Ty.it IntKind.i64]), r = ((), (↑((IntKind.i64.wrap x.fst.fst).gcd (IntKind.i64.wrap x.fst.snd.fst)) : Int), ()) → ((r.snd.fst != (1 : Int)) = true → ((150 : Int), ()) = (rotC x.fst, ())) ∧ ((r.snd.fst != (1 : Int)) = false → ((0 : Int), ()) = (rotC x.fst, ())))))))))
set_option maxRecDepth 100000 in
theorem w_nRCk (y : El sp_nRCk.q) (x : Els sp_nRCk.ps) : aw c_nRCk (iv_nRCk y x) (codeOf Tryz.f183) 0 (retQ c_nRCk sp_nRCk (Tryz.f183).results.toList y x) (startT sp_nRCk x) (startO sp_nRCk y) 1 = F_nRCk y x := by kernel_rfl
theorem m_nRCk (y : El (.un)) (x : Els [tRot]) (h2 : wfE (.un) y) (h3 : wfEs [tRot] x) : F_nRCk y x := by
  unfold F_nRCk
  have r1 := i32_rng h3.1.1
  have r2 := i32_rng h3.1.2.1
  simp only [wrap64_32 r1, wrap64_32 r2]
  refine ⟨fun h => rotn (r := x.1) fun c => ?_, fun h1 => ⟨fun h => rotn (r := x.1) fun c => ?_, fun h2 => ⟨fun h => rotn (r := x.1) fun c => ?_, fun h3 => ⟨fun h => rotn (r := x.1) fun c => ?_, fun h4 => ⟨fun h => rotn (r := x.1) fun c => ?_, fun h5 => ⟨fun h => rotn (r := x.1) fun c => ?_, fun h6 => ?_⟩⟩⟩⟩⟩⟩
  · unfold rotB rotI at c; have h := ltT h; omega
  · unfold rotB rotI at c; have h := gtT h; omega
  · unfold rotB rotI at c; have h := ltT h; omega
  · unfold rotB rotI at c; have h := gtT h; omega
  · unfold rotB rotI at c; have h := eqT h; omega
  · unfold rotB rotI at c; have h := eqT h; omega
  have h1 := ltF h1
  have h2 := gtF h2
  have h3 := ltF h3
  have h4 := gtF h4
  have h5 := eqF h5
  have h6 := eqF h6
  simp only [wrap32_neg (a := x.1.2.1) ⟨by omega, by omega⟩]
  refine ⟨fun h => rotn (r := x.1) fun c => ?_, fun h7 => ⟨⟨?_, ?_⟩, ?_⟩⟩
  · unfold rotB rotI at c
    have h := eqT h
    omega
  · omega
  · omega
  have h7 := eqF h7
  rintro _ rfl
  refine ⟨fun h => rotn (r := x.1) fun c => ?_, fun h8 => roty (r := x.1) ⟨by omega, by omega, by omega, by omega, h5, h6, h7, ?_⟩⟩
  · unfold rotB rotI at c
    have h := neT h
    exact h (by rw [c.2.2.2.2.2.2.2]; rfl)
  · have h := neF h8
    exact Int.ofNat_inj.1 h
set_option maxRecDepth 100000 in
theorem fo_nRCk : FnOk Tryz.prog 183 sp_nRCk := fnOk_of (C := c_nRCk) iv_nRCk Tryz.func183 rfl (by kernel_rfl) tys_ok (prims_cons (spec_prim fo_ngcd) prims_nil) mixed_ (Nat.le_refl _) rfl fun y x h1 h2 h3 h4 =>
  Eq.mpr (w_nRCk y x) (m_nRCk y x h2 h3)
def tchk (a : El tTide) : Int := if nameS a.1 = false then 4 else if rotC a.2.1 ≠ 0 then rotC a.2.1 else gchk (toGa a.2.2.1)
noncomputable def sp_tCk : Spec := { q := .un, ps := [tTide], rs := [.it .i64], fresh := true, pre := fun _ _ => none, post := fun _ x => ((), (tchk x.1, ())) }
noncomputable def iv_tCk (y : El sp_tCk.q) (x : Els sp_tCk.ps) : Nat → Option Inv := fun _ => none
noncomputable abbrev c_tCk : Cfg := cfgS (Tryz.f74).ntmps false [(72, sp_tName.prim), (182, sp_rCk.prim), (40, sp_gCheck.prim)]
def F_tCk (y : El sp_tCk.q) (x : Els sp_tCk.ps) : Prop :=
  ∀ (r : El Ty.un × Els [Ty.bo]), r = ((), nameS x.fst.fst, ()) → ((!r.snd.fst) = true → ((4 : Int), ()) = (tchk x.fst, ())) ∧ ((!r.snd.fst) = false → ∀ (r : El Ty.un × Els [Ty.it IntKind.i64]), r = ((), rotC x.fst.snd.fst, ()) → ((r.snd.fst != (0 : Int)) = true → r.snd = (tchk x.fst, ())) ∧ ((r.snd.fst != (0 : Int)) = false → ∀ (r : El Ty.un × Els [Ty.it IntKind.i64]), r = ((), gchk (toGa x.fst.snd.snd.fst), ()) → r.snd = (tchk x.fst, ())))
set_option maxRecDepth 100000 in
theorem w_tCk (y : El sp_tCk.q) (x : Els sp_tCk.ps) : aw c_tCk (iv_tCk y x) (codeOf Tryz.f74) 0 (retQ c_tCk sp_tCk (Tryz.f74).results.toList y x) (startT sp_tCk x) (startO sp_tCk y) 1 = F_tCk y x := by kernel_rfl
theorem m_tCk (y : El (.un)) (x : Els [tTide]) (h2 : wfE (.un) y) (h3 : wfEs [tTide] x) : F_tCk y x := by
  unfold F_tCk
  rintro _ rfl
  refine ⟨fun h => ?_, fun h => ?_⟩
  · unfold tchk
    rw [if_pos (ntt h : nameS x.1.1 = false)]
  · rintro _ rfl
    refine ⟨fun k => ?_, fun k => ?_⟩
    · unfold tchk
      rw [if_neg (by rw [(nff h : nameS x.1.1 = true)]; decide), if_pos (ne_ k)]
    · rintro _ rfl
      unfold tchk
      rw [if_neg (by rw [(nff h : nameS x.1.1 = true)]; decide), if_neg (fun c => c (eq_ k))]
set_option maxRecDepth 100000 in
theorem fo_tCk : FnOk Tryz.prog 74 sp_tCk := fnOk_of (C := c_tCk) iv_tCk Tryz.func74 rfl (by kernel_rfl) tys_ok (prims_cons (spec_prim fo_tName) (prims_cons (spec_prim fo_rCk) (prims_cons (spec_prim fo_gCheck) prims_nil))) mixed_ (Nat.le_refl _) rfl fun y x h1 h2 h3 h4 =>
  Eq.mpr (w_tCk y x) (m_tCk y x h2 h3)
noncomputable def sp_nTCk : Spec := { q := .un, ps := [tTide], rs := [.it .i64], fresh := true, pre := fun _ _ => none, post := fun _ x => ((), (tchk x.1, ())) }
noncomputable def iv_nTCk (y : El sp_nTCk.q) (x : Els sp_nTCk.ps) : Nat → Option Inv := fun _ => none
noncomputable abbrev c_nTCk : Cfg := cfgS (Tryz.f75).ntmps false [(73, sp_nName.prim), (183, sp_nRCk.prim), (41, sp_hCheck.prim)]
def F_nTCk (y : El sp_nTCk.q) (x : Els sp_nTCk.ps) : Prop :=
  ∀ (r : El Ty.un × Els [Ty.bo]), r = ((), nameS x.fst.fst, ()) → ((!r.snd.fst) = true → ((4 : Int), ()) = (tchk x.fst, ())) ∧ ((!r.snd.fst) = false → ∀ (r : El Ty.un × Els [Ty.it IntKind.i64]), r = ((), rotC x.fst.snd.fst, ()) → ((r.snd.fst != (0 : Int)) = true → r.snd = (tchk x.fst, ())) ∧ ((r.snd.fst != (0 : Int)) = false → ∀ (r : El Ty.un × Els [Ty.it IntKind.i64]), r = ((), gchk (toGa x.fst.snd.snd.fst), ()) → r.snd = (tchk x.fst, ())))
set_option maxRecDepth 100000 in
theorem w_nTCk (y : El sp_nTCk.q) (x : Els sp_nTCk.ps) : aw c_nTCk (iv_nTCk y x) (codeOf Tryz.f75) 0 (retQ c_nTCk sp_nTCk (Tryz.f75).results.toList y x) (startT sp_nTCk x) (startO sp_nTCk y) 1 = F_nTCk y x := by kernel_rfl
theorem m_nTCk (y : El (.un)) (x : Els [tTide]) (h2 : wfE (.un) y) (h3 : wfEs [tTide] x) : F_nTCk y x := by
  unfold F_nTCk
  rintro _ rfl
  refine ⟨fun h => ?_, fun h => ?_⟩
  · unfold tchk
    rw [if_pos (ntt h : nameS x.1.1 = false)]
  · rintro _ rfl
    refine ⟨fun k => ?_, fun k => ?_⟩
    · unfold tchk
      rw [if_neg (by rw [(nff h : nameS x.1.1 = true)]; decide), if_pos (ne_ k)]
    · rintro _ rfl
      unfold tchk
      rw [if_neg (by rw [(nff h : nameS x.1.1 = true)]; decide), if_neg (fun c => c (eq_ k))]
set_option maxRecDepth 100000 in
theorem fo_nTCk : FnOk Tryz.prog 75 sp_nTCk := fnOk_of (C := c_nTCk) iv_nTCk Tryz.func75 rfl (by kernel_rfl) tys_ok (prims_cons (spec_prim fo_nName) (prims_cons (spec_prim fo_nRCk) (prims_cons (spec_prim fo_hCheck) prims_nil))) mixed_ (Nat.le_refl _) rfl fun y x h1 h2 h3 h4 =>
  Eq.mpr (w_nTCk y x) (m_nTCk y x h2 h3)
noncomputable def sp_sEq : Spec := { q := .un, ps := [tW32, tW32], rs := [.bo], fresh := true, pre := fun _ _ => none, post := fun _ x => ((), (decide (x.1 = x.2.1), ())) }
noncomputable def iv_sEq (y : El sp_sEq.q) (x : Els sp_sEq.ps) : Nat → Option Inv := fun k => if k = 0 then some { X := Nat, tm := fun i => [(0, .c (.sl (.it .u32) x.1)), (1, .c (.sl (.it .u32) x.2.1)), (12, .c (.sc (.int .i64 x.1.length))), (13, .c (.sc (.int .i64 i)))], ob := fun _ => [], n := 1, I := fun i => i ≤ x.1.length ∧ x.1.length = x.2.1.length ∧ x.1.take i = x.2.1.take i, μ := fun i => x.1.length - i } else none
noncomputable abbrev c_sEq : Cfg := cfgS (Tryz.f250).ntmps false []
def F_sEq (y : El sp_sEq.q) (x : Els sp_sEq.ps) : Prop :=
  (((↑(List.length x.fst) : Int) != (↑(List.length x.snd.fst) : Int)) = true → (false, ()) = (decide (x.fst = x.snd.fst), ())) ∧ (((↑(List.length x.fst) : Int) != (↑(List.length x.snd.fst) : Int)) = false → (∃ (x_1 : Nat), x.fst = x.fst ∧ x.snd.fst = x.snd.fst ∧ (↑(List.length x.fst) : Int) = (↑(List.length x.fst) : Int) ∧ (↑x_1 : Int) = (0 : Int) ∧ x_1 ≤ List.length x.fst ∧ List.length x.fst = List.length x.snd.fst ∧ List.take x_1 x.fst = List.take x_1 x.snd.fst) ∧ ∀ (x_1 : Nat), x_1 ≤ List.length x.fst ∧ List.length x.fst = List.length x.snd.fst ∧ List.take x_1 x.fst = List.take x_1 x.snd.fst → (decide ((↑x_1 : Int) < (↑(List.length x.fst) : Int)) = true → ((0 : Int) ≤ (↑x_1 : Int) ∧ (↑x_1 : Int) < (↑(List.length x.fst) : Int)) ∧ ((0 : Int) ≤ (↑x_1 : Int) ∧ (↑x_1 : Int) < (↑(List.length x.snd.fst) : Int)) ∧ ((List.getD x.fst (↑x_1 : Int).toNat (dfl (Ty.it IntKind.u32)) != List.getD x.snd.fst (↑x_1 : Int).toNat (dfl (Ty.it IntKind.u32))) = true → (false, ()) = (decide (x.fst = x.snd.fst), ())) ∧ ((List.getD x.fst (↑x_1 : Int).toNat (dfl (Ty.it IntKind.u32)) != List.getD x.snd.fst (↑x_1 : Int).toNat (dfl (Ty.it IntKind.u32))) = false → ((-9223372036854775808 : Int) ≤ (↑x_1 : Int) + (1 : Int) ∧ (↑x_1 : Int) + (1 : Int) ≤ (9223372036854775807 : Int)) ∧ ∃ (x' : Nat), x.fst = x.fst ∧ x.snd.fst = x.snd.fst ∧ (↑(List.length x.fst) : Int) = (↑(List.length x.fst) : Int) ∧ (↑x' : Int) = (↑x_1 : Int) + (1 : Int) ∧ (x' ≤ List.length x.fst ∧ List.length x.fst = List.length x.snd.fst ∧ List.take x' x.fst = List.take x' x.snd.fst) ∧ List.length x.fst - x' < List.length x.fst - x_1)) ∧ (decide ((↑x_1 : Int) < (↑(List.length x.fst) : Int)) = false → (true, ()) = (decide (x.fst = x.snd.fst), ())))
set_option maxRecDepth 100000 in
theorem w_sEq (y : El sp_sEq.q) (x : Els sp_sEq.ps) : aw c_sEq (iv_sEq y x) (codeOf Tryz.f250) 0 (retQ c_sEq sp_sEq (Tryz.f250).results.toList y x) (startT sp_sEq x) (startO sp_sEq y) 1 = F_sEq y x := by kernel_rfl
theorem m_sEq (y : El (.un)) (x : Els [tW32, tW32]) (h2 : wfE (.un) y) (h3 : wfEs [tW32, tW32] x) : F_sEq y x := by
  unfold F_sEq
  have hL : x.1.length ≤ 9223372036854775807 := h3.1.1
  refine ⟨fun h => ?_, fun h => ⟨⟨0, rfl, rfl, rfl, rfl, Nat.zero_le _, by simpa [Int.ofNat_inj] using h, rfl⟩, fun i hi => ⟨fun hl => ?_, fun hl => ?_⟩⟩⟩
  · have : x.1 ≠ x.2.1 := fun e => by rw [e] at h; simp at h
    rw [decide_eq_false this]
  · obtain ⟨h0, h1, h2⟩ := hi
    have hl := of_decide_eq_true hl
    have a1 : i < x.1.length := by omega
    have a2 : i < x.2.1.length := by omega
    have g1 : x.1.getD ((i : Int)).toNat (dfl (Ty.it IntKind.u32)) = x.1[i] := by
      rw [Int.toNat_natCast, List.getD_eq_getElem?_getD, List.getElem?_eq_getElem a1]; rfl
    have g2 : x.2.1.getD ((i : Int)).toNat (dfl (Ty.it IntKind.u32)) = x.2.1[i] := by
      rw [Int.toNat_natCast, List.getD_eq_getElem?_getD, List.getElem?_eq_getElem a2]; rfl
    rw [g1, g2]
    refine ⟨⟨by omega, hl⟩, ⟨by omega, by omega⟩, fun k => ?_, fun k => ⟨by omega, i + 1, rfl, rfl, rfl, rfl, ⟨a1, h1, ?_⟩, by omega⟩⟩
    · have k := bne_iff_ne.1 k
      have : x.1 ≠ x.2.1 := fun e => k (by congr 1)
      rw [decide_eq_false this]
    · have k : x.1[i] = x.2.1[i] := by simpa using k
      rw [List.take_add_one, List.take_add_one, h2, List.getElem?_eq_getElem a1, List.getElem?_eq_getElem a2, k]
  · obtain ⟨h0, h1, h2⟩ := hi
    have hl := of_decide_eq_false hl
    rw [List.take_of_length_le (by omega), List.take_of_length_le (by omega)] at h2
    rw [decide_eq_true h2]
set_option maxRecDepth 100000 in
theorem fo_sEq : FnOk Tryz.prog 250 sp_sEq := fnOk_of (C := c_sEq) iv_sEq Tryz.func250 rfl (by kernel_rfl) tys_ok prims_nil mixed_ (Nat.le_refl _) rfl fun y x h1 h2 h3 h4 =>
  Eq.mpr (w_sEq y x) (m_sEq y x h2 h3)
noncomputable def sp_tsame : Spec := { q := .un, ps := [tR, tR], rs := [.bo], fresh := true, pre := fun _ _ => none, post := fun _ x => ((), (decide (toFr x.1 = toFr x.2.1), ())) }
noncomputable def iv_tsame (y : El sp_tsame.q) (x : Els sp_tsame.ps) : Nat → Option Inv := fun _ => none
noncomputable abbrev c_tsame : Cfg := cfgS (Tryz.f184).ntmps false [(250, sp_sEq.prim)]
def F_tsame (y : El sp_tsame.q) (x : Els sp_tsame.ps) : Prop :=
  ((x.fst.fst == x.snd.fst.fst) = true → ∀ (r : El Ty.un × Els [Ty.bo]), r = ((), decide (x.fst.snd.fst = x.snd.fst.snd.fst), ()) → (r.snd.fst = true → ∀ (r : El Ty.un × Els [Ty.bo]), r = ((), decide (x.fst.snd.snd.fst = x.snd.fst.snd.snd.fst), ()) → r.snd = (decide (toFr x.fst = toFr x.snd.fst), ())) ∧ (r.snd.fst = false → (false, ()) = (decide (toFr x.fst = toFr x.snd.fst), ()))) ∧ ((x.fst.fst == x.snd.fst.fst) = false → (false, ()) = (decide (toFr x.fst = toFr x.snd.fst), ()))
set_option maxRecDepth 100000 in
theorem w_tsame (y : El sp_tsame.q) (x : Els sp_tsame.ps) : aw c_tsame (iv_tsame y x) (codeOf Tryz.f184) 0 (retQ c_tsame sp_tsame (Tryz.f184).results.toList y x) (startT sp_tsame x) (startO sp_tsame y) 1 = F_tsame y x := by kernel_rfl
theorem m_tsame (y : El (.un)) (x : Els [tR, tR]) (h2 : wfE (.un) y) (h3 : wfEs [tR, tR] x) : F_tsame y x := by
  unfold F_tsame
  obtain ⟨⟨s, a, b, _⟩, ⟨t, c, d, _⟩, _⟩ := x
  refine ⟨fun h => ?_, fun h => ?_⟩
  · rintro _ rfl
    refine ⟨fun k => ?_, fun k => ?_⟩
    · rintro _ rfl
      have hs : s = t := by simpa using h
      have hk : a = c := by simpa using k
      subst hs
      subst hk
      simp [toFr]
    · have k : a ≠ c := by simpa using k
      simp [toFr, k]
  · have h : s ≠ t := by simpa using h
    simp [toFr, h]
set_option maxRecDepth 100000 in
theorem fo_tsame : FnOk Tryz.prog 184 sp_tsame := fnOk_of (C := c_tsame) iv_tsame Tryz.func184 rfl (by kernel_rfl) tys_ok (prims_cons (spec_prim fo_sEq) prims_nil) mixed_ (Nat.le_refl _) rfl fun y x h1 h2 h3 h4 =>
  Eq.mpr (w_tsame y x) (m_tsame y x h2 h3)
def sameT (a b : El tTide) : Bool := decide (a.1 = b.1) && decide (a.2.1 = b.2.1) && decide (toGa a.2.2.1 = toGa b.2.2.1)
theorem eq_rot (a b : El tRot) : eqV tRot a b = decide (a = b) := by
  obtain ⟨a, c, _⟩ := a
  obtain ⟨b, d, _⟩ := b
  rw [Bool.eq_iff_iff, decide_eq_true_eq]
  simp [eqV]
theorem sameT_n1 {a b : El tTide} (h : decide (a.1 = b.1) = false) : (false, ()) = (sameT a b, ()) := by
  unfold sameT
  rw [h]
  rfl
theorem sameT_n2 {a b : El tTide} (h : decide (a.2.1 = b.2.1) = false) : (false, ()) = (sameT a b, ()) := by
  unfold sameT
  rw [h]
  simp
theorem sameT_n3 {a b : El tTide} (h : decide (toGa a.2.2.1 = toGa b.2.2.1) = false) : (false, ()) = (sameT a b, ()) := by
  unfold sameT
  rw [h]
  simp
theorem sameT_y {a b : El tTide} {d : Bool} (h1 : decide (a.1 = b.1) = true) (h2 : decide (a.2.1 = b.2.1) = true) (h : decide (toGa a.2.2.1 = toGa b.2.2.1) = d) : (d, ()) = (sameT a b, ()) := by
  unfold sameT
  rw [h1, h2, h]
  rfl
theorem ga_ne {a b : El tG} (h : decide (toFr a.1 = toFr b.1) = false) : decide (toGa a = toGa b) = false := by
  rw [decide_eq_false_iff_not] at h ⊢
  exact fun e => h (congrArg Ga.re e)
theorem ga_eq {a b : El tG} (h : decide (toFr a.1 = toFr b.1) = true) : decide (toGa a = toGa b) = decide (toFr a.2.1 = toFr b.2.1) := by
  rw [decide_eq_true_eq] at h
  rw [Bool.eq_iff_iff, decide_eq_true_eq, decide_eq_true_eq]
  constructor
  · exact fun e => congrArg Ga.im e
  · intro e
    show (⟨toFr a.1, toFr a.2.1⟩ : Ga) = ⟨toFr b.1, toFr b.2.1⟩
    rw [h, e]
noncomputable def sp_tSame : Spec := { q := .un, ps := [tTide, tTide], rs := [.bo], fresh := true, pre := fun _ _ => none, post := fun _ x => ((), (sameT x.1 x.2.1, ())) }
noncomputable def iv_tSame (y : El sp_tSame.q) (x : Els sp_tSame.ps) : Nat → Option Inv := fun _ => none
noncomputable abbrev c_tSame : Cfg := cfgS (Tryz.f76).ntmps false [(184, sp_tsame.prim)]
def F_tSame (y : El sp_tSame.q) (x : Els sp_tSame.ps) : Prop :=
  ((ByteArray.toList x.fst.fst == ByteArray.toList x.snd.fst.fst) = true → (eqV tRot x.fst.snd.fst x.snd.fst.snd.fst = true → ∀ (r : El Ty.un × Els [Ty.bo]), r = ((), decide (toFr x.fst.snd.snd.fst.fst = toFr x.snd.fst.snd.snd.fst.fst), ()) → (r.snd.fst = true → ∀ (r : El Ty.un × Els [Ty.bo]), r = ((), decide (toFr x.fst.snd.snd.fst.snd.fst = toFr x.snd.fst.snd.snd.fst.snd.fst), ()) → r.snd = (sameT x.fst x.snd.fst, ())) ∧ (r.snd.fst = false → (false, ()) = (sameT x.fst x.snd.fst, ()))) ∧ (eqV tRot x.fst.snd.fst x.snd.fst.snd.fst = false → (false, ()) = (sameT x.fst x.snd.fst, ()))) ∧ ((ByteArray.toList x.fst.fst == ByteArray.toList x.snd.fst.fst) = false → (false, ()) = (sameT x.fst x.snd.fst, ()))
set_option maxRecDepth 100000 in
theorem w_tSame (y : El sp_tSame.q) (x : Els sp_tSame.ps) : aw c_tSame (iv_tSame y x) (codeOf Tryz.f76) 0 (retQ c_tSame sp_tSame (Tryz.f76).results.toList y x) (startT sp_tSame x) (startO sp_tSame y) 1 = F_tSame y x := by kernel_rfl
theorem m_tSame (y : El (.un)) (x : Els [tTide, tTide]) (h2 : wfE (.un) y) (h3 : wfEs [tTide, tTide] x) : F_tSame y x := by
  unfold F_tSame
  simp only [ba_eq, eq_rot]
  refine ⟨fun h => ⟨fun k => ?_, fun k => sameT_n2 k⟩, fun h => sameT_n1 h⟩
  rintro _ rfl
  refine ⟨fun l => ?_, fun l => sameT_n3 (ga_ne l)⟩
  rintro _ rfl
  exact sameT_y h k (ga_eq l)
set_option maxRecDepth 100000 in
theorem fo_tSame : FnOk Tryz.prog 76 sp_tSame := fnOk_of (C := c_tSame) iv_tSame Tryz.func76 rfl (by kernel_rfl) tys_ok (prims_cons (spec_prim fo_tsame) prims_nil) mixed_ (Nat.le_refl _) rfl fun y x h1 h2 h3 h4 =>
  Eq.mpr (w_tSame y x) (m_tSame y x h2 h3)
noncomputable def sp_nTSame : Spec := { q := .un, ps := [tTide, tTide], rs := [.bo], fresh := true, pre := fun _ _ => none, post := fun _ x => ((), (sameT x.1 x.2.1, ())) }
noncomputable def iv_nTSame (y : El sp_nTSame.q) (x : Els sp_nTSame.ps) : Nat → Option Inv := fun _ => none
noncomputable abbrev c_nTSame : Cfg := cfgS (Tryz.f77).ntmps false [(34, sp_nSame.prim)]
def F_nTSame (y : El sp_nTSame.q) (x : Els sp_nTSame.ps) : Prop :=
  ((ByteArray.toList x.fst.fst == ByteArray.toList x.snd.fst.fst) = true → (eqV tRot x.fst.snd.fst x.snd.fst.snd.fst = true → ∀ (r : El Ty.un × Els [Ty.bo]), r = ((), decide (toFr x.fst.snd.snd.fst.fst = toFr x.snd.fst.snd.snd.fst.fst), ()) → (r.snd.fst = true → ∀ (r : El Ty.un × Els [Ty.bo]), r = ((), decide (toFr x.fst.snd.snd.fst.snd.fst = toFr x.snd.fst.snd.snd.fst.snd.fst), ()) → r.snd = (sameT x.fst x.snd.fst, ())) ∧ (r.snd.fst = false → (false, ()) = (sameT x.fst x.snd.fst, ()))) ∧ (eqV tRot x.fst.snd.fst x.snd.fst.snd.fst = false → (false, ()) = (sameT x.fst x.snd.fst, ()))) ∧ ((ByteArray.toList x.fst.fst == ByteArray.toList x.snd.fst.fst) = false → (false, ()) = (sameT x.fst x.snd.fst, ()))
set_option maxRecDepth 100000 in
theorem w_nTSame (y : El sp_nTSame.q) (x : Els sp_nTSame.ps) : aw c_nTSame (iv_nTSame y x) (codeOf Tryz.f77) 0 (retQ c_nTSame sp_nTSame (Tryz.f77).results.toList y x) (startT sp_nTSame x) (startO sp_nTSame y) 1 = F_nTSame y x := by kernel_rfl
theorem m_nTSame (y : El (.un)) (x : Els [tTide, tTide]) (h2 : wfE (.un) y) (h3 : wfEs [tTide, tTide] x) : F_nTSame y x := by
  unfold F_nTSame
  simp only [ba_eq, eq_rot]
  refine ⟨fun h => ⟨fun k => ?_, fun k => sameT_n2 k⟩, fun h => sameT_n1 h⟩
  rintro _ rfl
  refine ⟨fun l => ?_, fun l => sameT_n3 (ga_ne l)⟩
  rintro _ rfl
  exact sameT_y h k (ga_eq l)
set_option maxRecDepth 100000 in
theorem fo_nTSame : FnOk Tryz.prog 77 sp_nTSame := fnOk_of (C := c_nTSame) iv_nTSame Tryz.func77 rfl (by kernel_rfl) tys_ok (prims_cons (spec_prim fo_nSame) prims_nil) mixed_ (Nat.le_refl _) rfl fun y x h1 h2 h3 h4 =>
  Eq.mpr (w_nTSame y x) (m_nTSame y x h2 h3)
noncomputable def sp_tcopied : Spec := { q := .un, ps := [tR], rs := [tR], fresh := true, pre := fun _ x => some (Few (toFr x.1)), post := fun _ x => ((), (x.1, ())) }
noncomputable def iv_tcopied (y : El sp_tcopied.q) (x : Els sp_tcopied.ps) : Nat → Option Inv := fun _ => none
noncomputable abbrev c_tcopied : Cfg := cfgS (Tryz.f185).ntmps false []
def F_tcopied (y : El sp_tcopied.q) (x : Els sp_tcopied.ps) : Prop :=
  (0 : Nat) + List.length x.fst.snd.fst ≤ (1073741824 : Nat) ∧ (0 : Nat) + List.length x.fst.snd.snd.fst ≤ (1073741824 : Nat) ∧ ((x.fst.fst, [] ++ x.fst.snd.fst, [] ++ x.fst.snd.snd.fst, ()), ()) = x
set_option maxRecDepth 100000 in
theorem w_tcopied (y : El sp_tcopied.q) (x : Els sp_tcopied.ps) : aw c_tcopied (iv_tcopied y x) (codeOf Tryz.f185) 0 (retQ c_tcopied sp_tcopied (Tryz.f185).results.toList y x) (startT sp_tcopied x) (startO sp_tcopied y) 1 = F_tcopied y x := by kernel_rfl
theorem m_tcopied (y : El (.un)) (x : Els [tR]) (h2 : wfE (.un) y) (h3 : wfEs [tR] x) (h4 : Few (toFr x.1)) : F_tcopied y x := by
  unfold F_tcopied
  have a1 : x.1.2.1.length ≤ 1000000 := h4.1
  have a2 : x.1.2.2.1.length ≤ 1000000 := h4.2
  exact ⟨by omega, by omega, rfl⟩
set_option maxRecDepth 100000 in
theorem fo_tcopied : FnOk Tryz.prog 185 sp_tcopied := fnOk_of (C := c_tcopied) iv_tcopied Tryz.func185 rfl (by kernel_rfl) tys_ok prims_nil mixed_ (Nat.le_refl _) rfl fun y x h1 h2 h3 h4 =>
  Eq.mpr (w_tcopied y x) (m_tcopied y x h2 h3 h4)
noncomputable def sp_tCopy : Spec := { q := .un, ps := [tTide], rs := [tTide], fresh := true, pre := fun _ x => some (FewG (toGa x.1.2.2.1)), post := fun _ x => ((), (x.1, ())) }
noncomputable def iv_tCopy (y : El sp_tCopy.q) (x : Els sp_tCopy.ps) : Nat → Option Inv := fun _ => none
noncomputable abbrev c_tCopy : Cfg := cfgS (Tryz.f78).ntmps false [(185, sp_tcopied.prim)]
def F_tCopy (y : El sp_tCopy.q) (x : Els sp_tCopy.ps) : Prop :=
  ((toFr x.fst.snd.snd.fst.fst).num.length ≤ (1000000 : Nat) ∧ (toFr x.fst.snd.snd.fst.fst).den.length ≤ (1000000 : Nat)) ∧ ∀ (r : El Ty.un × Els [tR]), r = ((), x.fst.snd.snd.fst.fst, ()) → ((toFr x.fst.snd.snd.fst.snd.fst).num.length ≤ (1000000 : Nat) ∧ (toFr x.fst.snd.snd.fst.snd.fst).den.length ≤ (1000000 : Nat)) ∧ ∀ (r_1 : El Ty.un × Els [tR]), r_1 = ((), x.fst.snd.snd.fst.snd) → ((x.fst.fst, x.fst.snd.fst, (r.snd.fst, r_1.snd), ()), ()) = x
set_option maxRecDepth 100000 in
theorem w_tCopy (y : El sp_tCopy.q) (x : Els sp_tCopy.ps) : aw c_tCopy (iv_tCopy y x) (codeOf Tryz.f78) 0 (retQ c_tCopy sp_tCopy (Tryz.f78).results.toList y x) (startT sp_tCopy x) (startO sp_tCopy y) 1 = F_tCopy y x := by kernel_rfl
theorem m_tCopy (y : El (.un)) (x : Els [tTide]) (h2 : wfE (.un) y) (h3 : wfEs [tTide] x) (h4 : FewG (toGa x.1.2.2.1)) : F_tCopy y x := by
  unfold F_tCopy
  refine ⟨h4.1, ?_⟩
  rintro _ rfl
  refine ⟨h4.2, ?_⟩
  rintro _ rfl
  rfl
set_option maxRecDepth 100000 in
theorem fo_tCopy : FnOk Tryz.prog 78 sp_tCopy := fnOk_of (C := c_tCopy) iv_tCopy Tryz.func78 rfl (by kernel_rfl) tys_ok (prims_cons (spec_prim fo_tcopied) prims_nil) mixed_ (Nat.le_refl _) rfl fun y x h1 h2 h3 h4 =>
  Eq.mpr (w_tCopy y x) (m_tCopy y x h2 h3 h4)
def tZ : El tTide := dfl tTide
def tconj (a : El tTide) : El tTide × Int × Unit := if tchk a ≠ 0 then (tZ, tchk a, ()) else ((a.1, (a.2.1.1, -a.2.1.2.1, ()), ofGa (gconj (toGa a.2.2.1)).1, ()), 0, ())
theorem tchk_near {a : El tTide} (h : tchk a = 0) : rotB a.2.1 := by
  unfold tchk at h
  split at h
  · cases h
  · split at h
    · rename_i k; exact absurd h k
    · rename_i k; exact rotC_0 (by simpa using k)
noncomputable def sp_tConj : Spec := { q := .un, ps := [tTide], rs := [tTide, .it .i64], fresh := true, pre := fun _ _ => none, post := fun _ x => ((), tconj x.1) }
noncomputable def iv_tConj (y : El sp_tConj.q) (x : Els sp_tConj.ps) : Nat → Option Inv := fun _ => none
noncomputable abbrev c_tConj : Cfg := cfgS (Tryz.f79).ntmps false [(74, sp_tCk.prim), (46, sp_gConj.prim)]
def F_tConj (y : El sp_tConj.q) (x : Els sp_tConj.ps) : Prop :=
  ∀ (r : El Ty.un × Els [Ty.it IntKind.i64]), r = ((), tchk x.fst, ()) → ((r.snd.fst != (0 : Int)) = true → ((ByteArray.empty, ((0 : Int), (0 : Int), ()), ((false, [], [], ()), (false, [], [], ()), ()), ()), r.snd) = tconj x.fst) ∧ ((r.snd.fst != (0 : Int)) = false → ∀ (r : El Ty.un × Els [tG, Ty.it IntKind.i64]), r = pG (gconj (toGa x.fst.snd.snd.fst)) → ((x.fst.fst, (x.fst.snd.fst.fst, IntKind.i32.wrap ((0 : Int) - x.fst.snd.fst.snd.fst), ()), r.snd.fst, ()), (0 : Int), ()) = tconj x.fst)
set_option maxRecDepth 100000 in
theorem w_tConj (y : El sp_tConj.q) (x : Els sp_tConj.ps) : aw c_tConj (iv_tConj y x) (codeOf Tryz.f79) 0 (retQ c_tConj sp_tConj (Tryz.f79).results.toList y x) (startT sp_tConj x) (startO sp_tConj y) 1 = F_tConj y x := by kernel_rfl
theorem m_tConj (y : El (.un)) (x : Els [tTide]) (h2 : wfE (.un) y) (h3 : wfEs [tTide] x) : F_tConj y x := by
  unfold F_tConj
  rintro _ rfl
  refine ⟨fun h => ?_, fun h => ?_⟩
  · unfold tconj
    rw [if_pos (ne_ h)]
    rfl
  · have hb := tchk_near (eq_ h)
    rintro _ rfl
    unfold tconj
    rw [if_neg (fun c => c (eq_ h)), wrap32_neg (a := (x.1.2.1.2.1 : Int)) (by unfold rotB rotI at hb; omega)]
    rfl
set_option maxRecDepth 100000 in
theorem fo_tConj : FnOk Tryz.prog 79 sp_tConj := fnOk_of (C := c_tConj) iv_tConj Tryz.func79 rfl (by kernel_rfl) tys_ok (prims_cons (spec_prim fo_tCk) (prims_cons (spec_prim fo_gConj) prims_nil)) mixed_ (Nat.le_refl _) rfl fun y x h1 h2 h3 h4 =>
  Eq.mpr (w_tConj y x) (m_tConj y x h2 h3)
noncomputable def sp_nTConj : Spec := { q := .un, ps := [tTide], rs := [tTide, .it .i64], fresh := false, pre := fun _ _ => none, post := fun _ x => ((), tconj x.1) }
noncomputable def iv_nTConj (y : El sp_nTConj.q) (x : Els sp_nTConj.ps) : Nat → Option Inv := fun _ => none
noncomputable abbrev c_nTConj : Cfg := cfgS (Tryz.f80).ntmps false [(75, sp_nTCk.prim), (47, sp_hConj.prim)]
def F_nTConj (y : El sp_nTConj.q) (x : Els sp_nTConj.ps) : Prop :=
  ∀ (r : El Ty.un × Els [Ty.it IntKind.i64]), r = ((), tchk x.fst, ()) → ((r.snd.fst != (0 : Int)) = true → ((ByteArray.empty, ((0 : Int), (0 : Int), ()), ((false, [], [], ()), (false, [], [], ()), ()), ()), r.snd) = tconj x.fst) ∧ ((r.snd.fst != (0 : Int)) = false → ∀ (r : El Ty.un × Els [tG, Ty.it IntKind.i64]), r = pG (gconj (toGa x.fst.snd.snd.fst)) → ((x.fst.fst, (x.fst.snd.fst.fst, IntKind.i32.wrap ((0 : Int) - x.fst.snd.fst.snd.fst), ()), r.snd.fst, ()), (0 : Int), ()) = tconj x.fst)
set_option maxRecDepth 100000 in
theorem w_nTConj (y : El sp_nTConj.q) (x : Els sp_nTConj.ps) : aw c_nTConj (iv_nTConj y x) (codeOf Tryz.f80) 0 (retQ c_nTConj sp_nTConj (Tryz.f80).results.toList y x) (startT sp_nTConj x) (startO sp_nTConj y) 1 = F_nTConj y x := by kernel_rfl
theorem m_nTConj (y : El (.un)) (x : Els [tTide]) (h2 : wfE (.un) y) (h3 : wfEs [tTide] x) : F_nTConj y x := by
  unfold F_nTConj
  rintro _ rfl
  refine ⟨fun h => ?_, fun h => ?_⟩
  · unfold tconj
    rw [if_pos (ne_ h)]
    rfl
  · have hb := tchk_near (eq_ h)
    rintro _ rfl
    unfold tconj
    rw [if_neg (fun c => c (eq_ h)), wrap32_neg (a := (x.1.2.1.2.1 : Int)) (by unfold rotB rotI at hb; omega)]
    rfl
set_option maxRecDepth 100000 in
theorem fo_nTConj : FnOk Tryz.prog 80 sp_nTConj := fnOk_of (C := c_nTConj) iv_nTConj Tryz.func80 rfl (by kernel_rfl) tys_ok (prims_cons (spec_prim fo_nTCk) (prims_cons (spec_prim fo_hConj) prims_nil)) mixed_ (Nat.le_refl _) rfl fun y x h1 h2 h3 h4 =>
  Eq.mpr (w_nTConj y x) (m_nTConj y x h2 h3)
def tscale (r : El tR) (a : El tTide) : El tTide × Int × Unit := if fchk (toFr r) ≠ 0 then (tZ, fchk (toFr r), ()) else if tchk a ≠ 0 then (tZ, tchk a, ()) else if (gscale (toFr r) (toGa a.2.2.1)).2 ≠ 0 then (tZ, (gscale (toFr r) (toGa a.2.2.1)).2, ()) else ((a.1, a.2.1, ofGa (gscale (toFr r) (toGa a.2.2.1)).1, ()), 0, ())
noncomputable def sp_tScale : Spec := { q := .un, ps := [tR, tTide], rs := [tTide, .it .i64], fresh := true, pre := fun _ _ => none, post := fun _ x => ((), tscale x.1 x.2.1) }
noncomputable def iv_tScale (y : El sp_tScale.q) (x : Els sp_tScale.ps) : Nat → Option Inv := fun _ => none
noncomputable abbrev c_tScale : Cfg := cfgS (Tryz.f81).ntmps false [(29, sp_rCheck.prim), (74, sp_tCk.prim), (67, sp_gScale.prim)]
def F_tScale (y : El sp_tScale.q) (x : Els sp_tScale.ps) : Prop :=
  ∀ (r : El Ty.un × Els [Ty.it IntKind.i64]), r = ((), fchk (toFr x.fst), ()) → ((r.snd.fst != (0 : Int)) = true → ((ByteArray.empty, ((0 : Int), (0 : Int), ()), ((false, [], [], ()), (false, [], [], ()), ()), ()), r.snd) = tscale x.fst x.snd.fst) ∧ ((r.snd.fst != (0 : Int)) = false → ∀ (r : El Ty.un × Els [Ty.it IntKind.i64]), r = ((), tchk x.snd.fst, ()) → ((r.snd.fst != (0 : Int)) = true → ((ByteArray.empty, ((0 : Int), (0 : Int), ()), ((false, [], [], ()), (false, [], [], ()), ()), ()), r.snd) = tscale x.fst x.snd.fst) ∧ ((r.snd.fst != (0 : Int)) = false → ∀ (r : El Ty.un × Els [tG, Ty.it IntKind.i64]), r = pG (gscale (toFr x.fst) (toGa x.snd.fst.snd.snd.fst)) → ((r.snd.snd.fst != (0 : Int)) = true → ((ByteArray.empty, ((0 : Int), (0 : Int), ()), ((false, [], [], ()), (false, [], [], ()), ()), ()), r.snd.snd) = tscale x.fst x.snd.fst) ∧ ((r.snd.snd.fst != (0 : Int)) = false → ((x.snd.fst.fst, x.snd.fst.snd.fst, r.snd.fst, ()), (0 : Int), ()) = tscale x.fst x.snd.fst)))
set_option maxRecDepth 100000 in
theorem w_tScale (y : El sp_tScale.q) (x : Els sp_tScale.ps) : aw c_tScale (iv_tScale y x) (codeOf Tryz.f81) 0 (retQ c_tScale sp_tScale (Tryz.f81).results.toList y x) (startT sp_tScale x) (startO sp_tScale y) 1 = F_tScale y x := by kernel_rfl
theorem m_tScale (y : El (.un)) (x : Els [tR, tTide]) (h2 : wfE (.un) y) (h3 : wfEs [tR, tTide] x) : F_tScale y x := by
  unfold F_tScale
  rintro _ rfl
  refine ⟨fun h => ?_, fun h => ?_⟩
  · unfold tscale
    rw [if_pos (ne_ h)]
    rfl
  rintro _ rfl
  refine ⟨fun k => ?_, fun k => ?_⟩
  · unfold tscale
    rw [if_neg (fun c => c (eq_ h)), if_pos (ne_ k)]
    rfl
  rintro _ rfl
  refine ⟨fun l => ?_, fun l => ?_⟩
  · have l : (gscale (toFr x.1) (toGa x.2.1.2.2.1)).2 ≠ 0 := ne_ l
    unfold tscale
    rw [if_neg (fun c => c (eq_ h)), if_neg (fun c => c (eq_ k)), if_pos l]
    rfl
  · have l : (gscale (toFr x.1) (toGa x.2.1.2.2.1)).2 = 0 := eq_ l
    unfold tscale
    rw [if_neg (fun c => c (eq_ h)), if_neg (fun c => c (eq_ k)), if_neg (fun c => c l)]
    rfl
set_option maxRecDepth 100000 in
theorem fo_tScale : FnOk Tryz.prog 81 sp_tScale := fnOk_of (C := c_tScale) iv_tScale Tryz.func81 rfl (by kernel_rfl) tys_ok (prims_cons (spec_prim fo_rCheck) (prims_cons (spec_prim fo_tCk) (prims_cons (spec_prim fo_gScale) prims_nil))) mixed_ (Nat.le_refl _) rfl fun y x h1 h2 h3 h4 =>
  Eq.mpr (w_tScale y x) (m_tScale y x h2 h3)
noncomputable def sp_nTScale : Spec := { q := .un, ps := [tR, tTide], rs := [tTide, .it .i64], fresh := false, pre := fun _ _ => none, post := fun _ x => ((), tscale x.1 x.2.1) }
noncomputable def iv_nTScale (y : El sp_nTScale.q) (x : Els sp_nTScale.ps) : Nat → Option Inv := fun _ => none
noncomputable abbrev c_nTScale : Cfg := cfgS (Tryz.f82).ntmps false [(30, sp_nCheck.prim), (75, sp_nTCk.prim), (68, sp_hScale.prim)]
def F_nTScale (y : El sp_nTScale.q) (x : Els sp_nTScale.ps) : Prop :=
  ∀ (r : El Ty.un × Els [Ty.it IntKind.i64]), r = ((), fchk (toFr x.fst), ()) → ((r.snd.fst != (0 : Int)) = true → ((ByteArray.empty, ((0 : Int), (0 : Int), ()), ((false, [], [], ()), (false, [], [], ()), ()), ()), r.snd) = tscale x.fst x.snd.fst) ∧ ((r.snd.fst != (0 : Int)) = false → ∀ (r : El Ty.un × Els [Ty.it IntKind.i64]), r = ((), tchk x.snd.fst, ()) → ((r.snd.fst != (0 : Int)) = true → ((ByteArray.empty, ((0 : Int), (0 : Int), ()), ((false, [], [], ()), (false, [], [], ()), ()), ()), r.snd) = tscale x.fst x.snd.fst) ∧ ((r.snd.fst != (0 : Int)) = false → ∀ (r : El Ty.un × Els [tG, Ty.it IntKind.i64]), r = pG (gscale (toFr x.fst) (toGa x.snd.fst.snd.snd.fst)) → ((r.snd.snd.fst != (0 : Int)) = true → ((ByteArray.empty, ((0 : Int), (0 : Int), ()), ((false, [], [], ()), (false, [], [], ()), ()), ()), r.snd.snd) = tscale x.fst x.snd.fst) ∧ ((r.snd.snd.fst != (0 : Int)) = false → ((x.snd.fst.fst, x.snd.fst.snd.fst, r.snd.fst, ()), (0 : Int), ()) = tscale x.fst x.snd.fst)))
set_option maxRecDepth 100000 in
theorem w_nTScale (y : El sp_nTScale.q) (x : Els sp_nTScale.ps) : aw c_nTScale (iv_nTScale y x) (codeOf Tryz.f82) 0 (retQ c_nTScale sp_nTScale (Tryz.f82).results.toList y x) (startT sp_nTScale x) (startO sp_nTScale y) 1 = F_nTScale y x := by kernel_rfl
theorem m_nTScale (y : El (.un)) (x : Els [tR, tTide]) (h2 : wfE (.un) y) (h3 : wfEs [tR, tTide] x) : F_nTScale y x := by
  unfold F_nTScale
  rintro _ rfl
  refine ⟨fun h => ?_, fun h => ?_⟩
  · unfold tscale
    rw [if_pos (ne_ h)]
    rfl
  rintro _ rfl
  refine ⟨fun k => ?_, fun k => ?_⟩
  · unfold tscale
    rw [if_neg (fun c => c (eq_ h)), if_pos (ne_ k)]
    rfl
  rintro _ rfl
  refine ⟨fun l => ?_, fun l => ?_⟩
  · have l : (gscale (toFr x.1) (toGa x.2.1.2.2.1)).2 ≠ 0 := ne_ l
    unfold tscale
    rw [if_neg (fun c => c (eq_ h)), if_neg (fun c => c (eq_ k)), if_pos l]
    rfl
  · have l : (gscale (toFr x.1) (toGa x.2.1.2.2.1)).2 = 0 := eq_ l
    unfold tscale
    rw [if_neg (fun c => c (eq_ h)), if_neg (fun c => c (eq_ k)), if_neg (fun c => c l)]
    rfl
set_option maxRecDepth 100000 in
theorem fo_nTScale : FnOk Tryz.prog 82 sp_nTScale := fnOk_of (C := c_nTScale) iv_nTScale Tryz.func82 rfl (by kernel_rfl) tys_ok (prims_cons (spec_prim fo_nCheck) (prims_cons (spec_prim fo_nTCk) (prims_cons (spec_prim fo_hScale) prims_nil))) mixed_ (Nat.le_refl _) rfl fun y x h1 h2 h3 h4 =>
  Eq.mpr (w_nTScale y x) (m_nTScale y x h2 h3)
noncomputable def sp_kSameTide : Spec := { q := .un, ps := [tTide, tTide], rs := [.bo], fresh := true, pre := fun _ _ => none, post := fun _ x => ((), (sameT x.1 x.2.1, ())) }
noncomputable def iv_kSameTide (y : El sp_kSameTide.q) (x : Els sp_kSameTide.ps) : Nat → Option Inv := fun _ => none
noncomputable abbrev c_kSameTide : Cfg := cfgS (Tryz.f186).ntmps false [(89, sp_kSameGauss.prim)]
def F_kSameTide (y : El sp_kSameTide.q) (x : Els sp_kSameTide.ps) : Prop :=
  ((ByteArray.toList x.fst.fst == ByteArray.toList x.snd.fst.fst) = true → (eqV tRot x.fst.snd.fst x.snd.fst.snd.fst = true → ∀ (r : El Ty.un × Els [Ty.bo]), r = ((), decide (toGa x.fst.snd.snd.fst = toGa x.snd.fst.snd.snd.fst), ()) → r.snd = (sameT x.fst x.snd.fst, ())) ∧ (eqV tRot x.fst.snd.fst x.snd.fst.snd.fst = false → (false, ()) = (sameT x.fst x.snd.fst, ()))) ∧ ((ByteArray.toList x.fst.fst == ByteArray.toList x.snd.fst.fst) = false → (false, ()) = (sameT x.fst x.snd.fst, ()))
set_option maxRecDepth 100000 in
theorem w_kSameTide (y : El sp_kSameTide.q) (x : Els sp_kSameTide.ps) : aw c_kSameTide (iv_kSameTide y x) (codeOf Tryz.f186) 0 (retQ c_kSameTide sp_kSameTide (Tryz.f186).results.toList y x) (startT sp_kSameTide x) (startO sp_kSameTide y) 1 = F_kSameTide y x := by kernel_rfl
theorem m_kSameTide (y : El (.un)) (x : Els [tTide, tTide]) (h2 : wfE (.un) y) (h3 : wfEs [tTide, tTide] x) : F_kSameTide y x := by
  unfold F_kSameTide
  simp only [ba_eq, eq_rot]
  refine ⟨fun h => ⟨fun k => ?_, fun k => sameT_n2 k⟩, fun h => sameT_n1 h⟩
  rintro _ rfl
  exact sameT_y h k rfl
set_option maxRecDepth 100000 in
theorem fo_kSameTide : FnOk Tryz.prog 186 sp_kSameTide := fnOk_of (C := c_kSameTide) iv_kSameTide Tryz.func186 rfl (by kernel_rfl) tys_ok (prims_cons (spec_prim fo_kSameGauss) prims_nil) mixed_ (Nat.le_refl _) rfl fun y x h1 h2 h3 h4 =>
  Eq.mpr (w_kSameTide y x) (m_kSameTide y x h2 h3)
noncomputable def sp_kLentTide : Spec := { q := .un, ps := [tTide], rs := [tTideL], fresh := true, pre := fun _ x => some (FewG (toGa x.1.2.2.1)), post := fun _ x => ((), (x.1, ())) }
noncomputable def iv_kLentTide (y : El sp_kLentTide.q) (x : Els sp_kLentTide.ps) : Nat → Option Inv := fun _ => none
noncomputable abbrev c_kLentTide : Cfg := cfgS (Tryz.f71).ntmps false [(39, sp_kLentG.prim)]
def F_kLentTide (y : El sp_kLentTide.q) (x : Els sp_kLentTide.ps) : Prop :=
  (((toFr x.fst.snd.snd.fst.fst).num.length ≤ (1000000 : Nat) ∧ (toFr x.fst.snd.snd.fst.fst).den.length ≤ (1000000 : Nat)) ∧ (toFr x.fst.snd.snd.fst.snd.fst).num.length ≤ (1000000 : Nat) ∧ (toFr x.fst.snd.snd.fst.snd.fst).den.length ≤ (1000000 : Nat)) ∧ ∀ (r : El Ty.un × Els [tGL]), r = ((), x.fst.snd.snd) → ((x.fst.fst, x.fst.snd.fst, r.snd), ()) = x
set_option maxRecDepth 100000 in
theorem w_kLentTide (y : El sp_kLentTide.q) (x : Els sp_kLentTide.ps) : aw c_kLentTide (iv_kLentTide y x) (codeOf Tryz.f71) 0 (retQ c_kLentTide sp_kLentTide (Tryz.f71).results.toList y x) (startT sp_kLentTide x) (startO sp_kLentTide y) 1 = F_kLentTide y x := by kernel_rfl
theorem m_kLentTide (y : El (.un)) (x : Els [tTide]) (h2 : wfE (.un) y) (h3 : wfEs [tTide] x) (h4 : FewG (toGa x.1.2.2.1)) : F_kLentTide y x := by
  unfold F_kLentTide
  refine ⟨h4, ?_⟩
  rintro _ rfl
  rfl
set_option maxRecDepth 100000 in
theorem fo_kLentTide : FnOk Tryz.prog 71 sp_kLentTide := fnOk_of (C := c_kLentTide) iv_kLentTide Tryz.func71 rfl (by kernel_rfl) tys_ok (prims_cons (spec_prim fo_kLentG) prims_nil) mixed_ (Nat.le_refl _) rfl fun y x h1 h2 h3 h4 =>
  Eq.mpr (w_kLentTide y x) (m_kLentTide y x h2 h3 h4)
noncomputable def sp_kKeptTide : Spec := { q := .un, ps := [tTideL, tTide], rs := [.bo], fresh := true, pre := fun _ x => some (x.1.1 = x.2.1.1 ∧ x.1.2.1 = x.2.1.2.1 ∧ toGaL x.1.2.2.1 = toGa x.2.1.2.2.1 ∧ FewG (toGa x.2.1.2.2.1)), post := fun _ _ => ((), (true, ())) }
noncomputable def iv_kKeptTide (y : El sp_kKeptTide.q) (x : Els sp_kKeptTide.ps) : Nat → Option Inv := fun _ => none
noncomputable abbrev c_kKeptTide : Cfg := cfgS (Tryz.f84).ntmps false [(56, sp_kKeptG.prim)]
def F_kKeptTide (y : El sp_kKeptTide.q) (x : Els sp_kKeptTide.ps) : Prop :=
  ((ByteArray.toList x.fst.fst == ByteArray.toList x.snd.fst.fst) = true → (eqV tRot x.fst.snd.fst x.snd.fst.snd.fst = true → (toGaL x.fst.snd.snd.fst = toGa x.snd.fst.snd.snd.fst ∧ ((toFr x.snd.fst.snd.snd.fst.fst).num.length ≤ (1000000 : Nat) ∧ (toFr x.snd.fst.snd.snd.fst.fst).den.length ≤ (1000000 : Nat)) ∧ (toFr x.snd.fst.snd.snd.fst.snd.fst).num.length ≤ (1000000 : Nat) ∧ (toFr x.snd.fst.snd.snd.fst.snd.fst).den.length ≤ (1000000 : Nat)) ∧ ∀ (r : El Ty.un × Els [Ty.bo]), r = ((), true, ()) → r.snd = (true, ())) ∧ (eqV tRot x.fst.snd.fst x.snd.fst.snd.fst = false → (false, ()) = (true, ()))) ∧ ((ByteArray.toList x.fst.fst == ByteArray.toList x.snd.fst.fst) = false → (false, ()) = (true, ()))
set_option maxRecDepth 100000 in
theorem w_kKeptTide (y : El sp_kKeptTide.q) (x : Els sp_kKeptTide.ps) : aw c_kKeptTide (iv_kKeptTide y x) (codeOf Tryz.f84) 0 (retQ c_kKeptTide sp_kKeptTide (Tryz.f84).results.toList y x) (startT sp_kKeptTide x) (startO sp_kKeptTide y) 1 = F_kKeptTide y x := by kernel_rfl
theorem m_kKeptTide (y : El (.un)) (x : Els [tTideL, tTide]) (h2 : wfE (.un) y) (h3 : wfEs [tTideL, tTide] x) (h4 : x.1.1 = x.2.1.1 ∧ x.1.2.1 = x.2.1.2.1 ∧ toGaL x.1.2.2.1 = toGa x.2.1.2.2.1 ∧ FewG (toGa x.2.1.2.2.1)) : F_kKeptTide y x := by
  unfold F_kKeptTide
  obtain ⟨e1, e2, e3, e4⟩ := h4
  simp only [ba_eq, eq_rot]
  refine ⟨fun _ => ⟨fun _ => ⟨⟨e3, e4⟩, by rintro _ rfl; rfl⟩, fun h => absurd e2 (of_decide_eq_false h)⟩, fun h => absurd e1 (of_decide_eq_false h)⟩
set_option maxRecDepth 100000 in
theorem fo_kKeptTide : FnOk Tryz.prog 84 sp_kKeptTide := fnOk_of (C := c_kKeptTide) iv_kKeptTide Tryz.func84 rfl (by kernel_rfl) tys_ok (prims_cons (spec_prim fo_kKeptG) prims_nil) mixed_ (Nat.le_refl _) rfl fun y x h1 h2 h3 h4 =>
  Eq.mpr (w_kKeptTide y x) (m_kKeptTide y x h2 h3 h4)
noncomputable def sp_tSmall : Spec := { q := .un, ps := [tTide, .it .i64], rs := [.bo], fresh := true, pre := fun _ _ => none, post := fun _ x => ((), (smallF (toFr x.1.2.2.1.1) x.2.1 && smallF (toFr x.1.2.2.1.2.1) x.2.1, ())) }
noncomputable def iv_tSmall (y : El sp_tSmall.q) (x : Els sp_tSmall.ps) : Nat → Option Inv := fun _ => none
noncomputable abbrev c_tSmall : Cfg := cfgS (Tryz.f70).ntmps false [(58, sp_lSmall.prim)]
def F_tSmall (y : El sp_tSmall.q) (x : Els sp_tSmall.ps) : Prop :=
  ∀ (r : El Ty.un × Els [Ty.bo]), r = ((), smallW x.fst.snd.snd.fst.fst.snd.fst x.snd.fst && smallW x.fst.snd.snd.fst.fst.snd.snd.fst x.snd.fst, ()) → (r.snd.fst = true → ∀ (r : El Ty.un × Els [Ty.bo]), r = ((), smallW x.fst.snd.snd.fst.snd.fst.snd.fst x.snd.fst && smallW x.fst.snd.snd.fst.snd.fst.snd.snd.fst x.snd.fst, ()) → r.snd = (smallF (toFr x.fst.snd.snd.fst.fst) x.snd.fst && smallF (toFr x.fst.snd.snd.fst.snd.fst) x.snd.fst, ())) ∧ (r.snd.fst = false → (false, ()) = (smallF (toFr x.fst.snd.snd.fst.fst) x.snd.fst && smallF (toFr x.fst.snd.snd.fst.snd.fst) x.snd.fst, ()))
set_option maxRecDepth 100000 in
theorem w_tSmall (y : El sp_tSmall.q) (x : Els sp_tSmall.ps) : aw c_tSmall (iv_tSmall y x) (codeOf Tryz.f70) 0 (retQ c_tSmall sp_tSmall (Tryz.f70).results.toList y x) (startT sp_tSmall x) (startO sp_tSmall y) 1 = F_tSmall y x := by kernel_rfl
theorem m_tSmall (y : El (.un)) (x : Els [tTide, .it .i64]) (h2 : wfE (.un) y) (h3 : wfEs [tTide, .it .i64] x) : F_tSmall y x := by
  unfold F_tSmall
  rintro _ rfl
  refine ⟨fun k => ?_, fun k => ?_⟩
  · rintro _ rfl
    simp_all [smallF]
  · simp_all [smallF]
set_option maxRecDepth 100000 in
theorem fo_tSmall : FnOk Tryz.prog 70 sp_tSmall := fnOk_of (C := c_tSmall) iv_tSmall Tryz.func70 rfl (by kernel_rfl) tys_ok (prims_cons (spec_prim fo_lSmall) prims_nil) mixed_ (Nat.le_refl _) rfl fun y x h1 h2 h3 h4 =>
  Eq.mpr (w_tSmall y x) (m_tSmall y x h2 h3)
noncomputable def sp_t1 : Spec := { q := .un, ps := [tTide, tTide, tTide, .it .i64, .it .i64, .it .i64], rs := [.bo], fresh := true, pre := fun _ _ => none, post := fun _ x => ((), (sameT x.1 x.2.2.1 && sameT x.2.1 x.2.2.1 && decide (x.2.2.2.1 = x.2.2.2.2.2.1) && decide (x.2.2.2.2.1 = x.2.2.2.2.2.1), ())) }
noncomputable def iv_t1 (y : El sp_t1.q) (x : Els sp_t1.ps) : Nat → Option Inv := fun _ => none
noncomputable abbrev c_t1 : Cfg := cfgS (Tryz.f83).ntmps false [(186, sp_kSameTide.prim)]
def F_t1 (y : El sp_t1.q) (x : Els sp_t1.ps) : Prop :=
  ∀ (r : El Ty.un × Els [Ty.bo]), r = ((), sameT x.fst x.snd.snd.fst, ()) → (r.snd.fst = true → ∀ (r : El Ty.un × Els [Ty.bo]), r = ((), sameT x.snd.fst x.snd.snd.fst, ()) → (r.snd.fst = true → ((x.snd.snd.snd.fst == x.snd.snd.snd.snd.snd.fst) = true → (x.snd.snd.snd.snd.fst == x.snd.snd.snd.snd.snd.fst, ()) = (sameT x.fst x.snd.snd.fst && sameT x.snd.fst x.snd.snd.fst && decide (x.snd.snd.snd.fst = x.snd.snd.snd.snd.snd.fst) && decide (x.snd.snd.snd.snd.fst = x.snd.snd.snd.snd.snd.fst), ())) ∧ ((x.snd.snd.snd.fst == x.snd.snd.snd.snd.snd.fst) = false → (false, ()) = (sameT x.fst x.snd.snd.fst && sameT x.snd.fst x.snd.snd.fst && decide (x.snd.snd.snd.fst = x.snd.snd.snd.snd.snd.fst) && decide (x.snd.snd.snd.snd.fst = x.snd.snd.snd.snd.snd.fst), ()))) ∧ (r.snd.fst = false → (false, ()) = (sameT x.fst x.snd.snd.fst && sameT x.snd.fst x.snd.snd.fst && decide (x.snd.snd.snd.fst = x.snd.snd.snd.snd.snd.fst) && decide (x.snd.snd.snd.snd.fst = x.snd.snd.snd.snd.snd.fst), ()))) ∧ (r.snd.fst = false → (false, ()) = (sameT x.fst x.snd.snd.fst && sameT x.snd.fst x.snd.snd.fst && decide (x.snd.snd.snd.fst = x.snd.snd.snd.snd.snd.fst) && decide (x.snd.snd.snd.snd.fst = x.snd.snd.snd.snd.snd.fst), ()))
set_option maxRecDepth 100000 in
theorem w_t1 (y : El sp_t1.q) (x : Els sp_t1.ps) : aw c_t1 (iv_t1 y x) (codeOf Tryz.f83) 0 (retQ c_t1 sp_t1 (Tryz.f83).results.toList y x) (startT sp_t1 x) (startO sp_t1 y) 1 = F_t1 y x := by kernel_rfl
theorem m_t1 (y : El (.un)) (x : Els [tTide, tTide, tTide, .it .i64, .it .i64, .it .i64]) (h2 : wfE (.un) y) (h3 : wfEs [tTide, tTide, tTide, .it .i64, .it .i64, .it .i64] x) : F_t1 y x := by
  unfold F_t1
  rintro _ rfl
  refine ⟨fun k => ?_, fun k => ?_⟩
  · rintro _ rfl
    refine ⟨fun l => ⟨fun m => ?_, fun m => ?_⟩, fun l => ?_⟩
    all_goals
      simp only [beq_dec] at *
      simp_all
  · simp_all
set_option maxRecDepth 100000 in
theorem fo_t1 : FnOk Tryz.prog 83 sp_t1 := fnOk_of (C := c_t1) iv_t1 Tryz.func83 rfl (by kernel_rfl) tys_ok (prims_cons (spec_prim fo_kSameTide) prims_nil) mixed_ (Nat.le_refl _) rfl fun y x h1 h2 h3 h4 =>
  Eq.mpr (w_t1 y x) (m_t1 y x h2 h3)
end Go.Proofs.YtifonmdcicegdaaGreat

