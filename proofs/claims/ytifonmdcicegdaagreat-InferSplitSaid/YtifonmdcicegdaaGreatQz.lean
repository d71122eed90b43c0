/- Texts of this claim, joined: B15 B16 B17. -/
import Derived.Test.YtifonmdcicegdaaGreatQy
set_option linter.unusedVariables false
set_option linter.unusedSimpArgs false
namespace Go.Proofs.YtifonmdcicegdaaGreat
open Go Go.RowKit

def lett (c : Int) : Bool := decide (97 ≤ c ∧ c ≤ 122) || decide (65 ≤ c ∧ c ≤ 90)
def digI (c : Int) : Bool := decide (48 ≤ c ∧ c ≤ 57)
def gi (s : ByteArray) (i : Nat) : Int := ((s.get! i).toNat : Int)
def nameS (s : ByteArray) : Bool := decide (0 < s.size ∧ s.size ≤ 20) && lett (gi s 0) && (List.range s.size).all fun i => lett (gi s i) || digI (gi s i)
theorem ntt {b : Bool} (h : (!b) = true) : b = false := by simpa using h
theorem nff {b : Bool} (h : (!b) = false) : b = true := by simpa using h
theorem ba_loop (s : ByteArray) (i : Nat) (r : List UInt8) : ByteArray.toList.loop s i r = r.reverse ++ s.data.toList.drop i := by
  by_cases h : i < s.size
  · rw [ByteArray.toList.loop, if_pos h, ba_loop s (i + 1), List.reverse_cons, List.append_assoc]
    have hl : i < s.data.toList.length := h
    rw [List.drop_eq_getElem_cons hl]
    congr 1
    show [s.get! i] ++ _ = _
    have : s.get! i = s.data.toList[i] := by
      show s.data[i]! = _
      rw [getElem!_pos s.data i h]
      simp
    rw [this]
    rfl
  · rw [ByteArray.toList.loop, if_neg h, List.drop_of_length_le (by show s.data.toList.length ≤ i; simpa using h), List.append_nil]
  termination_by s.size - i
theorem ba_list (s : ByteArray) : s.toList = s.data.toList := by
  unfold ByteArray.toList
  rw [ba_loop]
  rfl
theorem ba_eq (a b : ByteArray) : (a.toList == b.toList) = decide (a = b) := by
  rw [Bool.eq_iff_iff, beq_iff_eq, decide_eq_true_eq, ba_list, ba_list]
  constructor
  · intro h
    obtain ⟨⟨a⟩⟩ := a
    obtain ⟨⟨b⟩⟩ := b
    have h : a = b := h
    rw [h]
  · intro h; rw [h]
theorem ba_0 (s : ByteArray) : (s.toList == ByteArray.toList { data := #[] }) = decide (s.size = 0) := by
  rw [Bool.eq_iff_iff, beq_iff_eq, decide_eq_true_eq, ba_list, ba_list]
  obtain ⟨⟨a⟩⟩ := s
  show a = [] ↔ a.length = 0
  simp
theorem all_succ_ {i : Nat} {f : Nat → Bool} (h : (List.range i).all f = true) (k : f i = true) : (List.range (i + 1)).all f = true := by
  rw [List.range_succ, List.all_append, h]
  simp [k]
theorem nameS_0 {s : ByteArray} (h : s.size = 0) : (false, ()) = (nameS s, ()) := by
  unfold nameS
  rw [decide_eq_false (by omega)]
  rfl
theorem nameS_long {s : ByteArray} (h : 20 < s.size) : (false, ()) = (nameS s, ()) := by
  unfold nameS
  rw [decide_eq_false (by omega)]
  rfl
theorem nameS_first {s : ByteArray} (h : lett (gi s 0) = false) : (false, ()) = (nameS s, ()) := by
  unfold nameS
  rw [h]
  simp
theorem nameS_bad {s : ByteArray} {i : Nat} (h : i < s.size) (k : (lett (gi s i) || digI (gi s i)) = false) : (false, ()) = (nameS s, ()) := by
  have : ((List.range s.size).all fun i => lett (gi s i) || digI (gi s i)) = false := by
    rw [List.all_eq_false]
    exact ⟨i, List.mem_range.2 h, by rw [k]; decide⟩
  unfold nameS
  rw [this]
  simp
theorem nameS_ok {s : ByteArray} (h : 0 < s.size) (k : s.size ≤ 20) (l : lett (gi s 0) = true) (m : ((List.range s.size).all fun i => lett (gi s i) || digI (gi s i)) = true) : (true, ()) = (nameS s, ()) := by
  unfold nameS
  rw [m, l, decide_eq_true ⟨h, k⟩]
  rfl
theorem ltT {a b : Int} (h : decide (a < b) = true) : a < b := of_decide_eq_true h
theorem ltF {a b : Int} (h : decide (a < b) = false) : b ≤ a := by have := of_decide_eq_false h; omega
theorem gtT {a b : Int} (h : decide (a > b) = true) : b < a := of_decide_eq_true h
theorem gtF {a b : Int} (h : decide (a > b) = false) : a ≤ b := by have := of_decide_eq_false h; omega
theorem leT {a b : Int} (h : decide (a ≤ b) = true) : a ≤ b := of_decide_eq_true h
theorem leF {a b : Int} (h : decide (a ≤ b) = false) : b < a := by have := of_decide_eq_false h; omega
theorem eqT {a b : Int} (h : (a == b) = true) : a = b := eq_of_beq h
theorem eqF {a b : Int} (h : (a == b) = false) : a ≠ b := ne_of_beq_false h
theorem neT {a b : Int} (h : (a != b) = true) : a ≠ b := by simpa using h
theorem neF {a b : Int} (h : (a != b) = false) : a = b := by simpa using h
theorem lett_law (c : Int) : (decide (c ≥ 97) = true → (decide (c ≤ 122) = true → (true, ()) = (lett c, ())) ∧ (decide (c ≤ 122) = false → (decide (c ≥ 65) = true → (decide (c ≤ 90), ()) = (lett c, ())) ∧ (decide (c ≥ 65) = false → (false, ()) = (lett c, ())))) ∧ (decide (c ≥ 97) = false → (decide (c ≥ 65) = true → (decide (c ≤ 90), ()) = (lett c, ())) ∧ (decide (c ≥ 65) = false → (false, ()) = (lett c, ()))) := by
  unfold lett
  refine ⟨fun h => ⟨fun k => ?_, fun k => ⟨fun m => ?_, fun m => ?_⟩⟩, fun h => ⟨fun m => ?_, fun m => ?_⟩⟩
  all_goals
    simp only [decide_eq_true_eq, decide_eq_false_iff_not] at *
    refine congrArg (fun b => (b, ())) ?_
    rw [Bool.eq_iff_iff]
    simp only [Bool.or_eq_true, decide_eq_true_eq, true_iff, Bool.false_eq_true, false_iff]
    omega
theorem dig_law (c : Int) : (decide (c ≥ 48) = true → (decide (c ≤ 57), ()) = (digI c, ())) ∧ (decide (c ≥ 48) = false → (false, ()) = (digI c, ())) := by
  unfold digI
  refine ⟨fun h => ?_, fun h => ?_⟩
  all_goals
    simp only [decide_eq_true_eq, decide_eq_false_iff_not] at *
    refine congrArg (fun b => (b, ())) ?_
    rw [Bool.eq_iff_iff]
    simp only [decide_eq_true_eq, Bool.false_eq_true, false_iff]
    omega
noncomputable def sp_tletter : Spec := { q := .un, ps := [.it .u8], rs := [.bo], fresh := true, pre := fun _ _ => none, post := fun _ x => ((), (lett x.1, ())) }
noncomputable def iv_tletter (y : El sp_tletter.q) (x : Els sp_tletter.ps) : Nat → Option Inv := fun _ => none
noncomputable abbrev c_tletter : Cfg := cfgS (Tryz.f179).ntmps false []
def F_tletter (y : El sp_tletter.q) (x : Els sp_tletter.ps) : Prop :=
  (decide (x.fst ≥ (97 : Int)) = true → (decide (x.fst ≤ (122 : Int)) = true → (true, ()) = (lett x.fst, ())) ∧ (decide (x.fst ≤ (122 : Int)) = false → (decide (x.fst ≥ (65 : Int)) = true → (decide (x.fst ≤ (90 : Int)), ()) = (lett x.fst, ())) ∧ (decide (x.fst ≥ (65 : Int)) = false → (false, ()) = (lett x.fst, ())))) ∧ (decide (x.fst ≥ (97 : Int)) = false → (decide (x.fst ≥ (65 : Int)) = true → (decide (x.fst ≤ (90 : Int)), ()) = (lett x.fst, ())) ∧ (decide (x.fst ≥ (65 : Int)) = false → (false, ()) = (lett x.fst, ())))
set_option maxRecDepth 100000 in
theorem w_tletter (y : El sp_tletter.q) (x : Els sp_tletter.ps) : aw c_tletter (iv_tletter y x) (codeOf Tryz.f179) 0 (retQ c_tletter sp_tletter (Tryz.f179).results.toList y x) (startT sp_tletter x) (startO sp_tletter y) 1 = F_tletter y x := by kernel_rfl
theorem m_tletter (y : El (.un)) (x : Els [.it .u8]) (h2 : wfE (.un) y) (h3 : wfEs [.it .u8] x) : F_tletter y x := by
  unfold F_tletter
  exact lett_law x.1
set_option maxRecDepth 100000 in
theorem fo_tletter : FnOk Tryz.prog 179 sp_tletter := fnOk_of (C := c_tletter) iv_tletter Tryz.func179 rfl (by kernel_rfl) tys_ok prims_nil mixed_ (Nat.le_refl _) rfl fun y x h1 h2 h3 h4 =>
  Eq.mpr (w_tletter y x) (m_tletter y x h2 h3)
noncomputable def sp_nletter : Spec := { q := .un, ps := [.it .u8], rs := [.bo], fresh := true, pre := fun _ _ => none, post := fun _ x => ((), (lett x.1, ())) }
noncomputable def iv_nletter (y : El sp_nletter.q) (x : Els sp_nletter.ps) : Nat → Option Inv := fun _ => none
noncomputable abbrev c_nletter : Cfg := cfgS (Tryz.f180).ntmps false []
def F_nletter (y : El sp_nletter.q) (x : Els sp_nletter.ps) : Prop :=
  (decide (x.fst ≥ (97 : Int)) = true → (decide (x.fst ≤ (122 : Int)) = true → (true, ()) = (lett x.fst, ())) ∧ (decide (x.fst ≤ (122 : Int)) = false → (decide (x.fst ≥ (65 : Int)) = true → (decide (x.fst ≤ (90 : Int)), ()) = (lett x.fst, ())) ∧ (decide (x.fst ≥ (65 : Int)) = false → (false, ()) = (lett x.fst, ())))) ∧ (decide (x.fst ≥ (97 : Int)) = false → (decide (x.fst ≥ (65 : Int)) = true → (decide (x.fst ≤ (90 : Int)), ()) = (lett x.fst, ())) ∧ (decide (x.fst ≥ (65 : Int)) = false → (false, ()) = (lett x.fst, ())))
set_option maxRecDepth 100000 in
theorem w_nletter (y : El sp_nletter.q) (x : Els sp_nletter.ps) : aw c_nletter (iv_nletter y x) (codeOf Tryz.f180) 0 (retQ c_nletter sp_nletter (Tryz.f180).results.toList y x) (startT sp_nletter x) (startO sp_nletter y) 1 = F_nletter y x := by kernel_rfl
theorem m_nletter (y : El (.un)) (x : Els [.it .u8]) (h2 : wfE (.un) y) (h3 : wfEs [.it .u8] x) : F_nletter y x := by
  unfold F_nletter
  exact lett_law x.1
set_option maxRecDepth 100000 in
theorem fo_nletter : FnOk Tryz.prog 180 sp_nletter := fnOk_of (C := c_nletter) iv_nletter Tryz.func180 rfl (by kernel_rfl) tys_ok prims_nil mixed_ (Nat.le_refl _) rfl fun y x h1 h2 h3 h4 =>
  Eq.mpr (w_nletter y x) (m_nletter y x h2 h3)
noncomputable def sp_ndigit : Spec := { q := .un, ps := [.it .u8], rs := [.bo], fresh := true, pre := fun _ _ => none, post := fun _ x => ((), (digI x.1, ())) }
noncomputable def iv_ndigit (y : El sp_ndigit.q) (x : Els sp_ndigit.ps) : Nat → Option Inv := fun _ => none
noncomputable abbrev c_ndigit : Cfg := cfgS (Tryz.f181).ntmps false []
def F_ndigit (y : El sp_ndigit.q) (x : Els sp_ndigit.ps) : Prop :=
  (decide (x.fst ≥ (48 : Int)) = true → (decide (x.fst ≤ (57 : Int)), ()) = (digI x.fst, ())) ∧ (decide (x.fst ≥ (48 : Int)) = false → (false, ()) = (digI x.fst, ()))
set_option maxRecDepth 100000 in
theorem w_ndigit (y : El sp_ndigit.q) (x : Els sp_ndigit.ps) : aw c_ndigit (iv_ndigit y x) (codeOf Tryz.f181) 0 (retQ c_ndigit sp_ndigit (Tryz.f181).results.toList y x) (startT sp_ndigit x) (startO sp_ndigit y) 1 = F_ndigit y x := by kernel_rfl
theorem m_ndigit (y : El (.un)) (x : Els [.it .u8]) (h2 : wfE (.un) y) (h3 : wfEs [.it .u8] x) : F_ndigit y x := by
  unfold F_ndigit
  exact dig_law x.1
set_option maxRecDepth 100000 in
theorem fo_ndigit : FnOk Tryz.prog 181 sp_ndigit := fnOk_of (C := c_ndigit) iv_ndigit Tryz.func181 rfl (by kernel_rfl) tys_ok prims_nil mixed_ (Nat.le_refl _) rfl fun y x h1 h2 h3 h4 =>
  Eq.mpr (w_ndigit y x) (m_ndigit y x h2 h3)
noncomputable def sp_tName : Spec := { q := .un, ps := [.st], rs := [.bo], fresh := true, pre := fun _ _ => none, post := fun _ x => ((), (nameS x.1, ())) }
noncomputable def iv_tName (y : El sp_tName.q) (x : Els sp_tName.ps) : Nat → Option Inv := fun k => if k = 0 then some { X := Nat, tm := fun i => [(0, .c (.sc (.string x.1))), (19, .c (.sc (.int .i64 i))), (18, .c (.sc (.int .i64 x.1.size)))], ob := fun _ => [], n := 1, I := fun i => i ≤ x.1.size ∧ 0 < x.1.size ∧ x.1.size ≤ 20 ∧ lett (gi x.1 0) = true ∧ ((List.range i).all fun i => lett (gi x.1 i) || digI (gi x.1 i)) = true, μ := fun i => x.1.size - i } else none
noncomputable abbrev c_tName : Cfg := cfgS (Tryz.f72).ntmps false [(179, sp_tletter.prim)]
def F_tName (y : El sp_tName.q) (x : Els sp_tName.ps) : Prop :=
  ((ByteArray.toList x.fst == (ByteArray.toList (⟨#[]⟩ : ByteArray))) = true → (false, ()) = (nameS x.fst, ())) ∧ ((ByteArray.toList x.fst == (ByteArray.toList (⟨#[]⟩ : ByteArray))) = false → (decide ((↑(ByteArray.size x.fst) : Int) > (20 : Int)) = true → (false, ()) = (nameS x.fst, ())) ∧ (decide ((↑(ByteArray.size x.fst) : Int) > (20 : Int)) = false → ((0 : Int) ≤ (0 : Int) ∧ (0 : Int) < (↑(ByteArray.size x.fst) : Int)) ∧ ∀ (r : El Ty.un × Els [Ty.bo]), r = ((), lett (↑(ByteArray.get! x.fst (Int.toNat (0 : Int))).toNat : Int), ()) → ((!r.snd.fst) = true → (false, ()) = (nameS x.fst, ())) ∧ ((!r.snd.fst) = false → (∃ (x_1 : Nat), x.fst = x.fst ∧ (↑x_1 : Int) = (0 : Int) ∧ (↑(ByteArray.size x.fst) : Int) = (↑(ByteArray.size x.fst) : Int) ∧ x_1 ≤ ByteArray.size x.fst ∧ (0 : Nat) < ByteArray.size x.fst ∧ ByteArray.size x.fst ≤ (20 : Nat) ∧ lett (gi x.fst (0 : Nat)) = true ∧ ((List.range x_1).all fun (i : Nat) => lett (gi x.fst i) || digI (gi x.fst i)) = true) ∧ ∀ (x_1 : Nat), x_1 ≤ ByteArray.size x.fst ∧ (0 : Nat) < ByteArray.size x.fst ∧ ByteArray.size x.fst ≤ (20 : Nat) ∧ lett (gi x.fst (0 : Nat)) = true ∧ ((List.range x_1).all fun (i : Nat) => lett (gi x.fst i) || digI (gi x.fst i)) = true → (decide ((↑x_1 : Int) < (↑(ByteArray.size x.fst) : Int)) = true → ((0 : Int) ≤ (↑x_1 : Int) ∧ (↑x_1 : Int) < (↑(ByteArray.size x.fst) : Int)) ∧ ∀ (r : El Ty.un × Els [Ty.bo]), r = ((), lett (↑(ByteArray.get! x.fst (↑x_1 : Int).toNat).toNat : Int), ()) → ((!r.snd.fst) = true → ((0 : Int) ≤ (↑x_1 : Int) ∧ (↑x_1 : Int) < (↑(ByteArray.size x.fst) : Int)) ∧ (decide ((↑(ByteArray.get! x.fst (↑x_1 : Int).toNat).toNat : Int) < (48 : Int)) = true → (false, ()) = (nameS x.fst, ())) ∧ (decide ((↑(ByteArray.get! x.fst (↑x_1 : Int).toNat).toNat : Int) < (48 : Int)) = false → ((0 : Int) ≤ (↑x_1 : Int) ∧ (↑x_1 : Int) < (↑(ByteArray.size x.fst) : Int)) ∧ (decide ((↑(ByteArray.get! x.fst (↑x_1 : Int).toNat).toNat : Int) > (57 : Int)) = true → (false, ()) = (nameS x.fst, ())) ∧ (decide ((↑(ByteArray.get! x.fst (↑x_1 : Int).toNat).toNat : Int) > (57 : Int)) = false → ((-9223372036854775808 : Int) ≤ (↑x_1 : Int) + (1 : Int) ∧ (↑x_1 : Int) + (1 : Int) ≤ (9223372036854775807 : Int)) ∧ ∃ (x' : Nat), x.fst = x.fst ∧ (↑x' : Int) = (↑x_1 : Int) + (1 : Int) ∧ (↑(ByteArray.size x.fst) : Int) = (↑(ByteArray.size x.fst) : Int) ∧ (x' ≤ ByteArray.size x.fst ∧ (0 : Nat) < ByteArray.size x.fst ∧ ByteArray.size x.fst ≤ (20 : Nat) ∧ lett (gi x.fst (0 : Nat)) = true ∧ ((List.range x').all fun (i : Nat) => lett (gi x.fst i) || digI (gi x.fst i)) = true) ∧ ByteArray.size x.fst - x' < ByteArray.size x.fst - x_1))) ∧ ((!r.snd.fst) = false → ((-9223372036854775808 : Int) ≤ (↑x_1 : Int) + (1 : Int) ∧ (↑x_1 : Int) + (1 : Int) ≤ (9223372036854775807 : Int)) ∧ ∃ (x' : Nat), x.fst = x.fst ∧ (↑x' : Int) = (↑x_1 : Int) + (1 : Int) ∧ (↑(ByteArray.size x.fst) : Int) = (↑(ByteArray.size x.fst) : Int) ∧ (x' ≤ ByteArray.size x.fst ∧ (0 : Nat) < ByteArray.size x.fst ∧ ByteArray.size x.fst ≤ (20 : Nat) ∧ lett (gi x.fst (0 : Nat)) = true ∧ ((List.range x').all fun (i : Nat) => lett (gi x.fst i) || digI (gi x.fst i)) = true) ∧ ByteArray.size x.fst - x' < ByteArray.size x.fst - x_1)) ∧ (decide ((↑x_1 : Int) < (↑(ByteArray.size x.fst) : Int)) = false → (true, ()) = (nameS x.fst, ())))))
set_option maxRecDepth 100000 in
theorem w_tName (y : El sp_tName.q) (x : Els sp_tName.ps) : aw c_tName (iv_tName y x) (codeOf Tryz.f72) 0 (retQ c_tName sp_tName (Tryz.f72).results.toList y x) (startT sp_tName x) (startO sp_tName y) 1 = F_tName y x := by kernel_rfl
theorem m_tName (y : El (.un)) (x : Els [.st]) (h2 : wfE (.un) y) (h3 : wfEs [.st] x) : F_tName y x := by
  unfold F_tName
  have gz : ∀ i : Nat, ((ByteArray.get! x.1 ((i : Int)).toNat).toNat : Int) = gi x.1 i := fun i => by rw [Int.toNat_natCast]; rfl
  refine ⟨fun h => ?_, fun h => ⟨fun k => ?_, fun k => ⟨⟨Int.le_refl _, ?_⟩, ?_⟩⟩⟩
  · rw [ba_0] at h
    exact nameS_0 (of_decide_eq_true h)
  · exact nameS_long (by have := of_decide_eq_true k; omega)
  all_goals
    rw [ba_0] at h
    have h := of_decide_eq_false h
    have k := of_decide_eq_false k
  · omega
  rintro _ rfl
  refine ⟨fun m => nameS_first (ntt m), fun m => ⟨⟨0, rfl, rfl, rfl, Nat.zero_le _, by omega, by omega, nff m, rfl⟩, fun i hi => ⟨fun l => ?_, fun l => ?_⟩⟩⟩
  · obtain ⟨i0, i1, i2, i3, i4⟩ := hi
    have l := of_decide_eq_true l
    have il : i < x.1.size := by omega
    refine ⟨⟨by omega, l⟩, ?_⟩
    rintro _ rfl
    simp only [gz]
    refine ⟨fun m => ⟨⟨by omega, l⟩, fun u => ?_, fun u => ⟨⟨by omega, l⟩, fun v => ?_, fun v => ⟨by omega, i + 1, (by first | exact rfl | exact trivial), rfl, (by first | exact rfl | exact trivial), ⟨il, i1, i2, i3, all_succ_ i4 ?_⟩, by omega⟩⟩⟩, fun m => ⟨by omega, i + 1, (by first | exact rfl | exact trivial), rfl, (by first | exact rfl | exact trivial), ⟨il, i1, i2, i3, all_succ_ i4 ?_⟩, by omega⟩⟩
    · have u := of_decide_eq_true u
      exact nameS_bad il (by rw [(ntt m : lett (gi x.1 i) = false)]; unfold digI; rw [decide_eq_false (by omega)]; rfl)
    · have v := of_decide_eq_true v
      exact nameS_bad il (by rw [(ntt m : lett (gi x.1 i) = false)]; unfold digI; rw [decide_eq_false (by omega)]; rfl)
    · have u := of_decide_eq_false u
      have v := of_decide_eq_false v
      show (lett (gi x.1 i) || digI (gi x.1 i)) = true
      unfold digI
      rw [decide_eq_true (by omega)]
      simp
    · show (lett (gi x.1 i) || digI (gi x.1 i)) = true
      rw [(nff m : lett (gi x.1 i) = true)]
      rfl
  · obtain ⟨i0, i1, i2, i3, i4⟩ := hi
    have l := of_decide_eq_false l
    have e : i = x.1.size := by omega
    rw [e] at i4
    exact nameS_ok i1 i2 i3 i4
set_option maxRecDepth 100000 in
theorem fo_tName : FnOk Tryz.prog 72 sp_tName := fnOk_of (C := c_tName) iv_tName Tryz.func72 rfl (by kernel_rfl) tys_ok (prims_cons (spec_prim fo_tletter) prims_nil) mixed_ (Nat.le_refl _) rfl fun y x h1 h2 h3 h4 =>
  Eq.mpr (w_tName y x) (m_tName y x h2 h3)
noncomputable def sp_nName : Spec := { q := .un, ps := [.st], rs := [.bo], fresh := true, pre := fun _ _ => none, post := fun _ x => ((), (nameS x.1, ())) }
noncomputable def iv_nName (y : El sp_nName.q) (x : Els sp_nName.ps) : Nat → Option Inv := fun k => if k = 0 then some { X := Nat, tm := fun i => [(0, .c (.sc (.string x.1))), (3, .c (.sc (.int .i64 i)))], ob := fun _ => [], n := 1, I := fun i => i ≤ x.1.size ∧ 0 < x.1.size ∧ x.1.size ≤ 20 ∧ lett (gi x.1 0) = true ∧ ((List.range i).all fun i => lett (gi x.1 i) || digI (gi x.1 i)) = true, μ := fun i => x.1.size - i } else none
noncomputable abbrev c_nName : Cfg := cfgS (Tryz.f73).ntmps false [(180, sp_nletter.prim), (181, sp_ndigit.prim)]
def F_nName (y : El sp_nName.q) (x : Els sp_nName.ps) : Prop :=
  (decide ((↑(ByteArray.size x.fst) : Int) < (1 : Int)) = true → (false, ()) = (nameS x.fst, ())) ∧ (decide ((↑(ByteArray.size x.fst) : Int) < (1 : Int)) = false → (decide ((↑(ByteArray.size x.fst) : Int) > (20 : Int)) = true → (false, ()) = (nameS x.fst, ())) ∧ (decide ((↑(ByteArray.size x.fst) : Int) > (20 : Int)) = false → ((0 : Int) ≤ (0 : Int) ∧ (0 : Int) < (↑(ByteArray.size x.fst) : Int)) ∧ ∀ (r : El Ty.un × Els [Ty.bo]), r = ((), lett (↑(ByteArray.get! x.fst (Int.toNat (0 : Int))).toNat : Int), ()) → ((!r.snd.fst) = true → (false, ()) = (nameS x.fst, ())) ∧ ((!r.snd.fst) = false → (∃ (x_1 : Nat), x.fst = x.fst ∧ (↑x_1 : Int) = (0 : Int) ∧ x_1 ≤ ByteArray.size x.fst ∧ (0 : Nat) < ByteArray.size x.fst ∧ ByteArray.size x.fst ≤ (20 : Nat) ∧ lett (gi x.fst (0 : Nat)) = true ∧ ((List.range x_1).all fun (i : Nat) => lett (gi x.fst i) || digI (gi x.fst i)) = true) ∧ ∀ (x_1 : Nat), x_1 ≤ ByteArray.size x.fst ∧ (0 : Nat) < ByteArray.size x.fst ∧ ByteArray.size x.fst ≤ (20 : Nat) ∧ lett (gi x.fst (0 : Nat)) = true ∧ ((List.range x_1).all fun (i : Nat) => lett (gi x.fst i) || digI (gi x.fst i)) = true → (decide ((↑x_1 : Int) < (↑(ByteArray.size x.fst) : Int)) = true → ((0 : Int) ≤ (↑x_1 : Int) ∧ (↑x_1 : Int) < (↑(ByteArray.size x.fst) : Int)) ∧ ∀ (r : El Ty.un × Els [Ty.bo]), r = ((), lett (↑(ByteArray.get! x.fst (↑x_1 : Int).toNat).toNat : Int), ()) → ((!r.snd.fst) = true → ((0 : Int) ≤ (↑x_1 : Int) ∧ (↑x_1 : Int) < (↑(ByteArray.size x.fst) : Int)) ∧ ∀ (r : El Ty.un × Els [Ty.bo]), r = ((), digI (↑(ByteArray.get! x.fst (↑x_1 : Int).toNat).toNat : Int), ()) → ((!r.snd.fst) = true → (false, ()) = (nameS x.fst, ())) ∧ ((!r.snd.fst) = false → ((-9223372036854775808 : Int) ≤ (↑x_1 : Int) + (1 : Int) ∧ (↑x_1 : Int) + (1 : Int) ≤ (9223372036854775807 : Int)) ∧ ∃ (x' : Nat), x.fst = x.fst ∧ (↑x' : Int) = (↑x_1 : Int) + (1 : Int) ∧ (x' ≤ ByteArray.size x.fst ∧ (0 : Nat) < ByteArray.size x.fst ∧ ByteArray.size x.fst ≤ (20 : Nat) ∧ lett (gi x.fst (0 : Nat)) = true ∧ ((List.range x').all fun (i : Nat) => lett (gi x.fst i) || digI (gi x.fst i)) = true) ∧ ByteArray.size x.fst - x' < ByteArray.size x.fst - x_1)) ∧ ((!r.snd.fst) = false → ((-9223372036854775808 : Int) ≤ (↑x_1 : Int) + (1 : Int) ∧ (↑x_1 : Int) + (1 : Int) ≤ (9223372036854775807 : Int)) ∧ ∃ (x' : Nat), x.fst = x.fst ∧ (↑x' : Int) = (↑x_1 : Int) + (1 : Int) ∧ (x' ≤ ByteArray.size x.fst ∧ (0 : Nat) < ByteArray.size x.fst ∧ ByteArray.size x.fst ≤ (20 : Nat) ∧ lett (gi x.fst (0 : Nat)) = true ∧ ((List.range x').all fun (i : Nat) => lett (gi x.fst i) || digI (gi x.fst i)) = true) ∧ ByteArray.size x.fst - x' < ByteArray.size x.fst - x_1)) ∧ (decide ((↑x_1 : Int) < (↑(ByteArray.size x.fst) : Int)) = false → (true, ()) = (nameS x.fst, ())))))
set_option maxRecDepth 100000 in
theorem w_nName (y : El sp_nName.q) (x : Els sp_nName.ps) : aw c_nName (iv_nName y x) (codeOf Tryz.f73) 0 (retQ c_nName sp_nName (Tryz.f73).results.toList y x) (startT sp_nName x) (startO sp_nName y) 1 = F_nName y x := by kernel_rfl
theorem m_nName (y : El (.un)) (x : Els [.st]) (h2 : wfE (.un) y) (h3 : wfEs [.st] x) : F_nName y x := by
  unfold F_nName
  have gz : ∀ i : Nat, ((ByteArray.get! x.1 ((i : Int)).toNat).toNat : Int) = gi x.1 i := fun i => by rw [Int.toNat_natCast]; rfl
  refine ⟨fun h => ?_, fun h => ⟨fun k => ?_, fun k => ⟨⟨Int.le_refl _, ?_⟩, ?_⟩⟩⟩
  · exact nameS_0 (by have := of_decide_eq_true h; omega)
  · exact nameS_long (by have := of_decide_eq_true k; omega)
  all_goals
    have h := of_decide_eq_false h
    have k := of_decide_eq_false k
  · omega
  rintro _ rfl
  refine ⟨fun m => nameS_first (ntt m), fun m => ⟨⟨0, rfl, rfl, Nat.zero_le _, by omega, by omega, nff m, rfl⟩, fun i hi => ⟨fun l => ?_, fun l => ?_⟩⟩⟩
  · obtain ⟨i0, i1, i2, i3, i4⟩ := hi
    have l := of_decide_eq_true l
    have il : i < x.1.size := by omega
    refine ⟨⟨by omega, l⟩, ?_⟩
    rintro _ rfl
    simp only [gz]
    refine ⟨fun m => ⟨⟨by omega, l⟩, ?_⟩, fun m => ⟨by omega, i + 1, (by first | exact rfl | exact trivial), rfl, ⟨il, i1, i2, i3, all_succ_ i4 ?_⟩, by omega⟩⟩
    · rintro _ rfl
      refine ⟨fun u => nameS_bad il (by rw [(ntt m : lett (gi x.1 i) = false), (ntt u : digI (gi x.1 i) = false)]; rfl), fun u => ⟨by omega, i + 1, (by first | exact rfl | exact trivial), rfl, ⟨il, i1, i2, i3, all_succ_ i4 ?_⟩, by omega⟩⟩
      show (lett (gi x.1 i) || digI (gi x.1 i)) = true
      rw [(nff u : digI (gi x.1 i) = true)]
      simp
    · show (lett (gi x.1 i) || digI (gi x.1 i)) = true
      rw [(nff m : lett (gi x.1 i) = true)]
      rfl
  · obtain ⟨i0, i1, i2, i3, i4⟩ := hi
    have l := of_decide_eq_false l
    have e : i = x.1.size := by omega
    rw [e] at i4
    exact nameS_ok i1 i2 i3 i4
set_option maxRecDepth 100000 in
theorem fo_nName : FnOk Tryz.prog 73 sp_nName := fnOk_of (C := c_nName) iv_nName Tryz.func73 rfl (by kernel_rfl) tys_ok (prims_cons (spec_prim fo_nletter) (prims_cons (spec_prim fo_ndigit) prims_nil)) mixed_ (Nat.le_refl _) rfl fun y x h1 h2 h3 h4 =>
  Eq.mpr (w_nName y x) (m_nName y x h2 h3)
theorem gcd_tstep (a b : Int) : Int.gcd b (a.tmod b) = Int.gcd a b := by
  show Nat.gcd b.natAbs (a.tmod b).natAbs = Nat.gcd a.natAbs b.natAbs
  rw [Int.natAbs_tmod, Nat.gcd_comm, ← Nat.gcd_rec, Nat.gcd_comm]
theorem abs_if (a : Int) : (if -a > a then -a else a) = (a.natAbs : Int) := by
  split <;> omega
noncomputable def sp_rcommon : Spec := { q := .un, ps := [.it .i64, .it .i64], rs := [.it .i64], fresh := true, pre := fun _ x => some (x.1.natAbs ≤ 10000000000 ∧ x.2.1.natAbs ≤ 10000000000), post := fun _ x => ((), (((Int.gcd x.1 x.2.1 : Nat) : Int), ())) }
noncomputable def iv_rcommon (y : El sp_rcommon.q) (x : Els sp_rcommon.ps) : Nat → Option Inv := fun k => if k = 0 then some { X := Int × Int, tm := fun i => [(0, .c (.sc (.int .i64 i.1))), (1, .c (.sc (.int .i64 i.2)))], ob := fun _ => [], n := 1, I := fun i => Int.gcd i.1 i.2 = Int.gcd x.1 x.2.1 ∧ i.1.natAbs ≤ 10000000000 ∧ i.2.natAbs ≤ 10000000000, μ := fun i => i.2.natAbs } else none
noncomputable abbrev c_rcommon : Cfg := cfgS (Tryz.f248).ntmps false []
def F_rcommon (y : El sp_rcommon.q) (x : Els sp_rcommon.ps) : Prop :=
  (∃ (x_1 : Int × Int), x_1.fst = x.fst ∧ x_1.snd = x.snd.fst ∧ x_1.fst.gcd x_1.snd = Int.gcd x.fst x.snd.fst ∧ x_1.fst.natAbs ≤ (10000000000 : Nat) ∧ x_1.snd.natAbs ≤ (10000000000 : Nat)) ∧ ∀ (x_1 : Int × Int), x_1.fst.gcd x_1.snd = Int.gcd x.fst x.snd.fst ∧ x_1.fst.natAbs ≤ (10000000000 : Nat) ∧ x_1.snd.natAbs ≤ (10000000000 : Nat) → ((x_1.snd != (0 : Int)) = true → x_1.snd ≠ (0 : Int) ∧ ∃ (x' : Int × Int), x'.fst = x_1.snd ∧ x'.snd = x_1.fst.tmod x_1.snd ∧ (x'.fst.gcd x'.snd = Int.gcd x.fst x.snd.fst ∧ x'.fst.natAbs ≤ (10000000000 : Nat) ∧ x'.snd.natAbs ≤ (10000000000 : Nat)) ∧ x'.snd.natAbs < x_1.snd.natAbs) ∧ ((x_1.snd != (0 : Int)) = false → ((-9223372036854775808 : Int) ≤ -x_1.fst ∧ -x_1.fst ≤ (9223372036854775807 : Int)) ∧ (if -x_1.fst > x_1.fst then -x_1.fst else x_1.fst, ()) = ((↑(Int.gcd x.fst x.snd.fst) : Int), ()))
set_option maxRecDepth 100000 in
theorem w_rcommon (y : El sp_rcommon.q) (x : Els sp_rcommon.ps) : aw c_rcommon (iv_rcommon y x) (codeOf Tryz.f248) 0 (retQ c_rcommon sp_rcommon (Tryz.f248).results.toList y x) (startT sp_rcommon x) (startO sp_rcommon y) 1 = F_rcommon y x := by kernel_rfl
theorem m_rcommon (y : El (.un)) (x : Els [.it .i64, .it .i64]) (h2 : wfE (.un) y) (h3 : wfEs [.it .i64, .it .i64] x) (h4 : x.1.natAbs ≤ 10000000000 ∧ x.2.1.natAbs ≤ 10000000000) : F_rcommon y x := by
  unfold F_rcommon
  obtain ⟨h5, h6⟩ := h4
  refine ⟨⟨(x.1, x.2.1), rfl, rfl, rfl, h5, h6⟩, fun i hi => ?_⟩
  obtain ⟨i1, i2, i3⟩ := hi
  refine ⟨fun h => ?_, fun h => ⟨by omega, ?_⟩⟩
  · have h : i.2 ≠ 0 := by simpa using h
    have hp : 0 < i.2.natAbs := Int.natAbs_pos.2 h
    have hm : (i.1.tmod i.2).natAbs < i.2.natAbs := by rw [Int.natAbs_tmod]; exact Nat.mod_lt _ hp
    exact ⟨h, (i.2, i.1.tmod i.2), rfl, rfl, ⟨(gcd_tstep i.1 i.2).trans i1, i3, by show (i.1.tmod i.2).natAbs ≤ _; omega⟩, hm⟩
  · have h : i.2 = 0 := by simpa using h
    rw [h, Int.gcd_zero_right] at i1
    rw [abs_if, i1]
set_option maxRecDepth 100000 in
theorem fo_rcommon : FnOk Tryz.prog 248 sp_rcommon := fnOk_of (C := c_rcommon) iv_rcommon Tryz.func248 rfl (by kernel_rfl) tys_ok prims_nil mixed_ (Nat.le_refl _) rfl fun y x h1 h2 h3 h4 =>
  Eq.mpr (w_rcommon y x) (m_rcommon y x h2 h3 h4)
noncomputable def sp_ngcd : Spec := { q := .un, ps := [.it .i64, .it .i64], rs := [.it .i64], fresh := true, pre := fun _ x => some (x.1.natAbs ≤ 10000000000 ∧ x.2.1.natAbs ≤ 10000000000), post := fun _ x => ((), (((Int.gcd x.1 x.2.1 : Nat) : Int), ())) }
noncomputable def iv_ngcd (y : El sp_ngcd.q) (x : Els sp_ngcd.ps) : Nat → Option Inv := fun k => if k = 0 then some { X := Int × Int, tm := fun i => [(0, .c (.sc (.int .i64 i.1))), (1, .c (.sc (.int .i64 i.2)))], ob := fun _ => [], n := 1, I := fun i => Int.gcd i.1 i.2 = Int.gcd x.1 x.2.1 ∧ i.1.natAbs ≤ 10000000000 ∧ i.2.natAbs ≤ 10000000000, μ := fun i => i.2.natAbs } else none
noncomputable abbrev c_ngcd : Cfg := cfgS (Tryz.f249).ntmps false []
def F_ngcd (y : El sp_ngcd.q) (x : Els sp_ngcd.ps) : Prop :=
  (∃ (x_1 : Int × Int), x_1.fst = x.fst ∧ x_1.snd = x.snd.fst ∧ x_1.fst.gcd x_1.snd = Int.gcd x.fst x.snd.fst ∧ x_1.fst.natAbs ≤ (10000000000 : Nat) ∧ x_1.snd.natAbs ≤ (10000000000 : Nat)) ∧ ∀ (x_1 : Int × Int), x_1.fst.gcd x_1.snd = Int.gcd x.fst x.snd.fst ∧ x_1.fst.natAbs ≤ (10000000000 : Nat) ∧ x_1.snd.natAbs ≤ (10000000000 : Nat) → ((x_1.snd != (0 : Int)) = true → x_1.snd ≠ (0 : Int) ∧ ∃ (x' : Int × Int), x'.fst = x_1.snd ∧ x'.snd = x_1.fst.tmod x_1.snd ∧ (x'.fst.gcd x'.snd = Int.gcd x.fst x.snd.fst ∧ x'.fst.natAbs ≤ (10000000000 : Nat) ∧ x'.snd.natAbs ≤ (10000000000 : Nat)) ∧ x'.snd.natAbs < x_1.snd.natAbs) ∧ ((x_1.snd != (0 : Int)) = false → ((-9223372036854775808 : Int) ≤ -x_1.fst ∧ -x_1.fst ≤ (9223372036854775807 : Int)) ∧ (if -x_1.fst > x_1.fst then -x_1.fst else x_1.fst, ()) = ((↑(Int.gcd x.fst x.snd.fst) : Int), ()))
set_option maxRecDepth 100000 in
theorem w_ngcd (y : El sp_ngcd.q) (x : Els sp_ngcd.ps) : aw c_ngcd (iv_ngcd y x) (codeOf Tryz.f249) 0 (retQ c_ngcd sp_ngcd (Tryz.f249).results.toList y x) (startT sp_ngcd x) (startO sp_ngcd y) 1 = F_ngcd y x := by kernel_rfl
theorem m_ngcd (y : El (.un)) (x : Els [.it .i64, .it .i64]) (h2 : wfE (.un) y) (h3 : wfEs [.it .i64, .it .i64] x) (h4 : x.1.natAbs ≤ 10000000000 ∧ x.2.1.natAbs ≤ 10000000000) : F_ngcd y x := by
  unfold F_ngcd
  obtain ⟨h5, h6⟩ := h4
  refine ⟨⟨(x.1, x.2.1), rfl, rfl, rfl, h5, h6⟩, fun i hi => ?_⟩
  obtain ⟨i1, i2, i3⟩ := hi
  refine ⟨fun h => ?_, fun h => ⟨by omega, ?_⟩⟩
  · have h : i.2 ≠ 0 := by simpa using h
    have hp : 0 < i.2.natAbs := Int.natAbs_pos.2 h
    have hm : (i.1.tmod i.2).natAbs < i.2.natAbs := by rw [Int.natAbs_tmod]; exact Nat.mod_lt _ hp
    exact ⟨h, (i.2, i.1.tmod i.2), rfl, rfl, ⟨(gcd_tstep i.1 i.2).trans i1, i3, by show (i.1.tmod i.2).natAbs ≤ _; omega⟩, hm⟩
  · have h : i.2 = 0 := by simpa using h
    rw [h, Int.gcd_zero_right] at i1
    rw [abs_if, i1]
set_option maxRecDepth 100000 in
theorem fo_ngcd : FnOk Tryz.prog 249 sp_ngcd := fnOk_of (C := c_ngcd) iv_ngcd Tryz.func249 rfl (by kernel_rfl) tys_ok prims_nil mixed_ (Nat.le_refl _) rfl fun y x h1 h2 h3 h4 =>
  Eq.mpr (w_ngcd y x) (m_ngcd y x h2 h3 h4)
def rotC (r : El tRot) : Int := if 1 ≤ r.1 ∧ r.1 ≤ 1000 ∧ -1000 ≤ r.2.1 ∧ r.2.1 ≤ 1000 ∧ r.2.1 ≠ 0 ∧ r.1 ≠ r.2.1 ∧ r.1 ≠ -r.2.1 ∧ Int.gcd r.1 r.2.1 = 1 then 0 else 150
def rotI (a b : Int) : Prop := 1 ≤ a ∧ a ≤ 1000 ∧ -1000 ≤ b ∧ b ≤ 1000 ∧ b ≠ 0 ∧ a ≠ b ∧ a ≠ -b ∧ Int.gcd a b = 1
def rotB (r : El tRot) : Prop := rotI r.1 r.2.1
theorem rotn {r : El tRot} (h : ¬ rotB r) : ((150 : Int), ()) = (rotC r, ()) := by
  unfold rotB rotI at h
  unfold rotC
  rw [if_neg h]
theorem roty {r : El tRot} (h : rotB r) : ((0 : Int), ()) = (rotC r, ()) := by
  unfold rotB rotI at h
  unfold rotC
  rw [if_pos h]
theorem i32_rng {a : Int} (h : IntKind.i32.min ≤ a ∧ a ≤ IntKind.i32.max) : -2147483648 ≤ a ∧ a ≤ 2147483647 := h
theorem wrap64_32 {a : Int} (h : -2147483648 ≤ a ∧ a ≤ 2147483647) : IntKind.i64.wrap a = a := wrap_id (k := .i64) (by have : IntKind.i64.min = -9223372036854775808 := rfl; omega) (by have : IntKind.i64.max = 9223372036854775807 := rfl; omega)
theorem wrap32_neg {a : Int} (h : -2147483648 < a ∧ a ≤ 2147483647) : IntKind.i32.wrap (0 - a) = -a := by
  rw [Int.zero_sub]
  exact wrap_id (k := .i32) (by have : IntKind.i32.min = -2147483648 := rfl; omega) (by have : IntKind.i32.max = 2147483647 := rfl; omega)
noncomputable def sp_rCk : Spec := { q := .un, ps := [tRot], rs := [.it .i64], fresh := true, pre := fun _ _ => none, post := fun _ x => ((), (rotC x.1, ())) }
noncomputable def iv_rCk (y : El sp_rCk.q) (x : Els sp_rCk.ps) : Nat → Option Inv := fun _ => none
noncomputable abbrev c_rCk : Cfg := cfgS (Tryz.f182).ntmps false [(248, sp_rcommon.prim)]
def F_rCk (y : El sp_rCk.q) (x : Els sp_rCk.ps) : Prop :=
  (decide (IntKind.i64.wrap x.fst.fst < (1 : Int)) = true → ((150 : Int), ()) = (rotC x.fst, ())) ∧ (decide (IntKind.i64.wrap x.fst.fst < (1 : Int)) = false → (decide (IntKind.i64.wrap x.fst.fst > (1000 : Int)) = true → ((150 : Int), ()) = (rotC x.fst, ())) ∧ (decide (IntKind.i64.wrap x.fst.fst > (1000 : Int)) = false → (decide (IntKind.i64.wrap x.fst.snd.fst < (-1000 : Int)) = true → ((150 : Int), ()) = (rotC x.fst, ())) ∧ (decide (IntKind.i64.wrap x.fst.snd.fst < (-1000 : Int)) = false → (decide (IntKind.i64.wrap x.fst.snd.fst > (1000 : Int)) = true → ((150 : Int), ()) = (rotC x.fst, ())) ∧ (decide (IntKind.i64.wrap x.fst.snd.fst > (1000 : Int)) = false → ((IntKind.i64.wrap x.fst.snd.fst == (0 : Int)) = true → ((150 : Int), ()) = (rotC x.fst, ())) ∧ ((IntKind.i64.wrap x.fst.snd.fst == (0 : Int)) = false → ((IntKind.i64.wrap x.fst.fst == IntKind.i64.wrap x.fst.snd.fst) = true → ((150 : Int), ()) = (rotC x.fst, ())) ∧ ((IntKind.i64.wrap x.fst.fst == IntKind.i64.wrap x.fst.snd.fst) = false → ((-9223372036854775808 : Int) ≤ -IntKind.i64.wrap x.fst.snd.fst ∧ -IntKind.i64.wrap x.fst.snd.fst ≤ (9223372036854775807 : Int)) ∧ ((IntKind.i64.wrap x.fst.fst == -IntKind.i64.wrap x.fst.snd.fst) = true → ((150 : Int), ()) = (rotC x.fst, ())) ∧ ((IntKind.i64.wrap x.fst.fst == -IntKind.i64.wrap x.fst.snd.fst) = false → ((IntKind.i64.wrap x.fst.fst).natAbs ≤ (10000000000 : Nat) ∧ (IntKind.i64.wrap x.fst.snd.fst).natAbs ≤ (10000000000 : Nat)) ∧ ∀ (r : El Ty.un × Els [Ty.it IntKind.i64]), r = ((), (↑((IntKind.i64.wrap x.fst.fst).gcd (IntKind.i64.wrap x.fst.snd.fst)) : Int), ()) → ((r.snd.fst != (1 : Int)) = true → ((150 : Int), ()) = (rotC x.fst, ())) ∧ ((r.snd.fst != (1 : Int)) = false → ((0 : Int), ()) = (rotC x.fst, ())))))))))
set_option maxRecDepth 100000 in
theorem w_rCk (y : El sp_rCk.q) (x : Els sp_rCk.ps) : aw c_rCk (iv_rCk y x) (codeOf Tryz.f182) 0 (retQ c_rCk sp_rCk (Tryz.f182).results.toList y x) (startT sp_rCk x) (startO sp_rCk y) 1 = F_rCk y x := by kernel_rfl
theorem m_rCk (y : El (.un)) (x : Els [tRot]) (h2 : wfE (.un) y) (h3 : wfEs [tRot] x) : F_rCk y x := by
  unfold F_rCk
  have r1 := i32_rng h3.1.1
  have r2 := i32_rng h3.1.2.1
  simp only [wrap64_32 r1, wrap64_32 r2]
  refine ⟨fun h => rotn (r := x.1) fun c => ?_, fun h1 => ⟨fun h => rotn (r := x.1) fun c => ?_, fun h2 => ⟨fun h => rotn (r := x.1) fun c => ?_, fun h3 => ⟨fun h => rotn (r := x.1) fun c => ?_, fun h4 => ⟨fun h => rotn (r := x.1) fun c => ?_, fun h5 => ⟨fun h => rotn (r := x.1) fun c => ?_, fun h6 => ?_⟩⟩⟩⟩⟩⟩
  · unfold rotB rotI at c; have h := ltT h; omega
  · unfold rotB rotI at c; have h := gtT h; omega
  · unfold rotB rotI at c; have h := ltT h; omega
  · unfold rotB rotI at c; have h := gtT h; omega
  · unfold rotB rotI at c; have h := eqT h; omega
  · unfold rotB rotI at c; have h := eqT h; omega
  have h1 := ltF h1
  have h2 := gtF h2
  have h3 := ltF h3
  have h4 := gtF h4
  have h5 := eqF h5
  have h6 := eqF h6
  refine ⟨⟨by omega, by omega⟩, ?_⟩
  refine ⟨fun h => rotn (r := x.1) fun c => ?_, fun h7 => ⟨⟨?_, ?_⟩, ?_⟩⟩
  · unfold rotB rotI at c
    have h := eqT h
    omega
  · omega
  · omega
  have h7 := eqF h7
  rintro _ rfl
  refine ⟨fun h => rotn (r := x.1) fun c => ?_, fun h8 => roty (r := x.1) ⟨by omega, by omega, by omega, by omega, h5, h6, h7, ?_⟩⟩
  · unfold rotB rotI at c
    have h := neT h
    exact h (by rw [c.2.2.2.2.2.2.2]; rfl)
  · have h := neF h8
    exact Int.ofNat_inj.1 h
set_option maxRecDepth 100000 in
theorem fo_rCk : FnOk Tryz.prog 182 sp_rCk := fnOk_of (C := c_rCk) iv_rCk Tryz.func182 rfl (by kernel_rfl) tys_ok (prims_cons (spec_prim fo_rcommon) prims_nil) mixed_ (Nat.le_refl _) rfl fun y x h1 h2 h3 h4 =>
  Eq.mpr (w_rCk y x) (m_rCk y x h2 h3)
noncomputable def sp_nRCk : Spec := { q := .un, ps := [tRot], rs := [.it .i64], fresh := true, pre := fun _ _ => none, post := fun _ x => ((), (rotC x.1, ())) }
noncomputable def iv_nRCk (y : El sp_nRCk.q) (x : Els sp_nRCk.ps) : Nat → Option Inv := fun _ => none
noncomputable abbrev c_nRCk : Cfg := cfgS (Tryz.f183).ntmps false [(249, sp_ngcd.prim)]
def F_nRCk (y : El sp_nRCk.q) (x : Els sp_nRCk.ps) : Prop :=
  (decide (x.fst.fst < (1 : Int)) = true → ((150 : Int), ()) = (rotC x.fst, ())) ∧ (decide (x.fst.fst < (1 : Int)) = false → (decide (x.fst.fst > (1000 : Int)) = true → ((150 : Int), ()) = (rotC x.fst, ())) ∧ (decide (x.fst.fst > (1000 : Int)) = false → (decide (x.fst.snd.fst < (-1000 : Int)) = true → ((150 : Int), ()) = (rotC x.fst, ())) ∧ (decide (x.fst.snd.fst < (-1000 : Int)) = false → (decide (x.fst.snd.fst > (1000 : Int)) = true → ((150 : Int), ()) = (rotC x.fst, ())) ∧ (decide (x.fst.snd.fst > (1000 : Int)) = false → ((x.fst.snd.fst == (0 : Int)) = true → ((150 : Int), ()) = (rotC x.fst, ())) ∧ ((x.fst.snd.fst == (0 : Int)) = false → ((x.fst.fst == x.fst.snd.fst) = true → ((150 : Int), ()) = (rotC x.fst, ())) ∧ ((x.fst.fst == x.fst.snd.fst) = false → ((x.fst.fst == IntKind.i32.wrap ((0 : Int) - x.fst.snd.fst)) = true → ((150 : Int), ()) = (rotC x.fst, ())) ∧ ((x.fst.fst == IntKind.i32.wrap ((0 : Int) - x.fst.snd.fst)) = false → ((IntKind.i64.wrap x.fst.fst).natAbs ≤ (10000000000 : Nat) ∧ (IntKind.i64.wrap x.fst.snd.fst).natAbs ≤ (10000000000 : Nat)) ∧ ∀ (r : El Ty.un × Els [Ty.it IntKind.i64]), r = ((), (↑((IntKind.i64.wrap x.fst.fst).gcd (IntKind.i64.wrap x.fst.snd.fst)) : Int), ()) → ((r.snd.fst != (1 : Int)) = true → ((150 : Int), ()) = (rotC x.fst, ())) ∧ ((r.snd.fst != (1 : Int)) = false → ((0 : Int), ()) = (rotC x.fst, ())))))))))
set_option maxRecDepth 100000 in
theorem w_nRCk (y : El sp_nRCk.q) (x : Els sp_nRCk.ps) : aw c_nRCk (iv_nRCk y x) (codeOf Tryz.f183) 0 (retQ c_nRCk sp_nRCk (Tryz.f183).results.toList y x) (startT sp_nRCk x) (startO sp_nRCk y) 1 = F_nRCk y x := by kernel_rfl
theorem m_nRCk (y : El (.un)) (x : Els [tRot]) (h2 : wfE (.un) y) (h3 : wfEs [tRot] x) : F_nRCk y x := by
  unfold F_nRCk
  have r1 := i32_rng h3.1.1
  have r2 := i32_rng h3.1.2.1
  simp only [wrap64_32 r1, wrap64_32 r2]
  refine ⟨fun h => rotn (r := x.1) fun c => ?_, fun h1 => ⟨fun h => rotn (r := x.1) fun c => ?_, fun h2 => ⟨fun h => rotn (r := x.1) fun c => ?_, fun h3 => ⟨fun h => rotn (r := x.1) fun c => ?_, fun h4 => ⟨fun h => rotn (r := x.1) fun c => ?_, fun h5 => ⟨fun h => rotn (r := x.1) fun c => ?_, fun h6 => ?_⟩⟩⟩⟩⟩⟩
  · unfold rotB rotI at c; have h := ltT h; omega
  · unfold rotB rotI at c; have h := gtT h; omega
  · unfold rotB rotI at c; have h := ltT h; omega
  · unfold rotB rotI at c; have h := gtT h; omega
  · unfold rotB rotI at c; have h := eqT h; omega
  · unfold rotB rotI at c; have h := eqT h; omega
  have h1 := ltF h1
  have h2 := gtF h2
  have h3 := ltF h3
  have h4 := gtF h4
  have h5 := eqF h5
  have h6 := eqF h6
  simp only [wrap32_neg (a := x.1.2.1) ⟨by omega, by omega⟩]
  refine ⟨fun h => rotn (r := x.1) fun c => ?_, fun h7 => ⟨⟨?_, ?_⟩, ?_⟩⟩
  · unfold rotB rotI at c
    have h := eqT h
    omega
  · omega
  · omega
  have h7 := eqF h7
  rintro _ rfl
  refine ⟨fun h => rotn (r := x.1) fun c => ?_, fun h8 => roty (r := x.1) ⟨by omega, by omega, by omega, by omega, h5, h6, h7, ?_⟩⟩
  · unfold rotB rotI at c
    have h := neT h
    exact h (by rw [c.2.2.2.2.2.2.2]; rfl)
  · have h := neF h8
    exact Int.ofNat_inj.1 h
set_option maxRecDepth 100000 in
theorem fo_nRCk : FnOk Tryz.prog 183 sp_nRCk := fnOk_of (C := c_nRCk) iv_nRCk Tryz.func183 rfl (by kernel_rfl) tys_ok (prims_cons (spec_prim fo_ngcd) prims_nil) mixed_ (Nat.le_refl _) rfl fun y x h1 h2 h3 h4 =>
  Eq.mpr (w_nRCk y x) (m_nRCk y x h2 h3)
end Go.Proofs.YtifonmdcicegdaaGreat

namespace Go.Proofs.YtifonmdcicegdaaGreat
open Go Go.RowKit

end Go.Proofs.YtifonmdcicegdaaGreat

namespace Go.Proofs.YtifonmdcicegdaaGreat
open Go Go.RowKit

end Go.Proofs.YtifonmdcicegdaaGreat

