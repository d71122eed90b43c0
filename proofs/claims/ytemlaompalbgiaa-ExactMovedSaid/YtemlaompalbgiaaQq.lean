/- Texts of this claim, joined: B15 B16 B17 B18 B19 B20 B21 B22 P9. -/
import Derived.Test.YtemlaompalbgiaaQp
set_option linter.unusedVariables false
set_option linter.unusedSimpArgs false
set_option maxRecDepth 100000
namespace Go.Proofs.Ytemlaompalbgiaa
open Go Go.RowKit
def lett (c : Int) : Bool := decide (97 ≤ c ∧ c ≤ 122) || decide (65 ≤ c ∧ c ≤ 90)
def digI (c : Int) : Bool := decide (48 ≤ c ∧ c ≤ 57)
def gi (s : ByteArray) (i : Nat) : Int := ((s.get! i).toNat : Int)
def nameS (s : ByteArray) : Bool := decide (0 < s.size ∧ s.size ≤ 20) && lett (gi s 0) && (List.range s.size).all fun i => lett (gi s i) || digI (gi s i)
theorem ntt {b : Bool} (h : (!b) = true) : b = false := by simpa using h
theorem nff {b : Bool} (h : (!b) = false) : b = true := by simpa using h
theorem ba_loop (s : ByteArray) (i : Nat) (r : List UInt8) : ByteArray.toList.loop s i r = r.reverse ++ s.data.toList.drop i := by
  by_cases h : i < s.size
  · rw [ByteArray.toList.loop, if_pos h, ba_loop s (i + 1), List.reverse_cons, List.append_assoc]
    have hl : i < s.data.toList.length := h
    rw [List.drop_eq_getElem_cons hl]
    congr 1
    show [s.get! i] ++ _ = _
    have : s.get! i = s.data.toList[i] := by
      show s.data[i]! = _
      rw [getElem!_pos s.data i h]
      simp
    rw [this]
    rfl
  · rw [ByteArray.toList.loop, if_neg h, List.drop_of_length_le (by show s.data.toList.length ≤ i; simpa using h), List.append_nil]
  termination_by s.size - i
theorem ba_list (s : ByteArray) : s.toList = s.data.toList := by
  unfold ByteArray.toList
  rw [ba_loop]
  rfl
theorem ba_0 (s : ByteArray) : (s.toList == ByteArray.toList { data := #[] }) = decide (s.size = 0) := by
  rw [Bool.eq_iff_iff, beq_iff_eq, decide_eq_true_eq, ba_list, ba_list]
  obtain ⟨⟨a⟩⟩ := s
  show a = [] ↔ a.length = 0
  simp
theorem all_succ_ {i : Nat} {f : Nat → Bool} (h : (List.range i).all f = true) (k : f i = true) : (List.range (i + 1)).all f = true := by
  rw [List.range_succ, List.all_append, h]
  simp [k]
theorem nameS_0 {s : ByteArray} (h : s.size = 0) : (false, ()) = (nameS s, ()) := by
  unfold nameS
  rw [decide_eq_false (by omega)]
  rfl
theorem nameS_long {s : ByteArray} (h : 20 < s.size) : (false, ()) = (nameS s, ()) := by
  unfold nameS
  rw [decide_eq_false (by omega)]
  rfl
theorem nameS_first {s : ByteArray} (h : lett (gi s 0) = false) : (false, ()) = (nameS s, ()) := by
  unfold nameS
  rw [h]
  simp
theorem nameS_bad {s : ByteArray} {i : Nat} (h : i < s.size) (k : (lett (gi s i) || digI (gi s i)) = false) : (false, ()) = (nameS s, ()) := by
  have : ((List.range s.size).all fun i => lett (gi s i) || digI (gi s i)) = false := by
    rw [List.all_eq_false]
    exact ⟨i, List.mem_range.2 h, by rw [k]; decide⟩
  unfold nameS
  rw [this]
  simp
theorem nameS_ok {s : ByteArray} (h : 0 < s.size) (k : s.size ≤ 20) (l : lett (gi s 0) = true) (m : ((List.range s.size).all fun i => lett (gi s i) || digI (gi s i)) = true) : (true, ()) = (nameS s, ()) := by
  unfold nameS
  rw [m, l, decide_eq_true ⟨h, k⟩]
  rfl
theorem ltT {a b : Int} (h : decide (a < b) = true) : a < b := of_decide_eq_true h
theorem ltF {a b : Int} (h : decide (a < b) = false) : b ≤ a := by have := of_decide_eq_false h; omega
theorem gtT {a b : Int} (h : decide (a > b) = true) : b < a := of_decide_eq_true h
theorem gtF {a b : Int} (h : decide (a > b) = false) : a ≤ b := by have := of_decide_eq_false h; omega
theorem eqT {a b : Int} (h : (a == b) = true) : a = b := eq_of_beq h
theorem eqF {a b : Int} (h : (a == b) = false) : a ≠ b := ne_of_beq_false h
theorem neT {a b : Int} (h : (a != b) = true) : a ≠ b := by simpa using h
theorem neF {a b : Int} (h : (a != b) = false) : a = b := by simpa using h
theorem lett_law (c : Int) : (decide (c ≥ 97) = true → (decide (c ≤ 122) = true → (true, ()) = (lett c, ())) ∧ (decide (c ≤ 122) = false → (decide (c ≥ 65) = true → (decide (c ≤ 90), ()) = (lett c, ())) ∧ (decide (c ≥ 65) = false → (false, ()) = (lett c, ())))) ∧ (decide (c ≥ 97) = false → (decide (c ≥ 65) = true → (decide (c ≤ 90), ()) = (lett c, ())) ∧ (decide (c ≥ 65) = false → (false, ()) = (lett c, ()))) := by
  unfold lett
  refine ⟨fun h => ⟨fun k => ?_, fun k => ⟨fun m => ?_, fun m => ?_⟩⟩, fun h => ⟨fun m => ?_, fun m => ?_⟩⟩
  all_goals
    simp only [decide_eq_true_eq, decide_eq_false_iff_not] at *
    refine congrArg (fun b => (b, ())) ?_
    rw [Bool.eq_iff_iff]
    simp only [Bool.or_eq_true, decide_eq_true_eq, true_iff, Bool.false_eq_true, false_iff]
    omega
noncomputable def sp_tletter : Spec := { q := .un, ps := [.it .u8], rs := [.bo], fresh := true, pre := fun _ _ => none, post := fun _ x => ((), (lett x.1, ())) }
noncomputable def iv_tletter (y : El sp_tletter.q) (x : Els sp_tletter.ps) : Nat → Option Inv := fun _ => none
noncomputable abbrev c_tletter : Cfg := cfgS (Try.f53).ntmps false []
def F_tletter (y : El sp_tletter.q) (x : Els sp_tletter.ps) : Prop :=
  (decide (x.1 ≥ (97 : Int)) = true → (decide (x.1 ≤ (122 : Int)) = true → (true, ()) = (lett x.1, ())) ∧ (decide (x.1 ≤ (122 : Int)) = false → (decide (x.1 ≥ (65 : Int)) = true → (decide (x.1 ≤ (90 : Int)), ()) = (lett x.1, ())) ∧ (decide (x.1 ≥ (65 : Int)) = false → (false, ()) = (lett x.1, ())))) ∧ (decide (x.1 ≥ (97 : Int)) = false → (decide (x.1 ≥ (65 : Int)) = true → (decide (x.1 ≤ (90 : Int)), ()) = (lett x.1, ())) ∧ (decide (x.1 ≥ (65 : Int)) = false → (false, ()) = (lett x.1, ())))
theorem w_tletter (y : El sp_tletter.q) (x : Els sp_tletter.ps) : aW c_tletter (iv_tletter y x) Try.f53 sp_tletter y x = F_tletter y x := by kernel_rfl
theorem m_tletter (y : El (.un)) (x : Els [.it .u8]) (h2 : wfE (.un) y) (h3 : wfEs [.it .u8] x) : F_tletter y x := by
  unfold F_tletter
  exact lett_law x.1
theorem fo_tletter : FnOk Try.prog 53 sp_tletter := fnOk_of (C := c_tletter) iv_tletter Try.func53 rfl (by kernel_rfl) tys_ok prims_nil mixed_ (Nat.le_refl _) rfl fun y x h1 h2 h3 h4 =>
  Eq.mpr (w_tletter y x) (m_tletter y x h2 h3)
noncomputable def sp_tName : Spec := { q := .un, ps := [.st], rs := [.bo], fresh := true, pre := fun _ _ => none, post := fun _ x => ((), (nameS x.1, ())) }
noncomputable def iv_tName (y : El sp_tName.q) (x : Els sp_tName.ps) : Nat → Option Inv := fun k => if k = 0 then some { X := Nat, tm := fun i => [(0, .c (.sc (.string x.1))), (19, .c (.sc (.int .i64 i))), (18, .c (.sc (.int .i64 x.1.size)))], ob := fun _ => [], n := 1, I := fun i => i ≤ x.1.size ∧ 0 < x.1.size ∧ x.1.size ≤ 20 ∧ lett (gi x.1 0) = true ∧ ((List.range i).all fun i => lett (gi x.1 i) || digI (gi x.1 i)) = true, μ := fun i => x.1.size - i } else none
noncomputable abbrev c_tName : Cfg := cfgS (Try.f25).ntmps false [(53, sp_tletter.prim)]
def F_tName (y : El sp_tName.q) (x : Els sp_tName.ps) : Prop :=
  ((ByteArray.toList x.1 == (ByteArray.toList (⟨#[]⟩ : ByteArray))) = true → (false, ()) = (nameS x.1, ())) ∧ ((ByteArray.toList x.1 == (ByteArray.toList (⟨#[]⟩ : ByteArray))) = false → (decide ((↑(ByteArray.size x.1) : Int) > (20 : Int)) = true → (false, ()) = (nameS x.1, ())) ∧ (decide ((↑(ByteArray.size x.1) : Int) > (20 : Int)) = false → ((0 : Int) ≤ (0 : Int) ∧ (0 : Int) < (↑(ByteArray.size x.1) : Int)) ∧ ∀ (r : Ro [Ty.bo]), r = ((), lett (↑(ByteArray.get! x.1 (Int.toNat (0 : Int))).toNat : Int), ()) → ((!r.2.1) = true → (false, ()) = (nameS x.1, ())) ∧ ((!r.2.1) = false → (∃ (x_1 : Nat), x.1 = x.1 ∧ (↑x_1 : Int) = (0 : Int) ∧ (↑(ByteArray.size x.1) : Int) = (↑(ByteArray.size x.1) : Int) ∧ x_1 ≤ ByteArray.size x.1 ∧ (0 : Nat) < ByteArray.size x.1 ∧ ByteArray.size x.1 ≤ (20 : Nat) ∧ lett (gi x.1 (0 : Nat)) = true ∧ ((List.range x_1).all fun (i : Nat) => lett (gi x.1 i) || digI (gi x.1 i)) = true) ∧ ∀ (x_1 : Nat), x_1 ≤ ByteArray.size x.1 ∧ (0 : Nat) < ByteArray.size x.1 ∧ ByteArray.size x.1 ≤ (20 : Nat) ∧ lett (gi x.1 (0 : Nat)) = true ∧ ((List.range x_1).all fun (i : Nat) => lett (gi x.1 i) || digI (gi x.1 i)) = true → (decide ((↑x_1 : Int) < (↑(ByteArray.size x.1) : Int)) = true → ((0 : Int) ≤ (↑x_1 : Int) ∧ (↑x_1 : Int) < (↑(ByteArray.size x.1) : Int)) ∧ ∀ (r : Ro [Ty.bo]), r = ((), lett (↑(ByteArray.get! x.1 (↑x_1 : Int).toNat).toNat : Int), ()) → ((!r.2.1) = true → ((0 : Int) ≤ (↑x_1 : Int) ∧ (↑x_1 : Int) < (↑(ByteArray.size x.1) : Int)) ∧ (decide ((↑(ByteArray.get! x.1 (↑x_1 : Int).toNat).toNat : Int) < (48 : Int)) = true → (false, ()) = (nameS x.1, ())) ∧ (decide ((↑(ByteArray.get! x.1 (↑x_1 : Int).toNat).toNat : Int) < (48 : Int)) = false → ((0 : Int) ≤ (↑x_1 : Int) ∧ (↑x_1 : Int) < (↑(ByteArray.size x.1) : Int)) ∧ (decide ((↑(ByteArray.get! x.1 (↑x_1 : Int).toNat).toNat : Int) > (57 : Int)) = true → (false, ()) = (nameS x.1, ())) ∧ (decide ((↑(ByteArray.get! x.1 (↑x_1 : Int).toNat).toNat : Int) > (57 : Int)) = false → ((-9223372036854775808 : Int) ≤ (↑x_1 : Int) + (1 : Int) ∧ (↑x_1 : Int) + (1 : Int) ≤ (9223372036854775807 : Int)) ∧ ∃ (x' : Nat), x.1 = x.1 ∧ (↑x' : Int) = (↑x_1 : Int) + (1 : Int) ∧ (↑(ByteArray.size x.1) : Int) = (↑(ByteArray.size x.1) : Int) ∧ (x' ≤ ByteArray.size x.1 ∧ (0 : Nat) < ByteArray.size x.1 ∧ ByteArray.size x.1 ≤ (20 : Nat) ∧ lett (gi x.1 (0 : Nat)) = true ∧ ((List.range x').all fun (i : Nat) => lett (gi x.1 i) || digI (gi x.1 i)) = true) ∧ ByteArray.size x.1 - x' < ByteArray.size x.1 - x_1))) ∧ ((!r.2.1) = false → ((-9223372036854775808 : Int) ≤ (↑x_1 : Int) + (1 : Int) ∧ (↑x_1 : Int) + (1 : Int) ≤ (9223372036854775807 : Int)) ∧ ∃ (x' : Nat), x.1 = x.1 ∧ (↑x' : Int) = (↑x_1 : Int) + (1 : Int) ∧ (↑(ByteArray.size x.1) : Int) = (↑(ByteArray.size x.1) : Int) ∧ (x' ≤ ByteArray.size x.1 ∧ (0 : Nat) < ByteArray.size x.1 ∧ ByteArray.size x.1 ≤ (20 : Nat) ∧ lett (gi x.1 (0 : Nat)) = true ∧ ((List.range x').all fun (i : Nat) => lett (gi x.1 i) || digI (gi x.1 i)) = true) ∧ ByteArray.size x.1 - x' < ByteArray.size x.1 - x_1)) ∧ (decide ((↑x_1 : Int) < (↑(ByteArray.size x.1) : Int)) = false → (true, ()) = (nameS x.1, ())))))
theorem w_tName (y : El sp_tName.q) (x : Els sp_tName.ps) : aW c_tName (iv_tName y x) Try.f25 sp_tName y x = F_tName y x := by kernel_rfl
theorem m_tName (y : El (.un)) (x : Els [.st]) (h2 : wfE (.un) y) (h3 : wfEs [.st] x) : F_tName y x := by
  unfold F_tName
  have gz : ∀ i : Nat, ((ByteArray.get! x.1 ((i : Int)).toNat).toNat : Int) = gi x.1 i := fun i => by rw [Int.toNat_natCast]; rfl
  refine ⟨fun h => ?_, fun h => ⟨fun k => ?_, fun k => ⟨⟨Int.le_refl _, ?_⟩, ?_⟩⟩⟩
  · rw [ba_0] at h
    exact nameS_0 (of_decide_eq_true h)
  · exact nameS_long (by have := of_decide_eq_true k; omega)
  all_goals
    rw [ba_0] at h
    have h := of_decide_eq_false h
    have k := of_decide_eq_false k
  · omega
  rintro _ rfl
  refine ⟨fun m => nameS_first (ntt m), fun m => ⟨⟨0, rfl, rfl, rfl, Nat.zero_le _, by omega, by omega, nff m, rfl⟩, fun i hi => ⟨fun l => ?_, fun l => ?_⟩⟩⟩
  · obtain ⟨i0, i1, i2, i3, i4⟩ := hi
    have l := of_decide_eq_true l
    have il : i < x.1.size := by omega
    refine ⟨⟨by omega, l⟩, ?_⟩
    rintro _ rfl
    simp only [gz]
    refine ⟨fun m => ⟨⟨by omega, l⟩, fun u => ?_, fun u => ⟨⟨by omega, l⟩, fun v => ?_, fun v => ⟨by omega, i + 1, (by first | exact rfl | exact trivial), rfl, (by first | exact rfl | exact trivial), ⟨il, i1, i2, i3, all_succ_ i4 ?_⟩, by omega⟩⟩⟩, fun m => ⟨by omega, i + 1, (by first | exact rfl | exact trivial), rfl, (by first | exact rfl | exact trivial), ⟨il, i1, i2, i3, all_succ_ i4 ?_⟩, by omega⟩⟩
    · have u := of_decide_eq_true u
      exact nameS_bad il (by rw [(ntt m : lett (gi x.1 i) = false)]; unfold digI; rw [decide_eq_false (by omega)]; rfl)
    · have v := of_decide_eq_true v
      exact nameS_bad il (by rw [(ntt m : lett (gi x.1 i) = false)]; unfold digI; rw [decide_eq_false (by omega)]; rfl)
    · have u := of_decide_eq_false u
      have v := of_decide_eq_false v
      show (lett (gi x.1 i) || digI (gi x.1 i)) = true
      unfold digI
      rw [decide_eq_true (by omega)]
      simp
    · show (lett (gi x.1 i) || digI (gi x.1 i)) = true
      rw [(nff m : lett (gi x.1 i) = true)]
      rfl
  · obtain ⟨i0, i1, i2, i3, i4⟩ := hi
    have l := of_decide_eq_false l
    have e : i = x.1.size := by omega
    rw [e] at i4
    exact nameS_ok i1 i2 i3 i4
theorem fo_tName : FnOk Try.prog 25 sp_tName := fnOk_of (C := c_tName) iv_tName Try.func25 rfl (by kernel_rfl) tys_ok (prims_cons (spec_prim fo_tletter) prims_nil) mixed_ (Nat.le_refl _) rfl fun y x h1 h2 h3 h4 =>
  Eq.mpr (w_tName y x) (m_tName y x h2 h3)
theorem gcd_tstep (a b : Int) : Int.gcd b (a.tmod b) = Int.gcd a b := by
  show Nat.gcd b.natAbs (a.tmod b).natAbs = Nat.gcd a.natAbs b.natAbs
  rw [Int.natAbs_tmod, Nat.gcd_comm, ← Nat.gcd_rec, Nat.gcd_comm]
theorem abs_if (a : Int) : (if -a > a then -a else a) = (a.natAbs : Int) := by
  split <;> omega
noncomputable def sp_rcommon : Spec := { q := .un, ps := [.it .i64, .it .i64], rs := [.it .i64], fresh := true, pre := fun _ x => some (x.1.natAbs ≤ 10000000000 ∧ x.2.1.natAbs ≤ 10000000000), post := fun _ x => ((), (((Int.gcd x.1 x.2.1 : Nat) : Int), ())) }
noncomputable def iv_rcommon (y : El sp_rcommon.q) (x : Els sp_rcommon.ps) : Nat → Option Inv := fun k => if k = 0 then some { X := Int × Int, tm := fun i => [(0, .c (.sc (.int .i64 i.1))), (1, .c (.sc (.int .i64 i.2)))], ob := fun _ => [], n := 1, I := fun i => Int.gcd i.1 i.2 = Int.gcd x.1 x.2.1 ∧ i.1.natAbs ≤ 10000000000 ∧ i.2.natAbs ≤ 10000000000, μ := fun i => i.2.natAbs } else none
noncomputable abbrev c_rcommon : Cfg := cfgS (Try.f78).ntmps false []
def F_rcommon (y : El sp_rcommon.q) (x : Els sp_rcommon.ps) : Prop :=
  (∃ (x_1 : Int × Int), x_1.1 = x.1 ∧ x_1.2 = x.2.1 ∧ x_1.1.gcd x_1.2 = Int.gcd x.1 x.2.1 ∧ x_1.1.natAbs ≤ (10000000000 : Nat) ∧ x_1.2.natAbs ≤ (10000000000 : Nat)) ∧ ∀ (x_1 : Int × Int), x_1.1.gcd x_1.2 = Int.gcd x.1 x.2.1 ∧ x_1.1.natAbs ≤ (10000000000 : Nat) ∧ x_1.2.natAbs ≤ (10000000000 : Nat) → ((x_1.2 != (0 : Int)) = true → x_1.2 ≠ (0 : Int) ∧ ∃ (x' : Int × Int), x'.1 = x_1.2 ∧ x'.2 = x_1.1.tmod x_1.2 ∧ (x'.1.gcd x'.2 = Int.gcd x.1 x.2.1 ∧ x'.1.natAbs ≤ (10000000000 : Nat) ∧ x'.2.natAbs ≤ (10000000000 : Nat)) ∧ x'.2.natAbs < x_1.2.natAbs) ∧ ((x_1.2 != (0 : Int)) = false → ((-9223372036854775808 : Int) ≤ -x_1.1 ∧ -x_1.1 ≤ (9223372036854775807 : Int)) ∧ (if -x_1.1 > x_1.1 then -x_1.1 else x_1.1, ()) = ((↑(Int.gcd x.1 x.2.1) : Int), ()))
theorem w_rcommon (y : El sp_rcommon.q) (x : Els sp_rcommon.ps) : aW c_rcommon (iv_rcommon y x) Try.f78 sp_rcommon y x = F_rcommon y x := by kernel_rfl
theorem m_rcommon (y : El (.un)) (x : Els [.it .i64, .it .i64]) (h2 : wfE (.un) y) (h3 : wfEs [.it .i64, .it .i64] x) (h4 : x.1.natAbs ≤ 10000000000 ∧ x.2.1.natAbs ≤ 10000000000) : F_rcommon y x := by
  unfold F_rcommon
  obtain ⟨h5, h6⟩ := h4
  refine ⟨⟨(x.1, x.2.1), rfl, rfl, rfl, h5, h6⟩, fun i hi => ?_⟩
  obtain ⟨i1, i2, i3⟩ := hi
  refine ⟨fun h => ?_, fun h => ⟨by omega, ?_⟩⟩
  · have h : i.2 ≠ 0 := by simpa using h
    have hp : 0 < i.2.natAbs := Int.natAbs_pos.2 h
    have hm : (i.1.tmod i.2).natAbs < i.2.natAbs := by rw [Int.natAbs_tmod]; exact Nat.mod_lt _ hp
    exact ⟨h, (i.2, i.1.tmod i.2), rfl, rfl, ⟨(gcd_tstep i.1 i.2).trans i1, i3, by show (i.1.tmod i.2).natAbs ≤ _; omega⟩, hm⟩
  · have h : i.2 = 0 := by simpa using h
    rw [h, Int.gcd_zero_right] at i1
    rw [abs_if, i1]
theorem fo_rcommon : FnOk Try.prog 78 sp_rcommon := fnOk_of (C := c_rcommon) iv_rcommon Try.func78 rfl (by kernel_rfl) tys_ok prims_nil mixed_ (Nat.le_refl _) rfl fun y x h1 h2 h3 h4 =>
  Eq.mpr (w_rcommon y x) (m_rcommon y x h2 h3 h4)
def rotC (r : El tRot) : Int := if 1 ≤ r.1 ∧ r.1 ≤ 1000 ∧ -1000 ≤ r.2.1 ∧ r.2.1 ≤ 1000 ∧ r.2.1 ≠ 0 ∧ r.1 ≠ r.2.1 ∧ r.1 ≠ -r.2.1 ∧ Int.gcd r.1 r.2.1 = 1 then 0 else 150
def rotI (a b : Int) : Prop := 1 ≤ a ∧ a ≤ 1000 ∧ -1000 ≤ b ∧ b ≤ 1000 ∧ b ≠ 0 ∧ a ≠ b ∧ a ≠ -b ∧ Int.gcd a b = 1
def rotB (r : El tRot) : Prop := rotI r.1 r.2.1
theorem rotn {r : El tRot} (h : ¬ rotB r) : ((150 : Int), ()) = (rotC r, ()) := by
  unfold rotB rotI at h
  unfold rotC
  rw [if_neg h]
theorem roty {r : El tRot} (h : rotB r) : ((0 : Int), ()) = (rotC r, ()) := by
  unfold rotB rotI at h
  unfold rotC
  rw [if_pos h]
theorem rotC_0 {r : El tRot} (h : rotC r = 0) : rotB r := by
  unfold rotC at h
  split at h
  · rename_i k; exact k
  · cases h
theorem i32_rng {a : Int} (h : IntKind.i32.min ≤ a ∧ a ≤ IntKind.i32.max) : -2147483648 ≤ a ∧ a ≤ 2147483647 := h
theorem wrap64_32 {a : Int} (h : -2147483648 ≤ a ∧ a ≤ 2147483647) : IntKind.i64.wrap a = a := wrap_id (k := .i64) (by have : IntKind.i64.min = -9223372036854775808 := rfl; omega) (by have : IntKind.i64.max = 9223372036854775807 := rfl; omega)
theorem wrap32_neg {a : Int} (h : -2147483648 < a ∧ a ≤ 2147483647) : IntKind.i32.wrap (0 - a) = -a := by
  rw [Int.zero_sub]
  exact wrap_id (k := .i32) (by have : IntKind.i32.min = -2147483648 := rfl; omega) (by have : IntKind.i32.max = 2147483647 := rfl; omega)
noncomputable def sp_rCk : Spec := { q := .un, ps := [tRot], rs := [.it .i64], fresh := true, pre := fun _ _ => none, post := fun _ x => ((), (rotC x.1, ())) }
noncomputable def iv_rCk (y : El sp_rCk.q) (x : Els sp_rCk.ps) : Nat → Option Inv := fun _ => none
noncomputable abbrev c_rCk : Cfg := cfgS (Try.f54).ntmps false [(78, sp_rcommon.prim)]
def F_rCk (y : El sp_rCk.q) (x : Els sp_rCk.ps) : Prop :=
  (decide (IntKind.i64.wrap x.1.1 < (1 : Int)) = true → ((150 : Int), ()) = (rotC x.1, ())) ∧ (decide (IntKind.i64.wrap x.1.1 < (1 : Int)) = false → (decide (IntKind.i64.wrap x.1.1 > (1000 : Int)) = true → ((150 : Int), ()) = (rotC x.1, ())) ∧ (decide (IntKind.i64.wrap x.1.1 > (1000 : Int)) = false → (decide (IntKind.i64.wrap x.1.2.1 < (-1000 : Int)) = true → ((150 : Int), ()) = (rotC x.1, ())) ∧ (decide (IntKind.i64.wrap x.1.2.1 < (-1000 : Int)) = false → (decide (IntKind.i64.wrap x.1.2.1 > (1000 : Int)) = true → ((150 : Int), ()) = (rotC x.1, ())) ∧ (decide (IntKind.i64.wrap x.1.2.1 > (1000 : Int)) = false → ((IntKind.i64.wrap x.1.2.1 == (0 : Int)) = true → ((150 : Int), ()) = (rotC x.1, ())) ∧ ((IntKind.i64.wrap x.1.2.1 == (0 : Int)) = false → ((IntKind.i64.wrap x.1.1 == IntKind.i64.wrap x.1.2.1) = true → ((150 : Int), ()) = (rotC x.1, ())) ∧ ((IntKind.i64.wrap x.1.1 == IntKind.i64.wrap x.1.2.1) = false → ((-9223372036854775808 : Int) ≤ -IntKind.i64.wrap x.1.2.1 ∧ -IntKind.i64.wrap x.1.2.1 ≤ (9223372036854775807 : Int)) ∧ ((IntKind.i64.wrap x.1.1 == -IntKind.i64.wrap x.1.2.1) = true → ((150 : Int), ()) = (rotC x.1, ())) ∧ ((IntKind.i64.wrap x.1.1 == -IntKind.i64.wrap x.1.2.1) = false → ((IntKind.i64.wrap x.1.1).natAbs ≤ (10000000000 : Nat) ∧ (IntKind.i64.wrap x.1.2.1).natAbs ≤ (10000000000 : Nat)) ∧ ∀ (r : Ro [Ty.it IntKind.i64]), r = ((), (↑((IntKind.i64.wrap x.1.1).gcd (IntKind.i64.wrap x.1.2.1)) : Int), ()) → ((r.2.1 != (1 : Int)) = true → ((150 : Int), ()) = (rotC x.1, ())) ∧ ((r.2.1 != (1 : Int)) = false → ((0 : Int), ()) = (rotC x.1, ())))))))))
theorem w_rCk (y : El sp_rCk.q) (x : Els sp_rCk.ps) : aW c_rCk (iv_rCk y x) Try.f54 sp_rCk y x = F_rCk y x := by kernel_rfl
theorem m_rCk (y : El (.un)) (x : Els [tRot]) (h2 : wfE (.un) y) (h3 : wfEs [tRot] x) : F_rCk y x := by
  unfold F_rCk
  have r1 := i32_rng h3.1.1
  have r2 := i32_rng h3.1.2.1
  simp only [wrap64_32 r1, wrap64_32 r2]
  refine ⟨fun h => rotn (r := x.1) fun c => ?_, fun h1 => ⟨fun h => rotn (r := x.1) fun c => ?_, fun h2 => ⟨fun h => rotn (r := x.1) fun c => ?_, fun h3 => ⟨fun h => rotn (r := x.1) fun c => ?_, fun h4 => ⟨fun h => rotn (r := x.1) fun c => ?_, fun h5 => ⟨fun h => rotn (r := x.1) fun c => ?_, fun h6 => ?_⟩⟩⟩⟩⟩⟩
  · unfold rotB rotI at c; have h := ltT h; omega
  · unfold rotB rotI at c; have h := gtT h; omega
  · unfold rotB rotI at c; have h := ltT h; omega
  · unfold rotB rotI at c; have h := gtT h; omega
  · unfold rotB rotI at c; have h := eqT h; omega
  · unfold rotB rotI at c; have h := eqT h; omega
  have h1 := ltF h1
  have h2 := gtF h2
  have h3 := ltF h3
  have h4 := gtF h4
  have h5 := eqF h5
  have h6 := eqF h6
  refine ⟨⟨by omega, by omega⟩, ?_⟩
  refine ⟨fun h => rotn (r := x.1) fun c => ?_, fun h7 => ⟨⟨?_, ?_⟩, ?_⟩⟩
  · unfold rotB rotI at c
    have h := eqT h
    omega
  · omega
  · omega
  have h7 := eqF h7
  rintro _ rfl
  refine ⟨fun h => rotn (r := x.1) fun c => ?_, fun h8 => roty (r := x.1) ⟨by omega, by omega, by omega, by omega, h5, h6, h7, ?_⟩⟩
  · unfold rotB rotI at c
    have h := neT h
    exact h (by rw [c.2.2.2.2.2.2.2]; rfl)
  · have h := neF h8
    exact Int.ofNat_inj.1 h
theorem fo_rCk : FnOk Try.prog 54 sp_rCk := fnOk_of (C := c_rCk) iv_rCk Try.func54 rfl (by kernel_rfl) tys_ok (prims_cons (spec_prim fo_rcommon) prims_nil) mixed_ (Nat.le_refl _) rfl fun y x h1 h2 h3 h4 =>
  Eq.mpr (w_rCk y x) (m_rCk y x h2 h3)
def tchk (a : El tTide) : Int := if nameS a.1 = false then 4 else if rotC a.2.1 ≠ 0 then rotC a.2.1 else gchk (toGa a.2.2.1)
noncomputable def sp_tCk : Spec := { q := .un, ps := [tTide], rs := [.it .i64], fresh := true, pre := fun _ _ => none, post := fun _ x => ((), (tchk x.1, ())) }
noncomputable def iv_tCk (y : El sp_tCk.q) (x : Els sp_tCk.ps) : Nat → Option Inv := fun _ => none
noncomputable abbrev c_tCk : Cfg := cfgS (Try.f27).ntmps false [(25, sp_tName.prim), (54, sp_rCk.prim), (55, sp_gCheck.prim)]
def F_tCk (y : El sp_tCk.q) (x : Els sp_tCk.ps) : Prop :=
  ∀ (r : Ro [Ty.bo]), r = ((), nameS x.1.1, ()) → ((!r.2.1) = true → ((4 : Int), ()) = (tchk x.1, ())) ∧ ((!r.2.1) = false → ∀ (r : Ro [Ty.it IntKind.i64]), r = ((), rotC x.1.2.1, ()) → ((r.2.1 != (0 : Int)) = true → r.2 = (tchk x.1, ())) ∧ ((r.2.1 != (0 : Int)) = false → ∀ (r : Ro [Ty.it IntKind.i64]), r = ((), gchk (toGa x.1.2.2.1), ()) → r.2 = (tchk x.1, ())))
theorem w_tCk (y : El sp_tCk.q) (x : Els sp_tCk.ps) : aW c_tCk (iv_tCk y x) Try.f27 sp_tCk y x = F_tCk y x := by kernel_rfl
theorem m_tCk (y : El (.un)) (x : Els [tTide]) (h2 : wfE (.un) y) (h3 : wfEs [tTide] x) : F_tCk y x := by
  unfold F_tCk
  rintro _ rfl
  refine ⟨fun h => ?_, fun h => ?_⟩
  · unfold tchk
    rw [if_pos (ntt h : nameS x.1.1 = false)]
  · rintro _ rfl
    refine ⟨fun k => ?_, fun k => ?_⟩
    · unfold tchk
      rw [if_neg (by rw [(nff h : nameS x.1.1 = true)]; decide), if_pos (ne_ k)]
    · rintro _ rfl
      unfold tchk
      rw [if_neg (by rw [(nff h : nameS x.1.1 = true)]; decide), if_neg (fun c => c (eq_ k))]
theorem fo_tCk : FnOk Try.prog 27 sp_tCk := fnOk_of (C := c_tCk) iv_tCk Try.func27 rfl (by kernel_rfl) tys_ok (prims_cons (spec_prim fo_tName) (prims_cons (spec_prim fo_rCk) (prims_cons (spec_prim fo_gCheck) prims_nil))) mixed_ (Nat.le_refl _) rfl fun y x h1 h2 h3 h4 =>
  Eq.mpr (w_tCk y x) (m_tCk y x h2 h3)
noncomputable def sp_tcopied : Spec := { q := .un, ps := [tR], rs := [tR], fresh := true, pre := fun _ x => some (FewM (toFr x.1)), post := fun _ x => ((), (x.1, ())) }
noncomputable def iv_tcopied (y : El sp_tcopied.q) (x : Els sp_tcopied.ps) : Nat → Option Inv := fun _ => none
noncomputable abbrev c_tcopied : Cfg := cfgS (Try.f72).ntmps false []
def F_tcopied (y : El sp_tcopied.q) (x : Els sp_tcopied.ps) : Prop :=
  (0 : Nat) + List.length x.1.2.1 ≤ (1073741824 : Nat) ∧ (0 : Nat) + List.length x.1.2.2.1 ≤ (1073741824 : Nat) ∧ ((x.1.1, [] ++ x.1.2.1, [] ++ x.1.2.2.1, ()), ()) = x
theorem w_tcopied (y : El sp_tcopied.q) (x : Els sp_tcopied.ps) : aW c_tcopied (iv_tcopied y x) Try.f72 sp_tcopied y x = F_tcopied y x := by kernel_rfl
theorem m_tcopied (y : El (.un)) (x : Els [tR]) (h2 : wfE (.un) y) (h3 : wfEs [tR] x) (h4 : FewM (toFr x.1)) : F_tcopied y x := by
  unfold F_tcopied
  have a1 : x.1.2.1.length ≤ 1000000 := h4.1
  have a2 : x.1.2.2.1.length ≤ 1000000 := h4.2
  exact ⟨by omega, by omega, rfl⟩
theorem fo_tcopied : FnOk Try.prog 72 sp_tcopied := fnOk_of (C := c_tcopied) iv_tcopied Try.func72 rfl (by kernel_rfl) tys_ok prims_nil mixed_ (Nat.le_refl _) rfl fun y x h1 h2 h3 h4 =>
  Eq.mpr (w_tcopied y x) (m_tcopied y x h2 h3 h4)
noncomputable def sp_tCopy : Spec := { q := .un, ps := [tTide], rs := [tTide], fresh := true, pre := fun _ x => some (FewMG (toGa x.1.2.2.1)), post := fun _ x => ((), (x.1, ())) }
noncomputable def iv_tCopy (y : El sp_tCopy.q) (x : Els sp_tCopy.ps) : Nat → Option Inv := fun _ => none
noncomputable abbrev c_tCopy : Cfg := cfgS (Try.f47).ntmps false [(72, sp_tcopied.prim)]
def F_tCopy (y : El sp_tCopy.q) (x : Els sp_tCopy.ps) : Prop :=
  ((toFr x.1.2.2.1.1).num.length ≤ (1000000 : Nat) ∧ (toFr x.1.2.2.1.1).den.length ≤ (1000000 : Nat)) ∧ ∀ (r : Ro [tR]), r = ((), x.1.2.2.1.1, ()) → ((toFr x.1.2.2.1.2.1).num.length ≤ (1000000 : Nat) ∧ (toFr x.1.2.2.1.2.1).den.length ≤ (1000000 : Nat)) ∧ ∀ (r_1 : Ro [tR]), r_1 = ((), x.1.2.2.1.2) → ((x.1.1, x.1.2.1, (r.2.1, r_1.2), ()), ()) = x
theorem w_tCopy (y : El sp_tCopy.q) (x : Els sp_tCopy.ps) : aW c_tCopy (iv_tCopy y x) Try.f47 sp_tCopy y x = F_tCopy y x := by kernel_rfl
theorem m_tCopy (y : El (.un)) (x : Els [tTide]) (h2 : wfE (.un) y) (h3 : wfEs [tTide] x) (h4 : FewMG (toGa x.1.2.2.1)) : F_tCopy y x := by
  unfold F_tCopy
  refine ⟨h4.1, ?_⟩
  rintro _ rfl
  refine ⟨h4.2, ?_⟩
  rintro _ rfl
  rfl
theorem fo_tCopy : FnOk Try.prog 47 sp_tCopy := fnOk_of (C := c_tCopy) iv_tCopy Try.func47 rfl (by kernel_rfl) tys_ok (prims_cons (spec_prim fo_tcopied) prims_nil) mixed_ (Nat.le_refl _) rfl fun y x h1 h2 h3 h4 =>
  Eq.mpr (w_tCopy y x) (m_tCopy y x h2 h3 h4)
def gint (a b : Int) : Ga := ⟨(fsmall a 1).1, (fsmall b 1).1⟩
section
variable {t r : Ga}
end
section
variable {r : El tRule}
end
def gone (r : Ga) : Ga × Int := if r = gint (-1) 0 then (Ga.zero, 7) else gadd (gint 1 0) r
theorem rv_wd {Z : Nat → Prop} {w : World} {l : List Int} {v : Value} (h : RV Z w tW32 l v) : ∃ A c, v = .slice A l.length c ∧ Rd w A c l ∧ Wf l := by
  unfold RV at h
  rw [if_neg (by simp [Ty.agg])] at h
  obtain ⟨A, c, e, h1, h2⟩ := rd_of h
  exact ⟨A, c, by simpa using e, h1, h2⟩
theorem blkA1_nodup (A : Option Addr) : (blkA A).Nodup := by cases A <;> simp [blkA]
theorem blkA1_base {w : World} {base : Nat} {A : Option Addr} {c : Nat} {xs : List Int} (h : Own w base A c xs) : ∀ g ∈ blkA A, base ≤ g := fun g hg => by
  cases hA : A with
  | none => rw [hA] at hg; simp [blkA] at hg
  | some a => rw [hA] at hg; simp [blkA] at hg; rw [hA] at h; rw [hg]; exact h.block.1
section
variable {f : Nat} (hc : ∀ (vs : Array Value) (w : World), (callFunc f vs).run Try.prog w = .ok (.enter f vs) w)
include hc
end
def gpow (a b : Int) : Nat → Int × Int
  | 0 => (1, 0)
  | n + 1 => ((gpow a b n).1 * a - (gpow a b n).2 * b, (gpow a b n).1 * b + (gpow a b n).2 * a)
def nrmR (a b : Int) : Int := a * a + b * b
def rpow (a b : Int) (n : Nat) : Ga := ⟨enc (mkRat (gpow a b (2 * n)).1 (nrmR a b ^ n).toNat), enc (mkRat (gpow a b (2 * n)).2 (nrmR a b ^ n).toNat)⟩
def rA (r : El tRot) : Int := r.1
def powB (b t : Int) : Int := if t < 0 then -b else b
def powR (r : El tRot) (t : Int) : El tG × Int × Unit := if rotC r ≠ 0 then (ofGa Ga.zero, rotC r, ()) else if t < -1024 ∨ 1024 < t then (ofGa Ga.zero, 2, ()) else (ofGa (rpow (rA r) (powB r.2.1 t) t.natAbs), 0, ())
theorem pow_bd (k m : Nat) (h : 11 * k < m) : (2000 : Nat) ^ k < 2 ^ m := by
  have h1 : (2000 : Nat) ^ k ≤ 2048 ^ k := Nat.pow_le_pow_left (by decide) k
  have h2 : (2048 : Nat) ^ k = 2 ^ (11 * k) := by rw [show (2048 : Nat) = 2 ^ 11 from rfl, ← Nat.pow_mul]
  have h3 : (2 : Nat) ^ (11 * k) < 2 ^ m := Nat.pow_lt_pow_right (by decide) h
  omega
theorem pw_two (m : Nat) : pw m = ((2 ^ (32 * m) : Nat) : Int) := by
  unfold pw
  rw [show (4294967296 : Int) = ((2 ^ 32 : Nat) : Int) by decide, ← Int.natCast_pow, ← Nat.pow_mul]
theorem wd_bdm {n k m : Nat} (h : n ≤ 2000 ^ k) (hk : 11 * k < 32 * m) : (wd n).length ≤ m := by
  refine wd_len_le _ _ ?_
  have h1 := pow_bd k (32 * m) hk
  rw [pw_two]
  exact Int.ofNat_lt.2 (Nat.lt_of_le_of_lt h h1)
theorem wd_bd {n k : Nat} (h : n ≤ 2000 ^ k) (hk : k ≤ 2100) : (wd n).length ≤ 725 := wd_bdm h (by omega)
def bd (k : Nat) (z : Int) : Prop := z.natAbs ≤ 2000 ^ k
theorem bd.mul {j k : Nat} {a b : Int} (h : bd j a) (h' : bd k b) : bd (j + k) (a * b) := by
  unfold bd at *
  rw [Int.natAbs_mul, Nat.pow_add]
  exact Nat.mul_le_mul h h'
theorem gpow_bd {a b : Int} (ha : a.natAbs ≤ 1000) (hb : b.natAbs ≤ 1000) : ∀ n, bd n (gpow a b n).1 ∧ bd n (gpow a b n).2
  | 0 => ⟨by show (1 : Int).natAbs ≤ 2000 ^ 0; decide, by show (0 : Int).natAbs ≤ 2000 ^ 0; decide⟩
  | n + 1 => by
    obtain ⟨h1, h2⟩ := gpow_bd ha hb n
    have m : ∀ {z c : Int}, bd n z → c.natAbs ≤ 1000 → (z * c).natAbs ≤ 2000 ^ n * 1000 := fun hz hc => by
      rw [Int.natAbs_mul]
      exact Nat.mul_le_mul hz hc
    have e : 2000 ^ (n + 1) = 2000 ^ n * 1000 + 2000 ^ n * 1000 := by rw [Nat.pow_succ]; omega
    constructor
    · show ((gpow a b n).1 * a - (gpow a b n).2 * b).natAbs ≤ _
      have := m h1 ha
      have := m h2 hb
      omega
    · show ((gpow a b n).1 * b + (gpow a b n).2 * a).natAbs ≤ _
      have := m h1 hb
      have := m h2 ha
      omega
theorem nrmR_bd {a b : Int} (ha : a.natAbs ≤ 1000) (hb : b.natAbs ≤ 1000) : bd 2 (nrmR a b) := by
  unfold bd nrmR
  have h1 : (a * a).natAbs ≤ 1000 * 1000 := by rw [Int.natAbs_mul]; exact Nat.mul_le_mul ha ha
  have h2 : (b * b).natAbs ≤ 1000 * 1000 := by rw [Int.natAbs_mul]; exact Nat.mul_le_mul hb hb
  have : (2000 : Nat) ^ 2 = 4000000 := by decide
  omega
theorem npow_bd {d : Int} (h : bd 2 d) : ∀ n, bd (2 * n) (d ^ n)
  | 0 => by rw [Int.pow_zero]; show (1 : Int).natAbs ≤ 2000 ^ 0; decide
  | n + 1 => by
    rw [Int.pow_succ]
    exact (npow_bd h n).mul h
theorem nrmR_pos {a b : Int} (h : 1 ≤ a) : 0 < nrmR a b := by
  unfold nrmR
  have h1 : 1 * 1 ≤ a * a := Int.mul_le_mul h h (by decide) (by omega)
  have h2 : 0 ≤ b * b := by
    rcases Int.le_total 0 b with k | k
    · exact Int.mul_nonneg k k
    · exact Int.mul_nonneg_of_nonpos_of_nonpos k k
  omega
theorem pw_1 {r : El tRot} {t : Int} (h : rotC r ≠ 0) : ((ofGa Ga.zero, rotC r, ()) : El tG × Int × Unit) = powR r t := by unfold powR; rw [if_pos h]
theorem pw_2 {r : El tRot} {t : Int} (h : rotC r = 0) (k : t < -1024 ∨ 1024 < t) : ((ofGa Ga.zero, 2, ()) : El tG × Int × Unit) = powR r t := by unfold powR; rw [if_neg (fun c => c h), if_pos k]
theorem pw_3 {r : El tRot} {t : Int} (h : rotC r = 0) (k : ¬ (t < -1024 ∨ 1024 < t)) : ((ofGa (rpow (rA r) (powB r.2.1 t) t.natAbs), 0, ()) : El tG × Int × Unit) = powR r t := by unfold powR; rw [if_neg (fun c => c h), if_neg k]
theorem neg_rng {t : Int} (h1 : -1024 ≤ t) (h2 : t ≤ 1024) : -9223372036854775808 ≤ -t ∧ -t ≤ 9223372036854775807 := by omega
theorem abs_neg_ {t : Int} (h : t < 0) : ((t.natAbs : Nat) : Int) = -t := by omega
theorem abs_pos_ {t : Int} (h : 0 ≤ t) : ((t.natAbs : Nat) : Int) = t := by omega
theorem gpow_add (a b : Int) (i : Nat) : ∀ j, gpow a b (i + j) = ((gpow a b i).1 * (gpow a b j).1 - (gpow a b i).2 * (gpow a b j).2, (gpow a b i).1 * (gpow a b j).2 + (gpow a b i).2 * (gpow a b j).1)
  | 0 => by
    show gpow a b i = ((gpow a b i).1 * 1 - (gpow a b i).2 * 0, (gpow a b i).1 * 0 + (gpow a b i).2 * 1)
    simp
  | j + 1 => by
    have ih := gpow_add a b i j
    rw [← Nat.add_assoc]
    show ((gpow a b (i + j)).1 * a - (gpow a b (i + j)).2 * b, (gpow a b (i + j)).1 * b + (gpow a b (i + j)).2 * a) = _
    rw [ih]
    have e1 : (gpow a b (j + 1)).1 = (gpow a b j).1 * a - (gpow a b j).2 * b := rfl
    have e2 : (gpow a b (j + 1)).2 = (gpow a b j).1 * b + (gpow a b j).2 * a := rfl
    rw [e1, e2]
    generalize (gpow a b i).1 = x
    generalize (gpow a b i).2 = y
    generalize (gpow a b j).1 = u
    generalize (gpow a b j).2 = v
    simp only [Int.sub_mul, Int.add_mul, Int.mul_add, Int.mul_sub, Int.mul_assoc]
    congr 1 <;> omega
theorem lngQ {x : Int} {d : Nat} {j k : Nat} (hx : bd j x) (hj : j ≤ 2100) (hd : d ≤ 2000 ^ k) (hk : k ≤ 2100) (h0 : d ≠ 0) : ¬ lng (mkRat x d) = true := by
  have e := enc_mk (decide (x < 0)) x.natAbs d h0
  have es : sg (decide (x < 0)) x.natAbs = x := by
    unfold sg
    by_cases h : x < 0
    · rw [if_pos (by simpa using h)]; omega
    · rw [if_neg (by simpa using h)]; omega
  rw [es] at e
  have e1 : wd (mkRat x d).num.natAbs = wd (x.natAbs / Nat.gcd x.natAbs d) := congrArg Fr.num e
  have e2 : wd (mkRat x d).den = wd (d / Nat.gcd x.natAbs d) := congrArg Fr.den e
  refine lng_of ?_ ?_
  · rw [e1]
    have := wd_len_mono (Nat.div_le_self x.natAbs (Nat.gcd x.natAbs d))
    have := wd_bd hx hj
    omega
  · rw [e2]
    have := wd_len_mono (Nat.div_le_self d (Nat.gcd x.natAbs d))
    have := wd_bd hd hk
    omega
theorem mkRat_add_same (x y : Int) {d : Nat} (h : d ≠ 0) : mkRat x d + mkRat y d = mkRat (x + y) d := by
  rw [Rat.mkRat_add_mkRat x y h h, ← Int.add_mul, Rat.mkRat_mul_right (by omega)]
theorem mkRat_sub_same (x y : Int) {d : Nat} (h : d ≠ 0) : mkRat x d - mkRat y d = mkRat (x - y) d := by
  rw [Rat.sub_eq_add_neg, Rat.neg_mkRat, mkRat_add_same x (-y) h, Int.sub_eq_add_neg]
section
variable {x y : Int} {c d j k : Nat}
theorem wmul_q (hx : bd j x) (hy : bd k y) (hjk : j + k ≤ 2100) (hc : c ≤ 2000 ^ j) (hd : d ≤ 2000 ^ k) (c0 : c ≠ 0) (d0 : d ≠ 0) : wmul 0 (enc (mkRat x c)) (enc (mkRat y d)) = (enc (mkRat (x * y) (c * d)), 0) := by
  unfold wmul
  rw [stp_ok]
  unfold fmul
  rw [both_ok (lngQ hx (by omega) hc (by omega) c0) (lngQ hy (by omega) hd (by omega) d0), Rat.mkRat_mul_mkRat]
  exact tell_ok (lngQ (hx.mul hy) hjk (by rw [Nat.pow_add]; exact Nat.mul_le_mul hc hd) hjk (Nat.mul_ne_zero c0 d0))
theorem wadd_q (hx : bd j x) (hy : bd j y) (hxy : bd j (x + y)) (hj : j ≤ 2100) (hc : c ≤ 2000 ^ j) (c0 : c ≠ 0) : wadd 0 (enc (mkRat x c)) (enc (mkRat y c)) = (enc (mkRat (x + y) c), 0) := by
  unfold wadd
  rw [stp_ok]
  unfold fadd
  rw [both_ok (lngQ hx hj hc hj c0) (lngQ hy hj hc hj c0), mkRat_add_same x y c0]
  exact tell_ok (lngQ hxy hj hc hj c0)
theorem wsub_q (hx : bd j x) (hy : bd j y) (hxy : bd j (x - y)) (hj : j ≤ 2100) (hc : c ≤ 2000 ^ j) (c0 : c ≠ 0) : wsub 0 (enc (mkRat x c)) (enc (mkRat y c)) = (enc (mkRat (x - y) c), 0) := by
  unfold wsub
  rw [stp_ok]
  unfold fsub
  rw [both_ok (lngQ hx hj hc hj c0) (lngQ hy hj hc hj c0), mkRat_sub_same x y c0]
  exact tell_ok (lngQ hxy hj hc hj c0)
end
section
variable {a b : Int}
theorem nrmN {n : Nat} (ha : a.natAbs ≤ 1000) (hb : b.natAbs ≤ 1000) (hp : 1 ≤ a) : (nrmR a b ^ n).toNat ≤ 2000 ^ (2 * n) ∧ (nrmR a b ^ n).toNat ≠ 0 ∧ ((nrmR a b ^ n).toNat : Int) = nrmR a b ^ n := by
  have h1 := npow_bd (nrmR_bd ha hb) n
  have h2 : 0 < nrmR a b ^ n := Int.pow_pos (nrmR_pos hp)
  unfold bd at h1
  omega
theorem nrmN_mul {m n : Nat} (ha : a.natAbs ≤ 1000) (hb : b.natAbs ≤ 1000) (hp : 1 ≤ a) : (nrmR a b ^ m).toNat * (nrmR a b ^ n).toNat = (nrmR a b ^ (m + n)).toNat := by
  have h1 := (nrmN (n := m) ha hb hp).2.2
  have h2 := (nrmN (n := n) ha hb hp).2.2
  have h3 := (nrmN (n := m + n) ha hb hp).2.2
  have : (((nrmR a b ^ m).toNat * (nrmR a b ^ n).toNat : Nat) : Int) = ((nrmR a b ^ (m + n)).toNat : Int) := by
    rw [Int.natCast_mul, h1, h2, h3, Int.pow_add]
  exact Int.ofNat_inj.1 this
theorem fchk_rq {z : Int} {n : Nat} (hz : bd (2 * n) z) (hn : n ≤ 1024) (ha : a.natAbs ≤ 1000) (hb : b.natAbs ≤ 1000) (hp : 1 ≤ a) : fchk (enc (mkRat z (nrmR a b ^ n).toNat)) = 0 :=
  fchk_enc _ (lngQ hz (by omega) (nrmN ha hb hp).1 (by omega) (nrmN ha hb hp).2.1)
theorem gchk_rpow {n : Nat} (hn : n ≤ 1024) (ha : a.natAbs ≤ 1000) (hb : b.natAbs ≤ 1000) (hp : 1 ≤ a) : gchk (rpow a b n) = 0 := by
  obtain ⟨h1, h2⟩ := gpow_bd ha hb (2 * n)
  unfold gchk fchk2 rpow
  dsimp only
  rw [fchk_rq h1 hn ha hb hp, fchk_rq h2 hn ha hb hp]
  rfl
theorem gmul_rpow {m n : Nat} (hmn : m + n ≤ 1024) (ha : a.natAbs ≤ 1000) (hb : b.natAbs ≤ 1000) (hp : 1 ≤ a) : gmul (rpow a b m) (rpow a b n) = (rpow a b (m + n), 0) := by
  obtain ⟨x1, y1⟩ := gpow_bd ha hb (2 * m)
  obtain ⟨x2, y2⟩ := gpow_bd ha hb (2 * n)
  obtain ⟨z1, z2⟩ := gpow_bd ha hb (2 * (m + n))
  have e0 : 2 * (m + n) = 2 * m + 2 * n := by omega
  have g1 : gchk2 (rpow a b m) (rpow a b n) = 0 := by
    unfold gchk2
    rw [gchk_rpow (by omega) ha hb hp, gchk_rpow (by omega) ha hb hp]
    rfl
  have ga := gpow_add a b (2 * m) (2 * n)
  rw [← e0] at ga
  obtain ⟨c1, c2, _⟩ := nrmN (n := m) ha hb hp
  obtain ⟨d1, d2, _⟩ := nrmN (n := n) ha hb hp
  obtain ⟨f1, f2, _⟩ := nrmN (n := m + n) ha hb hp
  have ed := nrmN_mul (m := m) (n := n) ha hb hp
  have k : 2 * m + 2 * n ≤ 2100 := by omega
  have k2 : 2 * (m + n) ≤ 2100 := by omega
  rw [e0] at f1
  rw [ga] at z1 z2
  rw [e0] at z1 z2
  have p : wprod 0 (rpow a b m) (rpow a b n) = ((rpow a b (m + n)).re, (rpow a b (m + n)).im, 0) := by
    unfold wprod rpow
    dsimp only
    rw [wmul_q x1 x2 k c1 d1 c2 d2, ed]
    dsimp only
    rw [wmul_q y1 y2 k c1 d1 c2 d2, ed]
    dsimp only
    rw [wsub_q (x1.mul x2) (y1.mul y2) z1 k f1 f2]
    dsimp only
    rw [wmul_q x1 y2 k c1 d1 c2 d2, ed]
    dsimp only
    rw [wmul_q y1 x2 k c1 d1 c2 d2, ed]
    dsimp only
    rw [wadd_q (x1.mul y2) (y1.mul x2) z2 k f1 f2]
    rw [ga]
  unfold gmul
  rw [g1, p]
  exact gtell_ok
end
end Go.Proofs.Ytemlaompalbgiaa
