/- Texts of this claim, joined: H7 E7. -/
import Derived.Test.YtemlaompalbgiaaGreatDoorQr
set_option linter.unusedVariables false
set_option linter.unusedSimpArgs false
set_option maxRecDepth 100000
namespace Go.Proofs.YtemlaompalbgiaaGreatDoor
open Go Go.RowKit
def parN (s : ByteArray) : El tW32 × Int × Unit := if 65536 < s.size then ([], 3, ()) else if canD s.data.toList = true then (wd (decV s.data.toList), 0, ()) else ([], 110, ())
theorem ba_len (s : ByteArray) : s.data.toList.length = s.size := by simp
theorem ex_list (s : ByteArray) (a b : Nat) : (s.extract a b).data.toList = (s.data.toList.drop a).take (b - a) := Lib.extract_data s a b
theorem ex_size (s : ByteArray) (k : Nat) : (s.extract k s.size).size = s.size - k := by
  rw [← ba_len, ex_list, List.length_take, List.length_drop, ba_len]
  omega
theorem ex_rest (s : ByteArray) (k : Nat) : (s.extract k s.size).data.toList = s.data.toList.drop k := by
  rw [ex_list]
  exact List.take_of_length_le (by rw [List.length_drop, ba_len]; exact Nat.le_refl _)
theorem ex_piece (s : ByteArray) (k c : Nat) : ((s.extract k s.size).extract 0 c).data.toList = (s.data.toList.drop k).take c := by
  rw [ex_list, ex_rest, List.drop_zero, Nat.sub_zero]
theorem ex_next (s : ByteArray) (k c : Nat) (h : k + c ≤ s.size) : s.extract (k + c) s.size = (s.extract k s.size).extract c (s.extract k s.size).size := by
  refine Go.WideShapes.bytes_inj ?_
  rw [ex_rest, ex_list, ex_rest, List.drop_drop]
  exact (List.take_of_length_le (by rw [List.length_drop, ba_len, ex_size]; omega)).symm
theorem ex_0 (s : ByteArray) : s.extract 0 s.size = s := ByteArray.extract_zero_size
theorem tl_e {s : ByteArray} (h : (s.toList == ByteArray.toList (⟨#[]⟩ : ByteArray)) = true) : s.size = 0 := by
  rw [ba_0] at h
  exact of_decide_eq_true h
theorem tl_n {s : ByteArray} (h : (s.toList == ByteArray.toList (⟨#[]⟩ : ByteArray)) = false) : s.size ≠ 0 := by
  rw [ba_0] at h
  exact of_decide_eq_false h
theorem ba_cons {s : ByteArray} (h : s.size ≠ 0) : ∃ m, s.data.toList = s.get! 0 :: m := by
  obtain ⟨⟨l⟩⟩ := s
  match l, h with
  | [], h => exact absurd rfl h
  | c :: m, _ => exact ⟨m, rfl⟩
theorem trB_0 {s : ByteArray} : (trB s).size = 0 ↔ s.data.toList.all isD = true := by
  have e : (trB s).size = (Lib.trimS s.data.toList digs10).length := by
    show (Lib.trimS s.data.toList digs10).toArray.size = _
    rw [List.size_toArray]
  rw [e, List.length_eq_zero_iff, trim_digs]
theorem par_long {s : ByteArray} (h : 65536 < s.size) : parN s = ([], 3, ()) := if_pos h
theorem par_bad {s : ByteArray} (h : s.size ≤ 3000) (k : ¬ canD s.data.toList = true) : parN s = ([], 110, ()) := (if_neg (by omega)).trans (if_neg k)
theorem par_ok {s : ByteArray} (h : s.size ≤ 3000) (k : canD s.data.toList = true) : parN s = (wd (decV s.data.toList), 0, ()) := (if_neg (by omega)).trans (if_pos k)
theorem can_0 {s : ByteArray} (h : s.size = 0) : ¬ canD s.data.toList = true := fun k => by
  obtain ⟨c, m, e, _⟩ := canD_cons k
  have := ba_len s
  rw [e, h] at this
  cases this
theorem can_all {s : ByteArray} (k : canD s.data.toList = true) : s.data.toList.all isD = true := by
  obtain ⟨c, m, e, h, _⟩ := canD_cons k
  exact h
theorem can_first {s : ByteArray} (k : canD s.data.toList = true) : s.size = 1 ∨ (s.get! 0).toNat ≠ 48 := by
  obtain ⟨c, m, e, _, h⟩ := canD_cons k
  have hl := ba_len s
  obtain ⟨m', e'⟩ := ba_cons (s := s) (by rw [← hl, e]; simp)
  rw [e] at e'
  injection e' with e1 e2
  rcases h with h | h
  · left
    rw [← hl, e, h]
    rfl
  · right
    rw [← e1]
    exact h
theorem can_of {s : ByteArray} (h0 : s.size ≠ 0) (h : s.data.toList.all isD = true) (k : s.size ≤ 1 ∨ (s.get! 0).toNat ≠ 48) : canD s.data.toList = true := by
  obtain ⟨m, e⟩ := ba_cons h0
  have hl := ba_len s
  rw [e] at h hl ⊢
  refine canD_of h (k.imp (fun k => ?_) id)
  rw [List.length_cons] at hl
  exact List.eq_nil_of_length_eq_zero (by omega)
theorem dec_wds {l : List UInt8} {k : Nat} (h : l.all isD = true) (hl : l.length ≤ k) : (wd (decV l)).length ≤ k := by
  refine wd_len_le _ k ?_
  have h1 := decV_lt h
  have h2 : 10 ^ l.length ≤ 10 ^ k := Nat.pow_le_pow_right (by decide) hl
  have h3 : 10 ^ k ≤ 4294967296 ^ k := Nat.pow_le_pow_left (by decide) k
  have h4 : pw k = ((4294967296 ^ k : Nat) : Int) := by unfold pw; rw [Int.natCast_pow]; rfl
  omega
theorem grow_f (v u : Nat) : growF_.f (wd v) [1000000000, (u : Int)] = (wd (v * 1000000000 + u), 0) := by
  show (wd (toN (wd v) * 1000000000 + ([1000000000, (u : Int)].getD 1 0).toNat), (0 : Int)) = _
  rw [toN_wd]
  rfl
theorem wrap32 {n : Nat} (h : n < 4294967296) : IntKind.u32.wrap (n : Int) = n := by
  rw [IntKind.wrap_u32]
  omega
structure ParR (s : ByteArray) (k c : Nat) : Prop where
  le : c ≤ (s.extract k s.size).size
  pos : 0 < c
  nine : c ≤ 9
  all : ((s.extract k s.size).extract 0 c).data.toList.all isD = true
  sz : ((s.extract k s.size).extract 0 c).size = c
  lt : decV ((s.extract k s.size).extract 0 c).data.toList < 4294967296
  val : decV (s.data.toList.take (k + c)) = decV (s.data.toList.take k) * 1000000000 + decV ((s.extract k s.size).extract 0 c).data.toList
  nx : s.extract (k + c) s.size = (s.extract k s.size).extract c (s.extract k s.size).size
  rest : (s.size - (k + c)) % 9 = 0
  bd : k + c ≤ s.size
  wl : (wd (decV (s.data.toList.take k))).length ≤ 8192
theorem par_round {s : ByteArray} {k c : Nat} (hs : s.size ≤ 3000) (ha : s.data.toList.all isD = true) (hk : k ≤ s.size) (hc : 0 < c) (h9 : c ≤ 9) (hb : k + c ≤ s.size) (hr : (s.size - (k + c)) % 9 = 0) (hv : c = 9 ∨ k = 0) : ParR s k c := by
  have hl := ba_len s
  have ha' := List.all_eq_true.1 ha
  have hall : ((s.data.toList.drop k).take c).all isD = true := List.all_eq_true.2 fun x hx => ha' x (List.mem_of_mem_drop (List.mem_of_mem_take hx))
  have htk : (s.data.toList.take k).all isD = true := List.all_eq_true.2 fun x hx => ha' x (List.mem_of_mem_take hx)
  have hlen : ((s.data.toList.drop k).take c).length = c := by rw [List.length_take, List.length_drop]; omega
  have hlt := decV_lt hall
  have h10 : 10 ^ ((s.data.toList.drop k).take c).length ≤ 10 ^ 9 := Nat.pow_le_pow_right (by decide) (by omega)
  refine ⟨by rw [ex_size]; omega, hc, h9, by rw [ex_piece]; exact hall, by rw [← ba_len, ex_piece]; exact hlen, by rw [ex_piece]; omega, ?_, ex_next s k c hb, hr, hb, ?_⟩
  · rw [ex_piece, List.take_add, decV_append, hlen]
    rcases hv with rfl | rfl
    · rfl
    · rw [List.take_zero, decV_nil, Nat.zero_mul, Nat.zero_mul]
  · exact Nat.le_trans (dec_wds htk (k := 3000) (by rw [List.length_take]; omega)) (by decide)
noncomputable def sp_aParseG : Spec := { q := .un, ps := [.st], rs := [tW32, .it .i64], fresh := true, pre := fun _ x => some (ByteArray.size x.1 ≤ 3000 ∨ 65536 < ByteArray.size x.1), post := fun _ x => ((), parN x.1) }
noncomputable def iv_aParseG (y : El sp_aParseG.q) (x : Els sp_aParseG.ps) : Nat → Option Inv := fun k => if k = 0 then some { X := Nat, tm := fun i => [(0, .c (.sc (.string (x.1.extract i x.1.size)))), (4, .c (.ow 1))], ob := fun i => [(1, .ty 91 (.it .u32) (wd (decV (x.1.data.toList.take i))) 0)], n := 2, I := fun i => i ≤ x.1.size ∧ x.1.size ≤ 3000 ∧ x.1.data.toList.all isD = true ∧ (i = 0 ∨ (x.1.size - i) % 9 = 0), μ := fun i => x.1.size - i } else none
noncomputable abbrev c_aParseG : Cfg := cfgS (Tryz.f128).ntmps false [(206, sp_sTrim.prim), (207, p_pu), (208, p_row growF_), (209, p_row toldF_)]
def F_aParseG (y : El sp_aParseG.q) (x : Els sp_aParseG.ps) : Prop :=
  (decide ((↑(ByteArray.size x.1) : Int) > (65536 : Int)) = true → ([], (3 : Int), ()) = parN x.1) ∧ (decide ((↑(ByteArray.size x.1) : Int) > (65536 : Int)) = false → ((ByteArray.toList x.1 == (ByteArray.toList (⟨#[]⟩ : ByteArray))) = true → ([], (110 : Int), ()) = parN x.1) ∧ ((ByteArray.toList x.1 == (ByteArray.toList (⟨#[]⟩ : ByteArray))) = false → (⟨#[(48 : UInt8), (49 : UInt8), (50 : UInt8), (51 : UInt8), (52 : UInt8), (53 : UInt8), (54 : UInt8), (55 : UInt8), (56 : UInt8), (57 : UInt8)]⟩ : ByteArray) = dig10 ∧ ∀ (r : Ro [Ty.st]), r = ((), trB x.1, ()) → ((!ByteArray.toList r.2.1 == (ByteArray.toList (⟨#[]⟩ : ByteArray))) = true → ([], (110 : Int), ()) = parN x.1) ∧ ((!ByteArray.toList r.2.1 == (ByteArray.toList (⟨#[]⟩ : ByteArray))) = false → ((0 : Int) ≤ (0 : Int) ∧ (0 : Int) < (↑(ByteArray.size x.1) : Int)) ∧ (((↑(ByteArray.get! x.1 (0 : Nat)).toNat : Int) == (48 : Int)) = true → (decide ((↑(ByteArray.size x.1) : Int) > (1 : Int)) = true → ([], (110 : Int), ()) = parN x.1) ∧ (decide ((↑(ByteArray.size x.1) : Int) > (1 : Int)) = false → (∃ (x_1 : Nat), ByteArray.extract x.1 x_1 (ByteArray.size x.1) = x.1 ∧ wd (decV (List.take x_1 x.1.data.toList)) = [] ∧ x_1 ≤ ByteArray.size x.1 ∧ ByteArray.size x.1 ≤ (3000 : Nat) ∧ x.1.data.toList.all isD = true ∧ (x_1 = (0 : Nat) ∨ (ByteArray.size x.1 - x_1) % (9 : Nat) = (0 : Nat))) ∧ ∀ (x_1 : Nat), x_1 ≤ ByteArray.size x.1 ∧ ByteArray.size x.1 ≤ (3000 : Nat) ∧ x.1.data.toList.all isD = true ∧ (x_1 = (0 : Nat) ∨ (ByteArray.size x.1 - x_1) % (9 : Nat) = (0 : Nat)) → ((!(ByteArray.extract x.1 x_1 (ByteArray.size x.1)).toList == (ByteArray.toList (⟨#[]⟩ : ByteArray))) = true → (9 : Int) ≠ (0 : Int) ∧ ((((((ByteArray.extract x.1 x_1 (ByteArray.size x.1)).size % 9 : Nat)) : Int) == (0 : Int)) = true → ((0 : Int) ≤ (0 : Int) ∧ (0 : Int) ≤ (9 : Int) ∧ (9 : Int) ≤ (↑(ByteArray.extract x.1 x_1 (ByteArray.size x.1)).size : Int)) ∧ (((ByteArray.extract x.1 x_1 (ByteArray.size x.1)).extract (0 : Nat) (9 : Nat)).data.toList.all isD = true ∧ (0 : Nat) < ((ByteArray.extract x.1 x_1 (ByteArray.size x.1)).extract (0 : Nat) (9 : Nat)).size ∧ ((ByteArray.extract x.1 x_1 (ByteArray.size x.1)).extract (0 : Nat) (9 : Nat)).size ≤ (9 : Nat) ∧ (10 : Int) = (10 : Int) ∧ (32 : Int) = (32 : Int)) ∧ ∀ (r : Nat), r = decV ((ByteArray.extract x.1 x_1 (ByteArray.size x.1)).extract (0 : Nat) (9 : Nat)).data.toList → (wd (decV (List.take x_1 x.1.data.toList)) = wd (toN (wd (decV (List.take x_1 x.1.data.toList)))) ∧ (wd (decV (List.take x_1 x.1.data.toList))).length ≤ (8192 : Nat) ∧ ∃ (x : Int), [(1000000000 : Int), IntKind.u32.wrap (↑r : Int)] = [(1000000000 : Int), x] ∧ (0 : Int) ≤ x ∧ x < (4294967296 : Int)) ∧ ∀ (r_1 : List Int × Int), r_1 = growF_.f (wd (decV (List.take x_1 x.1.data.toList))) [(1000000000 : Int), IntKind.u32.wrap (↑r : Int)] → ((0 : Int) ≤ (9 : Int) ∧ (9 : Int) ≤ (↑(ByteArray.extract x.1 x_1 (ByteArray.size x.1)).size : Int) ∧ (↑(ByteArray.extract x.1 x_1 (ByteArray.size x.1)).size : Int) ≤ (↑(ByteArray.extract x.1 x_1 (ByteArray.size x.1)).size : Int)) ∧ ∃ (x' : Nat), ByteArray.extract x.1 x' (ByteArray.size x.1) = (ByteArray.extract x.1 x_1 (ByteArray.size x.1)).extract (9 : Nat) (ByteArray.extract x.1 x_1 (ByteArray.size x.1)).size ∧ wd (decV (List.take x' x.1.data.toList)) = r_1.1 ∧ (x' ≤ ByteArray.size x.1 ∧ ByteArray.size x.1 ≤ (3000 : Nat) ∧ x.1.data.toList.all isD = true ∧ (x' = (0 : Nat) ∨ (ByteArray.size x.1 - x') % (9 : Nat) = (0 : Nat))) ∧ ByteArray.size x.1 - x' < ByteArray.size x.1 - x_1) ∧ ((((((ByteArray.extract x.1 x_1 (ByteArray.size x.1)).size % 9 : Nat)) : Int) == (0 : Int)) = false → ((0 : Int) ≤ (0 : Int) ∧ (0 : Int) ≤ ((((ByteArray.extract x.1 x_1 (ByteArray.size x.1)).size % 9 : Nat)) : Int) ∧ ((((ByteArray.extract x.1 x_1 (ByteArray.size x.1)).size % 9 : Nat)) : Int) ≤ (↑(ByteArray.extract x.1 x_1 (ByteArray.size x.1)).size : Int)) ∧ (((ByteArray.extract x.1 x_1 (ByteArray.size x.1)).extract (0 : Nat) ((ByteArray.extract x.1 x_1 (ByteArray.size x.1)).size % 9)).data.toList.all isD = true ∧ (0 : Nat) < ((ByteArray.extract x.1 x_1 (ByteArray.size x.1)).extract (0 : Nat) ((ByteArray.extract x.1 x_1 (ByteArray.size x.1)).size % 9)).size ∧ ((ByteArray.extract x.1 x_1 (ByteArray.size x.1)).extract (0 : Nat) ((ByteArray.extract x.1 x_1 (ByteArray.size x.1)).size % 9)).size ≤ (9 : Nat) ∧ (10 : Int) = (10 : Int) ∧ (32 : Int) = (32 : Int)) ∧ ∀ (r : Nat), r = decV ((ByteArray.extract x.1 x_1 (ByteArray.size x.1)).extract (0 : Nat) ((ByteArray.extract x.1 x_1 (ByteArray.size x.1)).size % 9)).data.toList → (wd (decV (List.take x_1 x.1.data.toList)) = wd (toN (wd (decV (List.take x_1 x.1.data.toList)))) ∧ (wd (decV (List.take x_1 x.1.data.toList))).length ≤ (8192 : Nat) ∧ ∃ (x : Int), [(1000000000 : Int), IntKind.u32.wrap (↑r : Int)] = [(1000000000 : Int), x] ∧ (0 : Int) ≤ x ∧ x < (4294967296 : Int)) ∧ ∀ (r_1 : List Int × Int), r_1 = growF_.f (wd (decV (List.take x_1 x.1.data.toList))) [(1000000000 : Int), IntKind.u32.wrap (↑r : Int)] → ((0 : Int) ≤ ((((ByteArray.extract x.1 x_1 (ByteArray.size x.1)).size % 9 : Nat)) : Int) ∧ ((((ByteArray.extract x.1 x_1 (ByteArray.size x.1)).size % 9 : Nat)) : Int) ≤ (↑(ByteArray.extract x.1 x_1 (ByteArray.size x.1)).size : Int) ∧ (↑(ByteArray.extract x.1 x_1 (ByteArray.size x.1)).size : Int) ≤ (↑(ByteArray.extract x.1 x_1 (ByteArray.size x.1)).size : Int)) ∧ ∃ (x' : Nat), ByteArray.extract x.1 x' (ByteArray.size x.1) = (ByteArray.extract x.1 x_1 (ByteArray.size x.1)).extract ((ByteArray.extract x.1 x_1 (ByteArray.size x.1)).size % 9) (ByteArray.extract x.1 x_1 (ByteArray.size x.1)).size ∧ wd (decV (List.take x' x.1.data.toList)) = r_1.1 ∧ (x' ≤ ByteArray.size x.1 ∧ ByteArray.size x.1 ≤ (3000 : Nat) ∧ x.1.data.toList.all isD = true ∧ (x' = (0 : Nat) ∨ (ByteArray.size x.1 - x') % (9 : Nat) = (0 : Nat))) ∧ ByteArray.size x.1 - x' < ByteArray.size x.1 - x_1)) ∧ ((!(ByteArray.extract x.1 x_1 (ByteArray.size x.1)).toList == (ByteArray.toList (⟨#[]⟩ : ByteArray))) = false → (wd (decV (List.take x_1 x.1.data.toList)) = wd (toN (wd (decV (List.take x_1 x.1.data.toList)))) ∧ (wd (decV (List.take x_1 x.1.data.toList))).length ≤ (8192 : Nat)) ∧ ∀ (r : List Int × Int), r = toldF_.f (wd (decV (List.take x_1 x.1.data.toList))) [] → (r.1, r.2, ()) = parN x.1))) ∧ (((↑(ByteArray.get! x.1 (0 : Nat)).toNat : Int) == (48 : Int)) = false → (∃ (x_1 : Nat), ByteArray.extract x.1 x_1 (ByteArray.size x.1) = x.1 ∧ wd (decV (List.take x_1 x.1.data.toList)) = [] ∧ x_1 ≤ ByteArray.size x.1 ∧ ByteArray.size x.1 ≤ (3000 : Nat) ∧ x.1.data.toList.all isD = true ∧ (x_1 = (0 : Nat) ∨ (ByteArray.size x.1 - x_1) % (9 : Nat) = (0 : Nat))) ∧ ∀ (x_1 : Nat), x_1 ≤ ByteArray.size x.1 ∧ ByteArray.size x.1 ≤ (3000 : Nat) ∧ x.1.data.toList.all isD = true ∧ (x_1 = (0 : Nat) ∨ (ByteArray.size x.1 - x_1) % (9 : Nat) = (0 : Nat)) → ((!(ByteArray.extract x.1 x_1 (ByteArray.size x.1)).toList == (ByteArray.toList (⟨#[]⟩ : ByteArray))) = true → (9 : Int) ≠ (0 : Int) ∧ ((((((ByteArray.extract x.1 x_1 (ByteArray.size x.1)).size % 9 : Nat)) : Int) == (0 : Int)) = true → ((0 : Int) ≤ (0 : Int) ∧ (0 : Int) ≤ (9 : Int) ∧ (9 : Int) ≤ (↑(ByteArray.extract x.1 x_1 (ByteArray.size x.1)).size : Int)) ∧ (((ByteArray.extract x.1 x_1 (ByteArray.size x.1)).extract (0 : Nat) (9 : Nat)).data.toList.all isD = true ∧ (0 : Nat) < ((ByteArray.extract x.1 x_1 (ByteArray.size x.1)).extract (0 : Nat) (9 : Nat)).size ∧ ((ByteArray.extract x.1 x_1 (ByteArray.size x.1)).extract (0 : Nat) (9 : Nat)).size ≤ (9 : Nat) ∧ (10 : Int) = (10 : Int) ∧ (32 : Int) = (32 : Int)) ∧ ∀ (r : Nat), r = decV ((ByteArray.extract x.1 x_1 (ByteArray.size x.1)).extract (0 : Nat) (9 : Nat)).data.toList → (wd (decV (List.take x_1 x.1.data.toList)) = wd (toN (wd (decV (List.take x_1 x.1.data.toList)))) ∧ (wd (decV (List.take x_1 x.1.data.toList))).length ≤ (8192 : Nat) ∧ ∃ (x : Int), [(1000000000 : Int), IntKind.u32.wrap (↑r : Int)] = [(1000000000 : Int), x] ∧ (0 : Int) ≤ x ∧ x < (4294967296 : Int)) ∧ ∀ (r_1 : List Int × Int), r_1 = growF_.f (wd (decV (List.take x_1 x.1.data.toList))) [(1000000000 : Int), IntKind.u32.wrap (↑r : Int)] → ((0 : Int) ≤ (9 : Int) ∧ (9 : Int) ≤ (↑(ByteArray.extract x.1 x_1 (ByteArray.size x.1)).size : Int) ∧ (↑(ByteArray.extract x.1 x_1 (ByteArray.size x.1)).size : Int) ≤ (↑(ByteArray.extract x.1 x_1 (ByteArray.size x.1)).size : Int)) ∧ ∃ (x' : Nat), ByteArray.extract x.1 x' (ByteArray.size x.1) = (ByteArray.extract x.1 x_1 (ByteArray.size x.1)).extract (9 : Nat) (ByteArray.extract x.1 x_1 (ByteArray.size x.1)).size ∧ wd (decV (List.take x' x.1.data.toList)) = r_1.1 ∧ (x' ≤ ByteArray.size x.1 ∧ ByteArray.size x.1 ≤ (3000 : Nat) ∧ x.1.data.toList.all isD = true ∧ (x' = (0 : Nat) ∨ (ByteArray.size x.1 - x') % (9 : Nat) = (0 : Nat))) ∧ ByteArray.size x.1 - x' < ByteArray.size x.1 - x_1) ∧ ((((((ByteArray.extract x.1 x_1 (ByteArray.size x.1)).size % 9 : Nat)) : Int) == (0 : Int)) = false → ((0 : Int) ≤ (0 : Int) ∧ (0 : Int) ≤ ((((ByteArray.extract x.1 x_1 (ByteArray.size x.1)).size % 9 : Nat)) : Int) ∧ ((((ByteArray.extract x.1 x_1 (ByteArray.size x.1)).size % 9 : Nat)) : Int) ≤ (↑(ByteArray.extract x.1 x_1 (ByteArray.size x.1)).size : Int)) ∧ (((ByteArray.extract x.1 x_1 (ByteArray.size x.1)).extract (0 : Nat) ((ByteArray.extract x.1 x_1 (ByteArray.size x.1)).size % 9)).data.toList.all isD = true ∧ (0 : Nat) < ((ByteArray.extract x.1 x_1 (ByteArray.size x.1)).extract (0 : Nat) ((ByteArray.extract x.1 x_1 (ByteArray.size x.1)).size % 9)).size ∧ ((ByteArray.extract x.1 x_1 (ByteArray.size x.1)).extract (0 : Nat) ((ByteArray.extract x.1 x_1 (ByteArray.size x.1)).size % 9)).size ≤ (9 : Nat) ∧ (10 : Int) = (10 : Int) ∧ (32 : Int) = (32 : Int)) ∧ ∀ (r : Nat), r = decV ((ByteArray.extract x.1 x_1 (ByteArray.size x.1)).extract (0 : Nat) ((ByteArray.extract x.1 x_1 (ByteArray.size x.1)).size % 9)).data.toList → (wd (decV (List.take x_1 x.1.data.toList)) = wd (toN (wd (decV (List.take x_1 x.1.data.toList)))) ∧ (wd (decV (List.take x_1 x.1.data.toList))).length ≤ (8192 : Nat) ∧ ∃ (x : Int), [(1000000000 : Int), IntKind.u32.wrap (↑r : Int)] = [(1000000000 : Int), x] ∧ (0 : Int) ≤ x ∧ x < (4294967296 : Int)) ∧ ∀ (r_1 : List Int × Int), r_1 = growF_.f (wd (decV (List.take x_1 x.1.data.toList))) [(1000000000 : Int), IntKind.u32.wrap (↑r : Int)] → ((0 : Int) ≤ ((((ByteArray.extract x.1 x_1 (ByteArray.size x.1)).size % 9 : Nat)) : Int) ∧ ((((ByteArray.extract x.1 x_1 (ByteArray.size x.1)).size % 9 : Nat)) : Int) ≤ (↑(ByteArray.extract x.1 x_1 (ByteArray.size x.1)).size : Int) ∧ (↑(ByteArray.extract x.1 x_1 (ByteArray.size x.1)).size : Int) ≤ (↑(ByteArray.extract x.1 x_1 (ByteArray.size x.1)).size : Int)) ∧ ∃ (x' : Nat), ByteArray.extract x.1 x' (ByteArray.size x.1) = (ByteArray.extract x.1 x_1 (ByteArray.size x.1)).extract ((ByteArray.extract x.1 x_1 (ByteArray.size x.1)).size % 9) (ByteArray.extract x.1 x_1 (ByteArray.size x.1)).size ∧ wd (decV (List.take x' x.1.data.toList)) = r_1.1 ∧ (x' ≤ ByteArray.size x.1 ∧ ByteArray.size x.1 ≤ (3000 : Nat) ∧ x.1.data.toList.all isD = true ∧ (x' = (0 : Nat) ∨ (ByteArray.size x.1 - x') % (9 : Nat) = (0 : Nat))) ∧ ByteArray.size x.1 - x' < ByteArray.size x.1 - x_1)) ∧ ((!(ByteArray.extract x.1 x_1 (ByteArray.size x.1)).toList == (ByteArray.toList (⟨#[]⟩ : ByteArray))) = false → (wd (decV (List.take x_1 x.1.data.toList)) = wd (toN (wd (decV (List.take x_1 x.1.data.toList)))) ∧ (wd (decV (List.take x_1 x.1.data.toList))).length ≤ (8192 : Nat)) ∧ ∀ (r : List Int × Int), r = toldF_.f (wd (decV (List.take x_1 x.1.data.toList))) [] → (r.1, r.2, ()) = parN x.1)))))
theorem w_aParseG (y : El sp_aParseG.q) (x : Els sp_aParseG.ps) : aW c_aParseG (iv_aParseG y x) Tryz.f128 sp_aParseG y x = F_aParseG y x := by kernel_rfl
theorem m_aParseG (y : El (.un)) (x : Els [.st]) (h2 : wfE (.un) y) (h3 : wfEs [.st] x) (h4 : ByteArray.size x.1 ≤ 3000 ∨ 65536 < ByteArray.size x.1) : F_aParseG y x := by
  unfold F_aParseG
  have hsz : ByteArray.size x.1 ≤ 3000 ∨ 65536 < ByteArray.size x.1 := h4
  refine ⟨fun h => (par_long (Int.ofNat_lt.1 (gtT h))).symm, fun h => ?_⟩
  have h3k : ByteArray.size x.1 ≤ 3000 := hsz.resolve_right (fun c => absurd (Int.ofNat_lt.2 c) (Int.not_lt.2 (gtF h)))
  refine ⟨fun h => (par_bad h3k (can_0 (tl_e h))).symm, fun h => ⟨rfl, ?_⟩⟩
  have h0 := tl_n h
  rintro _ rfl
  refine ⟨fun h => (par_bad h3k (fun k => tl_n (ntt h) (trB_0.2 (can_all k)))).symm, fun h => ?_⟩
  have hall := trB_0.1 (tl_e (nff h))
  refine ⟨⟨Int.le_refl 0, Int.ofNat_lt.2 (Nat.pos_of_ne_zero h0)⟩, fun hq => ⟨fun h => ?_, fun h => ?_⟩, fun hq => ?_⟩
  · refine (par_bad h3k (fun k => ?_)).symm
    rcases can_first k with c | c
    · have hh : 1 < ByteArray.size x.1 := Int.ofNat_lt.1 (gtT h)
      exact absurd hh (by rw [c]; decide)
    · exact c (Int.ofNat_inj.1 (eqT hq))
  · have hcan : canD x.1.data.toList = true := can_of h0 hall (.inl (Int.ofNat_le.1 (gtF h)))
    refine ⟨⟨0, ex_0 x.1, by rw [List.take_zero, decV_nil, wd_zero], Nat.zero_le _, h3k, hall, .inl rfl⟩, ?_⟩
    rintro k ⟨hk, hs, ha, hm⟩
    have hes := ex_size x.1 k
    refine ⟨fun h => ?_, fun h => ?_⟩
    · have h := tl_n (ntt h)
      refine ⟨by decide, fun hz => ?_, fun hz => ?_⟩
      · have hz : (((x.1.extract k x.1.size).size % 9 : Nat) : Int) = 0 := eqT hz
        have R := par_round (c := 9) hs ha hk (by decide) (by decide) (by omega) (by omega) (.inl rfl)
        refine ⟨⟨Int.le_refl 0, Int.natCast_nonneg 9, Int.ofNat_le.2 R.le⟩, ⟨R.all, Nat.lt_of_lt_of_eq R.pos R.sz.symm, Nat.le_trans (Nat.le_of_eq R.sz) R.nine, rfl, rfl⟩, ?_⟩
        intro r hr
        have lt : r < 4294967296 := Nat.lt_of_le_of_lt (Nat.le_of_eq hr) R.lt
        have vl : decV (x.1.data.toList.take (k + 9)) = decV (x.1.data.toList.take k) * 1000000000 + r := R.val.trans (congrArg (fun v => decV (x.1.data.toList.take k) * 1000000000 + v) hr.symm)
        clear hr
        refine ⟨⟨nrm_wd _, R.wl, _, rfl, by rw [wrap32 lt]; exact Int.natCast_nonneg _, by rw [wrap32 lt]; exact Int.ofNat_lt.2 lt⟩, ?_⟩
        intro r1 hr
        have e := grow_f (decV (x.1.data.toList.take k)) r
        rw [← wrap32 lt] at e
        have e1 : r1.1 = _ := congrArg Prod.fst (hr.trans e)
        clear hr e
        exact ⟨⟨Int.natCast_nonneg 9, Int.ofNat_le.2 R.le, Int.le_refl _⟩, k + 9, R.nx, (congrArg wd vl).trans e1.symm, ⟨R.bd, hs, ha, .inr R.rest⟩, by have := R.pos; have := R.bd; omega⟩
      · have hz : (((x.1.extract k x.1.size).size % 9 : Nat) : Int) ≠ 0 := eqF hz
        have hm9 := Nat.mod_lt (x.1.extract k x.1.size).size (show 9 > 0 by decide)
        have R := par_round (c := (x.1.extract k x.1.size).size % 9) hs ha hk (by omega) (by omega) (by omega) (by omega) (by omega)
        refine ⟨⟨Int.le_refl 0, Int.natCast_nonneg ((x.1.extract k x.1.size).size % 9), Int.ofNat_le.2 R.le⟩, ⟨R.all, Nat.lt_of_lt_of_eq R.pos R.sz.symm, Nat.le_trans (Nat.le_of_eq R.sz) R.nine, rfl, rfl⟩, ?_⟩
        intro r hr
        have lt : r < 4294967296 := Nat.lt_of_le_of_lt (Nat.le_of_eq hr) R.lt
        have vl : decV (x.1.data.toList.take (k + ((x.1.extract k x.1.size).size % 9))) = decV (x.1.data.toList.take k) * 1000000000 + r := R.val.trans (congrArg (fun v => decV (x.1.data.toList.take k) * 1000000000 + v) hr.symm)
        clear hr
        refine ⟨⟨nrm_wd _, R.wl, _, rfl, by rw [wrap32 lt]; exact Int.natCast_nonneg _, by rw [wrap32 lt]; exact Int.ofNat_lt.2 lt⟩, ?_⟩
        intro r1 hr
        have e := grow_f (decV (x.1.data.toList.take k)) r
        rw [← wrap32 lt] at e
        have e1 : r1.1 = _ := congrArg Prod.fst (hr.trans e)
        clear hr e
        exact ⟨⟨Int.natCast_nonneg ((x.1.extract k x.1.size).size % 9), Int.ofNat_le.2 R.le, Int.le_refl _⟩, k + ((x.1.extract k x.1.size).size % 9), R.nx, (congrArg wd vl).trans e1.symm, ⟨R.bd, hs, ha, .inr R.rest⟩, by have := R.pos; have := R.bd; omega⟩
    · have h := tl_e (nff h)
      have ek : k = x.1.size := by omega
      have et : x.1.data.toList.take k = x.1.data.toList := List.take_of_length_le (by rw [ba_len]; omega)
      rw [et]
      refine ⟨⟨nrm_wd _, Nat.le_trans (dec_wds ha (k := 3000) (by rw [ba_len]; omega)) (by decide)⟩, ?_⟩
      intro r hr
      rw [hr]
      exact (par_ok h3k hcan).symm
  · have hcan : canD x.1.data.toList = true := can_of h0 hall (.inr (fun c => eqF hq (congrArg Int.ofNat c)))
    refine ⟨⟨0, ex_0 x.1, by rw [List.take_zero, decV_nil, wd_zero], Nat.zero_le _, h3k, hall, .inl rfl⟩, ?_⟩
    rintro k ⟨hk, hs, ha, hm⟩
    have hes := ex_size x.1 k
    refine ⟨fun h => ?_, fun h => ?_⟩
    · have h := tl_n (ntt h)
      refine ⟨by decide, fun hz => ?_, fun hz => ?_⟩
      · have hz : (((x.1.extract k x.1.size).size % 9 : Nat) : Int) = 0 := eqT hz
        have R := par_round (c := 9) hs ha hk (by decide) (by decide) (by omega) (by omega) (.inl rfl)
        refine ⟨⟨Int.le_refl 0, Int.natCast_nonneg 9, Int.ofNat_le.2 R.le⟩, ⟨R.all, Nat.lt_of_lt_of_eq R.pos R.sz.symm, Nat.le_trans (Nat.le_of_eq R.sz) R.nine, rfl, rfl⟩, ?_⟩
        intro r hr
        have lt : r < 4294967296 := Nat.lt_of_le_of_lt (Nat.le_of_eq hr) R.lt
        have vl : decV (x.1.data.toList.take (k + 9)) = decV (x.1.data.toList.take k) * 1000000000 + r := R.val.trans (congrArg (fun v => decV (x.1.data.toList.take k) * 1000000000 + v) hr.symm)
        clear hr
        refine ⟨⟨nrm_wd _, R.wl, _, rfl, by rw [wrap32 lt]; exact Int.natCast_nonneg _, by rw [wrap32 lt]; exact Int.ofNat_lt.2 lt⟩, ?_⟩
        intro r1 hr
        have e := grow_f (decV (x.1.data.toList.take k)) r
        rw [← wrap32 lt] at e
        have e1 : r1.1 = _ := congrArg Prod.fst (hr.trans e)
        clear hr e
        exact ⟨⟨Int.natCast_nonneg 9, Int.ofNat_le.2 R.le, Int.le_refl _⟩, k + 9, R.nx, (congrArg wd vl).trans e1.symm, ⟨R.bd, hs, ha, .inr R.rest⟩, by have := R.pos; have := R.bd; omega⟩
      · have hz : (((x.1.extract k x.1.size).size % 9 : Nat) : Int) ≠ 0 := eqF hz
        have hm9 := Nat.mod_lt (x.1.extract k x.1.size).size (show 9 > 0 by decide)
        have R := par_round (c := (x.1.extract k x.1.size).size % 9) hs ha hk (by omega) (by omega) (by omega) (by omega) (by omega)
        refine ⟨⟨Int.le_refl 0, Int.natCast_nonneg ((x.1.extract k x.1.size).size % 9), Int.ofNat_le.2 R.le⟩, ⟨R.all, Nat.lt_of_lt_of_eq R.pos R.sz.symm, Nat.le_trans (Nat.le_of_eq R.sz) R.nine, rfl, rfl⟩, ?_⟩
        intro r hr
        have lt : r < 4294967296 := Nat.lt_of_le_of_lt (Nat.le_of_eq hr) R.lt
        have vl : decV (x.1.data.toList.take (k + ((x.1.extract k x.1.size).size % 9))) = decV (x.1.data.toList.take k) * 1000000000 + r := R.val.trans (congrArg (fun v => decV (x.1.data.toList.take k) * 1000000000 + v) hr.symm)
        clear hr
        refine ⟨⟨nrm_wd _, R.wl, _, rfl, by rw [wrap32 lt]; exact Int.natCast_nonneg _, by rw [wrap32 lt]; exact Int.ofNat_lt.2 lt⟩, ?_⟩
        intro r1 hr
        have e := grow_f (decV (x.1.data.toList.take k)) r
        rw [← wrap32 lt] at e
        have e1 : r1.1 = _ := congrArg Prod.fst (hr.trans e)
        clear hr e
        exact ⟨⟨Int.natCast_nonneg ((x.1.extract k x.1.size).size % 9), Int.ofNat_le.2 R.le, Int.le_refl _⟩, k + ((x.1.extract k x.1.size).size % 9), R.nx, (congrArg wd vl).trans e1.symm, ⟨R.bd, hs, ha, .inr R.rest⟩, by have := R.pos; have := R.bd; omega⟩
    · have h := tl_e (nff h)
      have ek : k = x.1.size := by omega
      have et : x.1.data.toList.take k = x.1.data.toList := List.take_of_length_le (by rw [ba_len]; omega)
      rw [et]
      refine ⟨⟨nrm_wd _, Nat.le_trans (dec_wds ha (k := 3000) (by rw [ba_len]; omega)) (by decide)⟩, ?_⟩
      intro r hr
      rw [hr]
      exact (par_ok h3k hcan).symm
theorem fo_aParseG : FnOk Tryz.prog 128 sp_aParseG := fnOk_of (C := c_aParseG) iv_aParseG Tryz.func128 rfl (by kernel_rfl) tys_ok (prims_cons (spec_prim fo_sTrim) (prims_cons pr_pu (prims_cons (row_prim row_grow) (prims_cons (row_prim row_told) prims_nil)))) mixed_ (Nat.le_refl _) rfl fun y x h1 h2 h3 h4 =>
  Eq.mpr (w_aParseG y x) (m_aParseG y x h2 h3 h4)
def cutB (s p : ByteArray) : ByteArray × ByteArray × Bool := if 0 ≤ ixB s p then (s.extract 0 (ixB s p).toNat, s.extract ((ixB s p).toNat + 1) s.size, true) else (s, ⟨#[]⟩, false)
theorem cut_law {s p : ByteArray} {i : Int} (hs : s.size ≤ 9223372036854775807) (hp : p.size = 1) (hi : i = ixB s p) (h : 0 ≤ i) : ((0 : Int) ≤ 0 ∧ 0 ≤ i ∧ i ≤ (s.size : Int)) ∧ (-9223372036854775808 ≤ i + (p.size : Int) ∧ i + (p.size : Int) ≤ 9223372036854775807) ∧ (0 ≤ i + (p.size : Int) ∧ i + (p.size : Int) ≤ (s.size : Int) ∧ (s.size : Int) ≤ (s.size : Int)) ∧
    (s.extract (Int.toNat 0) i.toNat, s.extract (i + (p.size : Int)).toNat (Int.toNat (s.size : Int)), true, ()) = ((cutB s p).1, (cutB s p).2.1, (cutB s p).2.2, ()) := by
  rcases ixB_rng s p with e | ⟨r0, r1⟩
  · omega
  · rw [hp]
    refine ⟨⟨by omega, by omega, by omega⟩, ⟨by omega, by omega⟩, ⟨by omega, by omega, by omega⟩, ?_⟩
    unfold cutB
    rw [if_pos (by omega), ← hi, Int.toNat_natCast, show (i + ((1 : Nat) : Int)).toNat = i.toNat + 1 by omega]
    rfl
theorem cut_miss {s p : ByteArray} {i : Int} (hi : i = ixB s p) (h : i < 0) : (s, (⟨#[]⟩ : ByteArray), false, ()) = ((cutB s p).1, (cutB s p).2.1, (cutB s p).2.2, ()) := by
  unfold cutB
  rw [if_neg (by omega)]
noncomputable def sp_sCutL : Spec := { q := .un, ps := [.st, .st], rs := [.st, .st, .bo], fresh := true, pre := fun _ x => some (ByteArray.size x.2.1 = 1), post := fun _ x => ((), ((cutB x.1 x.2.1).1, (cutB x.1 x.2.1).2.1, (cutB x.1 x.2.1).2.2, ())) }
noncomputable def iv_sCutL (y : El sp_sCutL.q) (x : Els sp_sCutL.ps) : Nat → Option Inv := fun _ => none
noncomputable abbrev c_sCutL : Cfg := cfgS (Tryz.f170).ntmps false [(234, sp_sIdx.prim)]
def F_sCutL (y : El sp_sCutL.q) (x : Els sp_sCutL.ps) : Prop :=
  ByteArray.size x.2.1 = (1 : Nat) ∧ ∀ (r : Ro [Ty.it IntKind.i64]), r = ((), ixB x.1 x.2.1, ()) → (decide (r.2.1 ≥ (0 : Int)) = true → ((0 : Int) ≤ (0 : Int) ∧ (0 : Int) ≤ r.2.1 ∧ r.2.1 ≤ (↑(ByteArray.size x.1) : Int)) ∧ ((-9223372036854775808 : Int) ≤ r.2.1 + (↑(ByteArray.size x.2.1) : Int) ∧ r.2.1 + (↑(ByteArray.size x.2.1) : Int) ≤ (9223372036854775807 : Int)) ∧ ((0 : Int) ≤ r.2.1 + (↑(ByteArray.size x.2.1) : Int) ∧ r.2.1 + (↑(ByteArray.size x.2.1) : Int) ≤ (↑(ByteArray.size x.1) : Int) ∧ (↑(ByteArray.size x.1) : Int) ≤ (↑(ByteArray.size x.1) : Int)) ∧ (ByteArray.extract x.1 (Int.toNat (0 : Int)) (Int.toNat r.2.1), ByteArray.extract x.1 (r.2.1 + (↑(ByteArray.size x.2.1) : Int)).toNat (↑(ByteArray.size x.1) : Int).toNat, true, ()) = ((cutB x.1 x.2.1).1, (cutB x.1 x.2.1).2.1, (cutB x.1 x.2.1).2.2, ())) ∧ (decide (r.2.1 ≥ (0 : Int)) = false → (x.1, (⟨#[]⟩ : ByteArray), false, ()) = ((cutB x.1 x.2.1).1, (cutB x.1 x.2.1).2.1, (cutB x.1 x.2.1).2.2, ()))
theorem w_sCutL (y : El sp_sCutL.q) (x : Els sp_sCutL.ps) : aW c_sCutL (iv_sCutL y x) Tryz.f170 sp_sCutL y x = F_sCutL y x := by kernel_rfl
theorem m_sCutL (y : El (.un)) (x : Els [.st, .st]) (h2 : wfE (.un) y) (h3 : wfEs [.st, .st] x) (h4 : ByteArray.size x.2.1 = 1) : F_sCutL y x := by
  unfold F_sCutL
  have hs : ByteArray.size x.1 ≤ 9223372036854775807 := h3.1
  refine ⟨h4, ?_⟩
  rintro _ rfl
  exact ⟨fun h => cut_law (i := ixB x.1 x.2.1) hs h4 rfl (geT h), fun h => cut_miss (i := ixB x.1 x.2.1) rfl (geF h)⟩
theorem fo_sCutL : FnOk Tryz.prog 170 sp_sCutL := fnOk_of (C := c_sCutL) iv_sCutL Tryz.func170 rfl (by kernel_rfl) tys_ok (prims_cons (spec_prim fo_sIdx) prims_nil) mixed_ (Nat.le_refl _) rfl fun y x h1 h2 h3 h4 =>
  Eq.mpr (w_sCutL y x) (m_sCutL y x h2 h3 h4)
noncomputable def sp_sCut : Spec := { q := .un, ps := [.st, .st], rs := [.st, .st, .bo], fresh := true, pre := fun _ x => some (ByteArray.size x.2.1 = 1), post := fun _ x => ((), ((cutB x.1 x.2.1).1, (cutB x.1 x.2.1).2.1, (cutB x.1 x.2.1).2.2, ())) }
noncomputable def iv_sCut (y : El sp_sCut.q) (x : Els sp_sCut.ps) : Nat → Option Inv := fun _ => none
noncomputable abbrev c_sCut : Cfg := cfgS (Tryz.f87).ntmps false [(170, sp_sCutL.prim)]
def F_sCut (y : El sp_sCut.q) (x : Els sp_sCut.ps) : Prop :=
  ByteArray.size x.2.1 = (1 : Nat) ∧ ∀ (r : Ro [Ty.st, Ty.st, Ty.bo]), r = ((), (cutB x.1 x.2.1).1, (cutB x.1 x.2.1).2.1, (cutB x.1 x.2.1).2.2, ()) → r.2 = ((cutB x.1 x.2.1).1, (cutB x.1 x.2.1).2.1, (cutB x.1 x.2.1).2.2, ())
theorem w_sCut (y : El sp_sCut.q) (x : Els sp_sCut.ps) : aW c_sCut (iv_sCut y x) Tryz.f87 sp_sCut y x = F_sCut y x := by kernel_rfl
theorem m_sCut (y : El (.un)) (x : Els [.st, .st]) (h2 : wfE (.un) y) (h3 : wfEs [.st, .st] x) (h4 : ByteArray.size x.2.1 = 1) : F_sCut y x := by
  unfold F_sCut
  refine ⟨h4, ?_⟩
  rintro _ rfl
  rfl
theorem fo_sCut : FnOk Tryz.prog 87 sp_sCut := fnOk_of (C := c_sCut) iv_sCut Tryz.func87 rfl (by kernel_rfl) tys_ok (prims_cons (spec_prim fo_sCutL) prims_nil) mixed_ (Nat.le_refl _) rfl fun y x h1 h2 h3 h4 =>
  Eq.mpr (w_sCut y x) (m_sCut y x h2 h3 h4)
noncomputable def sp_rlong : Spec := { q := .un, ps := [tW32], rs := [.bo], fresh := true, pre := fun _ _ => none, post := fun _ x => ((), (decide (2048 < x.1.length), ())) }
noncomputable def iv_rlong (y : El sp_rlong.q) (x : Els sp_rlong.ps) : Nat → Option Inv := fun _ => none
noncomputable abbrev c_rlong : Cfg := cfgS (Tryz.f130).ntmps false []
def F_rlong (y : El sp_rlong.q) (x : Els sp_rlong.ps) : Prop :=
  (decide ((x.1.length : Int) > (2048 : Int)), ()) = (decide ((2048 : Nat) < List.length x.1), ())
theorem w_rlong (y : El sp_rlong.q) (x : Els sp_rlong.ps) : aW c_rlong (iv_rlong y x) Tryz.f130 sp_rlong y x = F_rlong y x := by kernel_rfl
theorem m_rlong (y : El (.un)) (x : Els [tW32]) (h2 : wfE (.un) y) (h3 : wfEs [tW32] x) : F_rlong y x := by
  unfold F_rlong
  refine congrArg (fun b => (b, ())) ?_
  rw [Bool.eq_iff_iff, decide_eq_true_eq, decide_eq_true_eq]
  exact Int.ofNat_lt
theorem fo_rlong : FnOk Tryz.prog 130 sp_rlong := fnOk_of (C := c_rlong) iv_rlong Tryz.func130 rfl (by kernel_rfl) tys_ok prims_nil mixed_ (Nat.le_refl _) rfl fun y x h1 h2 h3 h4 =>
  Eq.mpr (w_rlong y x) (m_rlong y x h2 h3)
def b_sl : ByteArray := ⟨#[47]⟩
def b_mi : ByteArray := ⟨#[45]⟩
def topR (s : ByteArray) : ByteArray × Bool := cutP (cutB s b_sl).1 b_mi
def denR (s : ByteArray) : Nat := bif (cutB s b_sl).2.2 then pV (cutB s b_sl).2.1 else 1
def okR (s : ByteArray) : Bool := decide (s.size ≤ 65536) && pOk (topR s).1 && !((topR s).2 && decide (pV (topR s).1 = 0)) && (bif (cutB s b_sl).2.2 then pOk (cutB s b_sl).2.1 && decide (1 < pV (cutB s b_sl).2.1) else true) && decide (Nat.gcd (pV (topR s).1) (denR s) = 1)
def valR (s : ByteArray) : Fr := ⟨(topR s).2, wd (pV (topR s).1), wd (denR s)⟩
theorem okR_of {s : ByteArray} (h : okR s = true) : s.size ≤ 65536 ∧ pOk (topR s).1 = true ∧ ((topR s).2 = true → pV (topR s).1 ≠ 0) ∧ ((cutB s b_sl).2.2 = true → pOk (cutB s b_sl).2.1 = true ∧ 1 < pV (cutB s b_sl).2.1) ∧ Nat.gcd (pV (topR s).1) (denR s) = 1 := by
  unfold okR at h
  simp only [Bool.and_eq_true, decide_eq_true_eq] at h
  obtain ⟨⟨⟨⟨h1, h2⟩, h3⟩, h4⟩, h5⟩ := h
  refine ⟨h1, h2, fun hn hz => ?_, fun hb => ?_, h5⟩
  · rw [hn, decide_eq_true hz] at h3
    cases h3
  · rw [hb] at h4
    simp only [cond_true, Bool.and_eq_true, decide_eq_true_eq] at h4
    exact h4
theorem pV_len {s : ByteArray} (h : pOk s = true) : (wd (pV s)).length ≤ 1 := by
  obtain ⟨_, _, _, _, p5⟩ := pOk_of h
  have := Lib.parseUintB_le p5
  exact wd_len_le _ 1 (by show ((pV s : Nat) : Int) < 4294967296; omega)
theorem cmp_gt1 {v : Nat} (h : 1 < v) : (cmp (toN (wd v)) (toN [1]) : Int) = 1 := by
  rw [toN_wd, toN_1]
  exact cmp_gt h
theorem cmp_11 {a b : Nat} (h : Nat.gcd a b = 1) : (cmp (toN (wd (Nat.gcd (toN (wd a)) (toN (wd b))))) (toN [1]) : Int) = 0 := by
  rw [toN_wd, toN_wd, toN_wd, h, toN_1]
  rfl
theorem cmp_12 {a : Nat} (h : Nat.gcd a 1 = 1) : (cmp (toN (wd (Nat.gcd (toN (wd a)) (toN [1])))) (toN [1]) : Int) = 0 := by
  rw [toN_wd, toN_1, toN_wd, h]
  rfl
theorem lenM_nz {n : Nat} (h : (lenM 0 (Ty.it IntKind.u32) (wd n) == (0 : Int)) = true) : n = 0 := by
  have h : ((wd n).length : Int) = 0 := eq_of_beq h
  exact wd_len_zero.1 (by omega)
noncomputable def sp_rParse : Spec := { q := .un, ps := [.st], rs := [tR, .it .i64], fresh := true, pre := fun _ x => some (okR x.1 = true), post := fun _ x => pR (valR x.1, 0) }
noncomputable def iv_rParse (y : El sp_rParse.q) (x : Els sp_rParse.ps) : Nat → Option Inv := fun _ => none
noncomputable abbrev c_rParse : Cfg := cfgS (Tryz.f52).ntmps false [(87, sp_sCut.prim), (127, sp_sCutP.prim), (128, sp_aParse.prim), (122, sp_aCmp.prim), (129, sp_aGcd.prim), (130, sp_rlong.prim)]
def F_rParse (y : El sp_rParse.q) (x : Els sp_rParse.ps) : Prop :=
  (decide ((↑(ByteArray.size x.1) : Int) > (65536 : Int)) = true → ((false, [], [], ()), (3 : Int), ()) = (pR (valR x.1, (0 : Int))).2) ∧ (decide ((↑(ByteArray.size x.1) : Int) > (65536 : Int)) = false → (⟨#[(47 : UInt8)]⟩ : ByteArray).size = (1 : Nat) ∧ ∀ (r : Ro [Ty.st, Ty.st, Ty.bo]), r = ((), (cutB x.1 (⟨#[(47 : UInt8)]⟩ : ByteArray)).1, (cutB x.1 (⟨#[(47 : UInt8)]⟩ : ByteArray)).2.1, (cutB x.1 (⟨#[(47 : UInt8)]⟩ : ByteArray)).2.2, ()) → ∀ (r_1 : Ro [Ty.st, Ty.bo]), r_1 = ((), (cutP r.2.1 (⟨#[(45 : UInt8)]⟩ : ByteArray)).1, (cutP r.2.1 (⟨#[(45 : UInt8)]⟩ : ByteArray)).2, ()) → pOk r_1.2.1 = true ∧ ∀ (r_2 : Ro [tW32, Ty.it IntKind.i64]), r_2 = ((), wd (pV r_1.2.1), (0 : El (Ty.it IntKind.i64)), ()) → ((r_2.2.2.1 != (0 : Int)) = true → ((false, [], [], ()), (130 : Int), ()) = (pR (valR x.1, (0 : Int))).2) ∧ ((r_2.2.2.1 != (0 : Int)) = false → (r_1.2.2.1 = true → ((lenM (0 : Nat) (Ty.it IntKind.u32) r_2.2.1 == (0 : Int)) = true → ((false, [], [], ()), (130 : Int), ()) = (pR (valR x.1, (0 : Int))).2) ∧ ((lenM (0 : Nat) (Ty.it IntKind.u32) r_2.2.1 == (0 : Int)) = false → (r.2.2.2.1 = true → pOk r.2.2.1 = true ∧ ∀ (r_3 : Ro [tW32, Ty.it IntKind.i64]), r_3 = ((), wd (pV r.2.2.1), (0 : El (Ty.it IntKind.i64)), ()) → ((r_3.2.2.1 != (0 : Int)) = true → ((false, [], [], ()), (130 : Int), ()) = (pR (valR x.1, (0 : Int))).2) ∧ ((r_3.2.2.1 != (0 : Int)) = false → (r_3.2.1 = wd (toN r_3.2.1) ∧ [(1 : Int)] = wd (toN [(1 : Int)])) ∧ ∀ (r : Ro [Ty.it IntKind.i64]), r = ((), cmp (toN r_3.2.1) (toN [(1 : Int)]), ()) → (decide (r.2.1 ≤ (0 : Int)) = true → ((false, [], [], ()), (130 : Int), ()) = (pR (valR x.1, (0 : Int))).2) ∧ (decide (r.2.1 ≤ (0 : Int)) = false → (r_2.2.1 = wd (toN r_2.2.1) ∧ r_3.2.1 = wd (toN r_3.2.1) ∧ List.length r_2.2.1 ≤ (8192 : Nat) ∧ List.length r_3.2.1 ≤ (8192 : Nat)) ∧ ∀ (r : Ro [tW32, Ty.it IntKind.i64]), r = ((), wd ((toN r_2.2.1).gcd (toN r_3.2.1)), (0 : El (Ty.it IntKind.i64)), ()) → (r.2.1 = wd (toN r.2.1) ∧ [(1 : Int)] = wd (toN [(1 : Int)])) ∧ ∀ (r_4 : Ro [Ty.it IntKind.i64]), r_4 = ((), cmp (toN r.2.1) (toN [(1 : Int)]), ()) → ((r_4.2.1 != (0 : Int)) = true → ((false, [], [], ()), (130 : Int), ()) = (pR (valR x.1, (0 : Int))).2) ∧ ((r_4.2.1 != (0 : Int)) = false → ∀ (r : Ro [Ty.bo]), r = ((), decide ((2048 : Nat) < List.length r_2.2.1), ()) → (r.2.1 = true → ((false, [], [], ()), (3 : Int), ()) = (pR (valR x.1, (0 : Int))).2) ∧ (r.2.1 = false → ∀ (r : Ro [Ty.bo]), r = ((), decide ((2048 : Nat) < List.length r_3.2.1), ()) → (r.2.1 = true → ((false, [], [], ()), (3 : Int), ()) = (pR (valR x.1, (0 : Int))).2) ∧ (r.2.1 = false → ((r_1.2.2.1, r_2.2.1, r_3.2.1, ()), (0 : Int), ()) = (pR (valR x.1, (0 : Int))).2)))))) ∧ (r.2.2.2.1 = false → (r_2.2.1 = wd (toN r_2.2.1) ∧ [(1 : Int)] = wd (toN [(1 : Int)]) ∧ List.length r_2.2.1 ≤ (8192 : Nat) ∧ [(1 : Int)].length ≤ (8192 : Nat)) ∧ ∀ (r : Ro [tW32, Ty.it IntKind.i64]), r = ((), wd ((toN r_2.2.1).gcd (toN [(1 : Int)])), (0 : El (Ty.it IntKind.i64)), ()) → (r.2.1 = wd (toN r.2.1) ∧ [(1 : Int)] = wd (toN [(1 : Int)])) ∧ ∀ (r_3 : Ro [Ty.it IntKind.i64]), r_3 = ((), cmp (toN r.2.1) (toN [(1 : Int)]), ()) → ((r_3.2.1 != (0 : Int)) = true → ((false, [], [], ()), (130 : Int), ()) = (pR (valR x.1, (0 : Int))).2) ∧ ((r_3.2.1 != (0 : Int)) = false → ∀ (r : Ro [Ty.bo]), r = ((), decide ((2048 : Nat) < List.length r_2.2.1), ()) → (r.2.1 = true → ((false, [], [], ()), (3 : Int), ()) = (pR (valR x.1, (0 : Int))).2) ∧ (r.2.1 = false → ∀ (r : Ro [Ty.bo]), r = ((), decide ((2048 : Nat) < [(1 : Int)].length), ()) → (r.2.1 = true → ((false, [], [], ()), (3 : Int), ()) = (pR (valR x.1, (0 : Int))).2) ∧ (r.2.1 = false → ((r_1.2.2.1, r_2.2.1, [(1 : Int)], ()), (0 : Int), ()) = (pR (valR x.1, (0 : Int))).2)))))) ∧ (r_1.2.2.1 = false → (r.2.2.2.1 = true → pOk r.2.2.1 = true ∧ ∀ (r_3 : Ro [tW32, Ty.it IntKind.i64]), r_3 = ((), wd (pV r.2.2.1), (0 : El (Ty.it IntKind.i64)), ()) → ((r_3.2.2.1 != (0 : Int)) = true → ((false, [], [], ()), (130 : Int), ()) = (pR (valR x.1, (0 : Int))).2) ∧ ((r_3.2.2.1 != (0 : Int)) = false → (r_3.2.1 = wd (toN r_3.2.1) ∧ [(1 : Int)] = wd (toN [(1 : Int)])) ∧ ∀ (r : Ro [Ty.it IntKind.i64]), r = ((), cmp (toN r_3.2.1) (toN [(1 : Int)]), ()) → (decide (r.2.1 ≤ (0 : Int)) = true → ((false, [], [], ()), (130 : Int), ()) = (pR (valR x.1, (0 : Int))).2) ∧ (decide (r.2.1 ≤ (0 : Int)) = false → (r_2.2.1 = wd (toN r_2.2.1) ∧ r_3.2.1 = wd (toN r_3.2.1) ∧ List.length r_2.2.1 ≤ (8192 : Nat) ∧ List.length r_3.2.1 ≤ (8192 : Nat)) ∧ ∀ (r : Ro [tW32, Ty.it IntKind.i64]), r = ((), wd ((toN r_2.2.1).gcd (toN r_3.2.1)), (0 : El (Ty.it IntKind.i64)), ()) → (r.2.1 = wd (toN r.2.1) ∧ [(1 : Int)] = wd (toN [(1 : Int)])) ∧ ∀ (r_4 : Ro [Ty.it IntKind.i64]), r_4 = ((), cmp (toN r.2.1) (toN [(1 : Int)]), ()) → ((r_4.2.1 != (0 : Int)) = true → ((false, [], [], ()), (130 : Int), ()) = (pR (valR x.1, (0 : Int))).2) ∧ ((r_4.2.1 != (0 : Int)) = false → ∀ (r : Ro [Ty.bo]), r = ((), decide ((2048 : Nat) < List.length r_2.2.1), ()) → (r.2.1 = true → ((false, [], [], ()), (3 : Int), ()) = (pR (valR x.1, (0 : Int))).2) ∧ (r.2.1 = false → ∀ (r : Ro [Ty.bo]), r = ((), decide ((2048 : Nat) < List.length r_3.2.1), ()) → (r.2.1 = true → ((false, [], [], ()), (3 : Int), ()) = (pR (valR x.1, (0 : Int))).2) ∧ (r.2.1 = false → ((r_1.2.2.1, r_2.2.1, r_3.2.1, ()), (0 : Int), ()) = (pR (valR x.1, (0 : Int))).2)))))) ∧ (r.2.2.2.1 = false → (r_2.2.1 = wd (toN r_2.2.1) ∧ [(1 : Int)] = wd (toN [(1 : Int)]) ∧ List.length r_2.2.1 ≤ (8192 : Nat) ∧ [(1 : Int)].length ≤ (8192 : Nat)) ∧ ∀ (r : Ro [tW32, Ty.it IntKind.i64]), r = ((), wd ((toN r_2.2.1).gcd (toN [(1 : Int)])), (0 : El (Ty.it IntKind.i64)), ()) → (r.2.1 = wd (toN r.2.1) ∧ [(1 : Int)] = wd (toN [(1 : Int)])) ∧ ∀ (r_3 : Ro [Ty.it IntKind.i64]), r_3 = ((), cmp (toN r.2.1) (toN [(1 : Int)]), ()) → ((r_3.2.1 != (0 : Int)) = true → ((false, [], [], ()), (130 : Int), ()) = (pR (valR x.1, (0 : Int))).2) ∧ ((r_3.2.1 != (0 : Int)) = false → ∀ (r : Ro [Ty.bo]), r = ((), decide ((2048 : Nat) < List.length r_2.2.1), ()) → (r.2.1 = true → ((false, [], [], ()), (3 : Int), ()) = (pR (valR x.1, (0 : Int))).2) ∧ (r.2.1 = false → ∀ (r : Ro [Ty.bo]), r = ((), decide ((2048 : Nat) < [(1 : Int)].length), ()) → (r.2.1 = true → ((false, [], [], ()), (3 : Int), ()) = (pR (valR x.1, (0 : Int))).2) ∧ (r.2.1 = false → ((r_1.2.2.1, r_2.2.1, [(1 : Int)], ()), (0 : Int), ()) = (pR (valR x.1, (0 : Int))).2)))))))
theorem w_rParse (y : El sp_rParse.q) (x : Els sp_rParse.ps) : aW c_rParse (iv_rParse y x) Tryz.f52 sp_rParse y x = F_rParse y x := by kernel_rfl
theorem m_rParse (y : El (.un)) (x : Els [.st]) (h2 : wfE (.un) y) (h3 : wfEs [.st] x) (h4 : okR x.1 = true) : F_rParse y x := by
  unfold F_rParse
  obtain ⟨q1, q2, q3, q4, q5⟩ := okR_of h4
  have l1 := pV_len q2
  refine ⟨fun h => absurd (Int.ofNat_lt.1 (gtT h)) (Nat.not_lt.2 q1), fun _ => ⟨rfl, ?_⟩⟩
  rintro _ rfl _ rfl
  refine ⟨q2, ?_⟩
  rintro _ rfl
  refine ⟨fun h => Bool.noConfusion (show false = true from h), fun _ => ⟨fun hn => ⟨fun hz => absurd (lenM_nz hz) (q3 hn), fun _ => ?_⟩, fun hn => ?_⟩⟩
  · refine ⟨fun hb => ?_, fun hb => ?_⟩
    · have hb : (cutB x.1 b_sl).2.2 = true := hb
      obtain ⟨q6, q7⟩ := q4 hb
      have e5 : denR x.1 = pV (cutB x.1 b_sl).2.1 := by unfold denR; rw [hb]; rfl
      rw [e5] at q5
      have l2 := pV_len q6
      refine ⟨q6, ?_⟩
      rintro _ rfl
      refine ⟨fun h => Bool.noConfusion (show false = true from h), fun _ => ⟨⟨nrm_wd _, nrm_1⟩, ?_⟩⟩
      rintro _ rfl
      refine ⟨fun h => ?_, fun _ => ⟨⟨nrm_wd _, nrm_wd _, Nat.le_trans l1 (by decide), Nat.le_trans l2 (by decide)⟩, ?_⟩⟩
      · have h : (cmp (toN (wd (pV (cutB x.1 b_sl).2.1))) (toN [1]) : Int) ≤ 0 := leT h
        rw [cmp_gt1 q7] at h
        exact absurd h (by decide)
      rintro _ rfl
      refine ⟨⟨nrm_wd _, nrm_1⟩, ?_⟩
      rintro _ rfl
      refine ⟨fun h => absurd (cmp_11 q5) (neT h), fun _ => ?_⟩
      rintro _ rfl
      refine ⟨fun h => absurd (of_decide_eq_true h) (Nat.not_lt.2 (Nat.le_trans l1 (by decide))), fun _ => ?_⟩
      rintro _ rfl
      refine ⟨fun h => absurd (of_decide_eq_true h) (Nat.not_lt.2 (Nat.le_trans l2 (by decide))), fun _ => ?_⟩
      unfold valR
      rw [e5]
      rfl
    · have hb : (cutB x.1 b_sl).2.2 = false := hb
      have e5 : denR x.1 = 1 := by unfold denR; rw [hb]; rfl
      rw [e5] at q5
      refine ⟨⟨nrm_wd _, nrm_1, Nat.le_trans l1 (by decide), by decide⟩, ?_⟩
      rintro _ rfl
      refine ⟨⟨nrm_wd _, nrm_1⟩, ?_⟩
      rintro _ rfl
      refine ⟨fun h => absurd (cmp_12 q5) (neT h), fun _ => ?_⟩
      rintro _ rfl
      refine ⟨fun h => absurd (of_decide_eq_true h) (Nat.not_lt.2 (Nat.le_trans l1 (by decide))), fun _ => ?_⟩
      rintro _ rfl
      refine ⟨fun h => Bool.noConfusion (show false = true from h), fun _ => ?_⟩
      unfold valR
      rw [e5, wd_one]
      rfl
  · refine ⟨fun hb => ?_, fun hb => ?_⟩
    · have hb : (cutB x.1 b_sl).2.2 = true := hb
      obtain ⟨q6, q7⟩ := q4 hb
      have e5 : denR x.1 = pV (cutB x.1 b_sl).2.1 := by unfold denR; rw [hb]; rfl
      rw [e5] at q5
      have l2 := pV_len q6
      refine ⟨q6, ?_⟩
      rintro _ rfl
      refine ⟨fun h => Bool.noConfusion (show false = true from h), fun _ => ⟨⟨nrm_wd _, nrm_1⟩, ?_⟩⟩
      rintro _ rfl
      refine ⟨fun h => ?_, fun _ => ⟨⟨nrm_wd _, nrm_wd _, Nat.le_trans l1 (by decide), Nat.le_trans l2 (by decide)⟩, ?_⟩⟩
      · have h : (cmp (toN (wd (pV (cutB x.1 b_sl).2.1))) (toN [1]) : Int) ≤ 0 := leT h
        rw [cmp_gt1 q7] at h
        exact absurd h (by decide)
      rintro _ rfl
      refine ⟨⟨nrm_wd _, nrm_1⟩, ?_⟩
      rintro _ rfl
      refine ⟨fun h => absurd (cmp_11 q5) (neT h), fun _ => ?_⟩
      rintro _ rfl
      refine ⟨fun h => absurd (of_decide_eq_true h) (Nat.not_lt.2 (Nat.le_trans l1 (by decide))), fun _ => ?_⟩
      rintro _ rfl
      refine ⟨fun h => absurd (of_decide_eq_true h) (Nat.not_lt.2 (Nat.le_trans l2 (by decide))), fun _ => ?_⟩
      unfold valR
      rw [e5]
      rfl
    · have hb : (cutB x.1 b_sl).2.2 = false := hb
      have e5 : denR x.1 = 1 := by unfold denR; rw [hb]; rfl
      rw [e5] at q5
      refine ⟨⟨nrm_wd _, nrm_1, Nat.le_trans l1 (by decide), by decide⟩, ?_⟩
      rintro _ rfl
      refine ⟨⟨nrm_wd _, nrm_1⟩, ?_⟩
      rintro _ rfl
      refine ⟨fun h => absurd (cmp_12 q5) (neT h), fun _ => ?_⟩
      rintro _ rfl
      refine ⟨fun h => absurd (of_decide_eq_true h) (Nat.not_lt.2 (Nat.le_trans l1 (by decide))), fun _ => ?_⟩
      rintro _ rfl
      refine ⟨fun h => Bool.noConfusion (show false = true from h), fun _ => ?_⟩
      unfold valR
      rw [e5, wd_one]
      rfl
theorem fo_rParse : FnOk Tryz.prog 52 sp_rParse := fnOk_of (C := c_rParse) iv_rParse Tryz.func52 rfl (by kernel_rfl) tys_ok (prims_cons (spec_prim fo_sCut) (prims_cons (spec_prim fo_sCutP) (prims_cons (spec_prim fo_aParse) (prims_cons (spec_prim fo_aCmp) (prims_cons (spec_prim fo_aGcd) (prims_cons (spec_prim fo_rlong) prims_nil)))))) mixed_ (Nat.le_refl _) rfl fun y x h1 h2 h3 h4 =>
  Eq.mpr (w_rParse y x) (m_rParse y x h2 h3 h4)
end Go.Proofs.YtemlaompalbgiaaGreatDoor
