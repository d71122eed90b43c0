/- Texts of this claim, joined: H6 H7 E7. -/
import Derived.Test.YtjoonfegjobgbaaGreatDoorRu
set_option linter.unusedVariables false
set_option linter.unusedSimpArgs false
set_option maxRecDepth 100000
namespace Go.Proofs.YtjoonfegjobgbaaGreatDoor
open Go Go.RowKit
def tysT : List (Nat × (Ty × Nat)) := (72, (.sl .st, 9)) :: tysS
theorem tysT_ok : tyB Tryz.prog tysT tysT = true := by kernel_rfl
def jnP (P : List ByteArray) : List UInt8 := (P.reverse.map (·.data.toList)).flatten
def priI (N m : Nat) (P : List ByteArray) : Prop := m ≤ N ∧ ((m ≠ 0 ∧ (jnP P).length = 9 * P.length ∧ Lib.decDigits N = Lib.decDigits m ++ jnP P) ∨ (m = 0 ∧ P ≠ [] ∧ P.length ≤ 3000 ∧ Lib.decDigits N = jnP P))
theorem jnP_add (P : List ByteArray) (s : ByteArray) : jnP (P ++ [s]) = s.data.toList ++ jnP P := by
  unfold jnP
  rw [List.reverse_append]
  rfl
theorem join_none : ∀ l : List (List UInt8), Lib.join l [] = l.flatten
  | [] => rfl
  | x :: r => by
    rw [Lib.join_cons]
    unfold Lib.joinTail
    rw [show (fun y : List UInt8 => [] ++ y) = id from rfl, List.map_id]
    rfl
theorem jn_rev (P : List ByteArray) : jnB P.reverse (⟨#[]⟩ : ByteArray) = ⟨(jnP P).toArray⟩ := by
  unfold jnB jnP
  rw [show (⟨#[]⟩ : ByteArray).data.toList = [] from rfl, join_none]
theorem dec_words : ∀ (k N : Nat), (wd N).length ≤ k + 1 → (Lib.decDigits N).length ≤ 10 * (k + 1) := fun k N h => by
  have h1 := wd_lt_pw N
  have h2 : N < 4294967296 ^ (k + 1) := by
    have h3 := pw_mono h
    have h4 : pw (k + 1) = ((4294967296 ^ (k + 1) : Nat) : Int) := by unfold pw; rw [Int.natCast_pow]; rfl
    omega
  have h5 : 4294967296 ^ (k + 1) ≤ (10 ^ 10) ^ (k + 1) := Nat.pow_le_pow_left (by decide) _
  rw [← Nat.pow_mul] at h5
  exact dec_len (10 * (k + 1) - 1) N (by rw [show 10 * (k + 1) - 1 + 1 = 10 * (k + 1) by omega]; omega)
theorem priI_start {N : Nat} (h : N ≠ 0) : priI N N [] := ⟨Nat.le_refl _, .inl ⟨h, rfl, (List.append_nil _).symm⟩⟩
theorem rep_48 : ∀ k, Lib.repeatL [48] k = List.replicate k 48
  | 0 => rfl
  | k + 1 => by
    rw [Lib.repeatL, rep_48 k]
    rfl
theorem ba_app (a b : ByteArray) : (a ++ b).data.toList = a.data.toList ++ b.data.toList := by
  rw [ByteArray.data_append, Array.toList_append]
theorem dcB_list (n : Nat) : (dcB n).data.toList = Lib.decDigits n := rfl
theorem pad_piece (r : Nat) : (rpB (⟨#[48]⟩ : ByteArray) (9 - (dcB r).size) ++ dcB r).data.toList = pad9 r := by
  rw [ba_app, dcB_list]
  unfold pad9
  rw [dcB_size]
  congr 1
  exact rep_48 _
theorem dc_9 {r : Nat} (h : r < 1000000000) : 1 ≤ (dcB r).size ∧ (dcB r).size ≤ 9 := by
  rw [dcB_size]
  exact ⟨dec_pos r, dec_len 8 r (by simpa using h)⟩
theorem lenW_pos {n : Nat} (h : decide (lenM 0 (Ty.it IntKind.u32) (wd n) > (0 : Int)) = true) : n ≠ 0 := fun e => by
  have h := of_decide_eq_true h
  rw [e, wd_zero] at h
  exact absurd h (by decide)
theorem lenW_zero {n : Nat} (h : decide (lenM 0 (Ty.it IntKind.u32) (wd n) > (0 : Int)) = false) : n = 0 := by
  have h := of_decide_eq_false h
  have h : ¬ ((wd n).length : Int) > 0 := h
  exact wd_len_zero.1 (by omega)
theorem small_f (m : Nat) : smallF_.f (wd m) [1000000000] = (wd (m / 1000000000), ((m % 1000000000 : Nat) : Int)) := by
  show (wd (toN (wd m) / 1000000000), ((toN (wd m) % 1000000000 : Nat) : Int)) = _
  rw [toN_wd]
theorem wrapU {n : Nat} (h : n < 18446744073709551616) : IntKind.u64.wrap (n : Int) = n := by
  rw [IntKind.wrap_u64]
  omega
theorem sub9 {s : Nat} (h : 1 ≤ s ∧ s ≤ 9) : ((-9223372036854775808 : Int) ≤ 9 - (s : Int) ∧ 9 - (s : Int) ≤ 9223372036854775807) ∧ ((0 : Int) ≤ 9 - (s : Int) ∧ 9 - (s : Int) ≤ 1000 ∧ 1 ≤ 1000) ∧ (9 - (s : Int)).toNat = 9 - s := by omega
noncomputable def sp_aPrintG : Spec := { q := .un, ps := [tW32], rs := [.st, .it .i64], fresh := true, pre := fun _ x => some (nrm x.1 ∧ x.1.length ≤ 2048), post := fun _ x => ((), (dcB (toN x.1), 0, ())) }
noncomputable def iv_aPrintG (y : El sp_aPrintG.q) (x : Els sp_aPrintG.ps) : Nat → Option Inv := fun k => if k = 0 then some { X := Nat × List ByteArray, tm := fun _ => [(5, .c (.ow 1)), (6, .c (.ow 2))], ob := fun s => [(1, .ty 9 .st s.2 0), (2, .ty 46 (.it .u32) (wd s.1) 0)], n := 3, I := fun s => priI (toN x.1) s.1 s.2, μ := fun s => s.1 } else none
noncomputable abbrev c_aPrintG : Cfg := { cfgS (Tryz.f150).ntmps false [(86, sp_aCheck.prim), (139, sp_clone.prim), (177, p_row smallF_), (186, sp_fmtU.prim), (187, sp_sRep.prim), (188, p_rev), (117, sp_sJoin.prim)] with ty := tysT }
def F_aPrintG (y : El sp_aPrintG.q) (x : Els sp_aPrintG.ps) : Prop :=
  (x.1 = wd (toN x.1) ∧ List.length x.1 ≤ (2048 : Nat)) ∧ ∀ (r : Ro [Ty.it IntKind.i64]), r = ((), (0 : El (Ty.it IntKind.i64)), ()) → ((r.2.1 != (0 : Int)) = true → ((⟨#[]⟩ : ByteArray), r.2) = (dcB (toN x.1), (0 : El (Ty.it IntKind.i64)), ())) ∧ ((r.2.1 != (0 : Int)) = false → (((x.1.length : Int) == (0 : Int)) = true → ((⟨#[(48 : UInt8)]⟩ : ByteArray), (0 : Int), ()) = (dcB (toN x.1), (0 : El (Ty.it IntKind.i64)), ())) ∧ (((x.1.length : Int) == (0 : Int)) = false → List.length x.1 ≤ (35184372088832 : Nat) ∧ ∀ (r : Ro [tW32]), r = ((), x) → (∃ (x_1 : Nat × List ByteArray), x_1.2 = [] ∧ wd x_1.1 = r.2.1 ∧ x_1.1 ≤ toN x.1 ∧ (x_1.1 ≠ (0 : Nat) ∧ (jnP x_1.2).length = (9 : Nat) * x_1.2.length ∧ Lib.decDigits (toN x.1) = Lib.decDigits x_1.1 ++ jnP x_1.2 ∨ x_1.1 = (0 : Nat) ∧ x_1.2 ≠ [] ∧ x_1.2.length ≤ (3000 : Nat) ∧ Lib.decDigits (toN x.1) = jnP x_1.2)) ∧ ∀ (x_1 : Nat × List ByteArray), x_1.1 ≤ toN x.1 ∧ (x_1.1 ≠ (0 : Nat) ∧ (jnP x_1.2).length = (9 : Nat) * x_1.2.length ∧ Lib.decDigits (toN x.1) = Lib.decDigits x_1.1 ++ jnP x_1.2 ∨ x_1.1 = (0 : Nat) ∧ x_1.2 ≠ [] ∧ x_1.2.length ≤ (3000 : Nat) ∧ Lib.decDigits (toN x.1) = jnP x_1.2) → (decide (lenM (0 : Nat) (Ty.it IntKind.u32) (wd x_1.1) > (0 : Int)) = true → (wd x_1.1 = wd (toN (wd x_1.1)) ∧ (wd x_1.1).length ≤ (8192 : Nat) ∧ [(1000000000 : Int)] = [(1000000000 : Int)]) ∧ ∀ (r : List Int × Int), r = smallF_.f (wd x_1.1) [(1000000000 : Int)] → (10 : Int) = (10 : Int) ∧ ∀ (r_1 : Ro [Ty.st]), r_1 = ((), dcB (IntKind.u64.wrap r.2).toNat, ()) → (decide (lenM (0 : Nat) (Ty.it IntKind.u32) r.1 > (0 : Int)) = true → ((-9223372036854775808 : Int) ≤ (9 : Int) - (↑(ByteArray.size r_1.2.1) : Int) ∧ (9 : Int) - (↑(ByteArray.size r_1.2.1) : Int) ≤ (9223372036854775807 : Int)) ∧ ((0 : Int) ≤ (9 : Int) - (↑(ByteArray.size r_1.2.1) : Int) ∧ (9 : Int) - (↑(ByteArray.size r_1.2.1) : Int) ≤ (1000 : Int) ∧ (⟨#[(48 : UInt8)]⟩ : ByteArray).size ≤ (1000 : Nat)) ∧ ∀ (r_2 : Ro [Ty.st]), r_2 = ((), rpB (⟨#[(48 : UInt8)]⟩ : ByteArray) ((9 : Int) - (↑(ByteArray.size r_1.2.1) : Int)).toNat, ()) → ByteArray.size r_2.2.1 + ByteArray.size r_1.2.1 ≤ (9223372036854775807 : Nat) ∧ x_1.2.length + [r_2.2.1 ++ r_1.2.1].length ≤ (1073741824 : Nat) ∧ ∃ (x' : Nat × List ByteArray), x'.2 = x_1.2 ++ [r_2.2.1 ++ r_1.2.1] ∧ wd x'.1 = r.1 ∧ (x'.1 ≤ toN x.1 ∧ (x'.1 ≠ (0 : Nat) ∧ (jnP x'.2).length = (9 : Nat) * x'.2.length ∧ Lib.decDigits (toN x.1) = Lib.decDigits x'.1 ++ jnP x'.2 ∨ x'.1 = (0 : Nat) ∧ x'.2 ≠ [] ∧ x'.2.length ≤ (3000 : Nat) ∧ Lib.decDigits (toN x.1) = jnP x'.2)) ∧ x'.1 < x_1.1) ∧ (decide (lenM (0 : Nat) (Ty.it IntKind.u32) r.1 > (0 : Int)) = false → x_1.2.length + [r_1.2.1].length ≤ (1073741824 : Nat) ∧ ∃ (x' : Nat × List ByteArray), x'.2 = x_1.2 ++ [r_1.2.1] ∧ wd x'.1 = r.1 ∧ (x'.1 ≤ toN x.1 ∧ (x'.1 ≠ (0 : Nat) ∧ (jnP x'.2).length = (9 : Nat) * x'.2.length ∧ Lib.decDigits (toN x.1) = Lib.decDigits x'.1 ++ jnP x'.2 ∨ x'.1 = (0 : Nat) ∧ x'.2 ≠ [] ∧ x'.2.length ≤ (3000 : Nat) ∧ Lib.decDigits (toN x.1) = jnP x'.2)) ∧ x'.1 < x_1.1)) ∧ (decide (lenM (0 : Nat) (Ty.it IntKind.u32) (wd x_1.1) > (0 : Int)) = false → x_1.2 ≠ [] ∧ (x_1.2.reverse.length ≤ (140737488355328 : Nat) ∧ (jnB x_1.2.reverse (⟨#[]⟩ : ByteArray)).size ≤ (140737488355328 : Nat)) ∧ ∀ (r : Ro [Ty.st]), r = ((), jnB x_1.2.reverse (⟨#[]⟩ : ByteArray), ()) → (r.2.1, (0 : Int), ()) = (dcB (toN x.1), (0 : El (Ty.it IntKind.i64)), ()))))
theorem w_aPrintG (y : El sp_aPrintG.q) (x : Els sp_aPrintG.ps) : aW c_aPrintG (iv_aPrintG y x) Tryz.f150 sp_aPrintG y x = F_aPrintG y x := by kernel_rfl
theorem m_aPrintG (y : El (.un)) (x : Els [tW32]) (h2 : wfE (.un) y) (h3 : wfEs [tW32] x) (h4 : nrm x.1 ∧ x.1.length ≤ 2048) : F_aPrintG y x := by
  unfold F_aPrintG
  obtain ⟨n0, n1⟩ : nrm x.1 ∧ x.1.length ≤ 2048 := h4
  obtain ⟨N, hN⟩ : ∃ N, N = toN x.1 := ⟨_, rfl⟩
  have hw : x.1 = wd N := by rw [hN]; exact n0
  have hd : (Lib.decDigits N).length ≤ 20480 := dec_words 2047 N (by rw [← hw]; exact n1)
  rw [← hN]
  refine ⟨⟨hw, n1⟩, ?_⟩
  rintro _ rfl
  refine ⟨fun h => Bool.noConfusion (show false = true from h), fun _ => ⟨fun h => ?_, fun h => ⟨Nat.le_trans n1 (by decide), ?_⟩⟩⟩
  · have h : ((x.1.length : Nat) : Int) = 0 := eqT h
    rw [hw] at h
    have h0 : N = 0 := wd_len_zero.1 (by omega)
    rw [h0]
    refine congrArg (fun b => (b, (0 : Int), ())) ?_
    unfold dcB
    rw [dec_small (by decide)]
    rfl
  rintro _ rfl
  have hn0 : N ≠ 0 := fun e => by
    have h : ((x.1.length : Nat) : Int) ≠ 0 := eqF h
    rw [hw, e, wd_zero] at h
    exact h rfl
  refine ⟨⟨(N, []), rfl, hw.symm, priI_start hn0⟩, ?_⟩
  rintro ⟨m, P⟩ ⟨hm, hI⟩
  dsimp only at hm hI ⊢
  have hP : 9 * P.length ≤ 20480 ∨ P.length ≤ 3000 := by
    rcases hI with ⟨_, h1, h2⟩ | ⟨_, _, h1, _⟩
    · have := congrArg List.length h2
      rw [List.length_append, h1] at this
      omega
    · exact .inr h1
  refine ⟨fun hp => ?_, fun hp => ?_⟩
  · have m0 := lenW_pos hp
    obtain ⟨_, i1, i2⟩ : m ≠ 0 ∧ (jnP P).length = 9 * P.length ∧ Lib.decDigits N = Lib.decDigits m ++ jnP P := by
      rcases hI with h | ⟨h, _⟩
      · exact h
      · exact absurd h m0
    have wl : (wd m).length ≤ 8192 := by
      have := wd_len_mono hm
      rw [← hw] at this
      omega
    have rl := Nat.mod_lt m (show 1000000000 > 0 by decide)
    have em := Nat.div_add_mod m 1000000000
    refine ⟨⟨nrm_wd m, wl, rfl⟩, ?_⟩
    intro r hr
    obtain rfl := hr.trans (small_f m)
    refine ⟨rfl, ?_⟩
    intro r hr
    dsimp only at hr
    rw [wrapU (by omega), Int.toNat_natCast] at hr
    subst hr
    obtain ⟨s1, s2, s3⟩ := sub9 (dc_9 rl)
    refine ⟨fun hq => ⟨s1, s2, ?_⟩, fun hq => ⟨?_, ?_⟩⟩
    · have q0 := lenW_pos hq
      intro r hr
      dsimp only at hr
      rw [s3] at hr
      subst hr
      have hs := congrArg List.length (pad_piece (m % 1000000000))
      rw [pad9_len rl] at hs
      refine ⟨?_, ?_, (m / 1000000000, P ++ [rpB (⟨#[48]⟩ : ByteArray) (9 - (dcB (m % 1000000000)).size) ++ dcB (m % 1000000000)]), rfl, rfl, ⟨by dsimp only; omega, .inl ⟨q0, ?_, ?_⟩⟩, by dsimp only; omega⟩
      · have e : (rpB (⟨#[48]⟩ : ByteArray) (9 - (dcB (m % 1000000000)).size)).size + (dcB (m % 1000000000)).size = 9 := by
          rw [← ByteArray.size_append]
          exact hs
        exact Nat.le_trans (Nat.le_of_eq e) (by decide)
      · show P.length + 1 ≤ 1073741824
        omega
      · rw [jnP_add, List.length_append, hs, i1, List.length_append, List.length_singleton]
        omega
      · rw [jnP_add, pad_piece, ← List.append_assoc, ← dec_split q0 rl, show m / 1000000000 * 1000000000 + m % 1000000000 = m by omega]
        exact i2
    · show P.length + 1 ≤ 1073741824
      omega
    · have q0 := lenW_zero hq
      have e0 : m % 1000000000 = m := by omega
      refine ⟨(0, P ++ [dcB (m % 1000000000)]), rfl, by dsimp only; rw [q0], ⟨Nat.zero_le _, .inr ⟨rfl, by simp, ?_, ?_⟩⟩, Nat.pos_of_ne_zero m0⟩
      · rw [List.length_append, List.length_singleton]
        have := congrArg List.length i2
        have := dec_pos m
        rw [List.length_append, i1] at *
        omega
      · rw [jnP_add, e0]
        exact i2
  · have m0 := lenW_zero hp
    obtain ⟨_, i0, i1, i2⟩ : m = 0 ∧ P ≠ [] ∧ P.length ≤ 3000 ∧ Lib.decDigits N = jnP P := by
      rcases hI with ⟨h, _⟩ | h
      · exact absurd m0 h
      · exact h
    refine ⟨i0, ⟨?_, ?_⟩, ?_⟩
    · rw [List.length_reverse]
      omega
    · rw [jn_rev, ← i2]
      show (Lib.decDigits N).toArray.size ≤ _
      rw [List.size_toArray]
      omega
    · rintro _ rfl
      rw [jn_rev, ← i2]
      rfl
theorem fo_aPrintG : FnOk Tryz.prog 150 sp_aPrintG := fnOk_of (C := c_aPrintG) iv_aPrintG Tryz.func150 rfl (by kernel_rfl) tysT_ok (prims_cons (spec_prim fo_aCheck) (prims_cons (spec_prim fo_clone) (prims_cons (row_prim row_small) (prims_cons (spec_prim fo_fmtU) (prims_cons (spec_prim fo_sRep) (prims_cons (rev_prim rev_ok) (prims_cons (spec_prim fo_sJoin) prims_nil))))))) mixed_ (Nat.le_refl _) rfl fun y x h1 h2 h3 h4 =>
  Eq.mpr (w_aPrintG y x) (m_aPrintG y x h2 h3 h4)
def parN (s : ByteArray) : El tW32 × Int × Unit := if 65536 < s.size then ([], 3, ()) else if canD s.data.toList = true then (wd (decV s.data.toList), 0, ()) else ([], 110, ())
theorem ba_len (s : ByteArray) : s.data.toList.length = s.size := by simp
theorem ex_list (s : ByteArray) (a b : Nat) : (s.extract a b).data.toList = (s.data.toList.drop a).take (b - a) := Lib.extract_data s a b
theorem ex_size (s : ByteArray) (k : Nat) : (s.extract k s.size).size = s.size - k := by
  rw [← ba_len, ex_list, List.length_take, List.length_drop, ba_len]
  omega
theorem ex_rest (s : ByteArray) (k : Nat) : (s.extract k s.size).data.toList = s.data.toList.drop k := by
  rw [ex_list]
  exact List.take_of_length_le (by rw [List.length_drop, ba_len]; exact Nat.le_refl _)
theorem ex_piece (s : ByteArray) (k c : Nat) : ((s.extract k s.size).extract 0 c).data.toList = (s.data.toList.drop k).take c := by
  rw [ex_list, ex_rest, List.drop_zero, Nat.sub_zero]
theorem ex_next (s : ByteArray) (k c : Nat) (h : k + c ≤ s.size) : s.extract (k + c) s.size = (s.extract k s.size).extract c (s.extract k s.size).size := by
  refine Go.WideShapes.bytes_inj ?_
  rw [ex_rest, ex_list, ex_rest, List.drop_drop]
  exact (List.take_of_length_le (by rw [List.length_drop, ba_len, ex_size]; omega)).symm
theorem ex_0 (s : ByteArray) : s.extract 0 s.size = s := ByteArray.extract_zero_size
theorem tl_e {s : ByteArray} (h : (s.toList == ByteArray.toList (⟨#[]⟩ : ByteArray)) = true) : s.size = 0 := by
  rw [ba_0] at h
  exact of_decide_eq_true h
theorem tl_n {s : ByteArray} (h : (s.toList == ByteArray.toList (⟨#[]⟩ : ByteArray)) = false) : s.size ≠ 0 := by
  rw [ba_0] at h
  exact of_decide_eq_false h
theorem ba_cons {s : ByteArray} (h : s.size ≠ 0) : ∃ m, s.data.toList = s.get! 0 :: m := by
  obtain ⟨⟨l⟩⟩ := s
  match l, h with
  | [], h => exact absurd rfl h
  | c :: m, _ => exact ⟨m, rfl⟩
theorem trB_0 {s : ByteArray} : (trB s).size = 0 ↔ s.data.toList.all isD = true := by
  have e : (trB s).size = (Lib.trimS s.data.toList digs10).length := by
    show (Lib.trimS s.data.toList digs10).toArray.size = _
    rw [List.size_toArray]
  rw [e, List.length_eq_zero_iff, trim_digs]
theorem par_long {s : ByteArray} (h : 65536 < s.size) : parN s = ([], 3, ()) := if_pos h
theorem par_bad {s : ByteArray} (h : s.size ≤ 3000) (k : ¬ canD s.data.toList = true) : parN s = ([], 110, ()) := (if_neg (by omega)).trans (if_neg k)
theorem par_ok {s : ByteArray} (h : s.size ≤ 3000) (k : canD s.data.toList = true) : parN s = (wd (decV s.data.toList), 0, ()) := (if_neg (by omega)).trans (if_pos k)
theorem can_0 {s : ByteArray} (h : s.size = 0) : ¬ canD s.data.toList = true := fun k => by
  obtain ⟨c, m, e, _⟩ := canD_cons k
  have := ba_len s
  rw [e, h] at this
  cases this
theorem can_all {s : ByteArray} (k : canD s.data.toList = true) : s.data.toList.all isD = true := by
  obtain ⟨c, m, e, h, _⟩ := canD_cons k
  exact h
theorem can_first {s : ByteArray} (k : canD s.data.toList = true) : s.size = 1 ∨ (s.get! 0).toNat ≠ 48 := by
  obtain ⟨c, m, e, _, h⟩ := canD_cons k
  have hl := ba_len s
  obtain ⟨m', e'⟩ := ba_cons (s := s) (by rw [← hl, e]; simp)
  rw [e] at e'
  injection e' with e1 e2
  rcases h with h | h
  · left
    rw [← hl, e, h]
    rfl
  · right
    rw [← e1]
    exact h
theorem can_of {s : ByteArray} (h0 : s.size ≠ 0) (h : s.data.toList.all isD = true) (k : s.size ≤ 1 ∨ (s.get! 0).toNat ≠ 48) : canD s.data.toList = true := by
  obtain ⟨m, e⟩ := ba_cons h0
  have hl := ba_len s
  rw [e] at h hl ⊢
  refine canD_of h (k.imp (fun k => ?_) id)
  rw [List.length_cons] at hl
  exact List.eq_nil_of_length_eq_zero (by omega)
theorem dec_wds {l : List UInt8} {k : Nat} (h : l.all isD = true) (hl : l.length ≤ k) : (wd (decV l)).length ≤ k := by
  refine wd_len_le _ k ?_
  have h1 := decV_lt h
  have h2 : 10 ^ l.length ≤ 10 ^ k := Nat.pow_le_pow_right (by decide) hl
  have h3 : 10 ^ k ≤ 4294967296 ^ k := Nat.pow_le_pow_left (by decide) k
  have h4 : pw k = ((4294967296 ^ k : Nat) : Int) := by unfold pw; rw [Int.natCast_pow]; rfl
  omega
theorem grow_f (v u : Nat) : growF_.f (wd v) [1000000000, (u : Int)] = (wd (v * 1000000000 + u), 0) := by
  show (wd (toN (wd v) * 1000000000 + ([1000000000, (u : Int)].getD 1 0).toNat), (0 : Int)) = _
  rw [toN_wd]
  rfl
theorem wrap32 {n : Nat} (h : n < 4294967296) : IntKind.u32.wrap (n : Int) = n := by
  rw [IntKind.wrap_u32]
  omega
structure ParR (s : ByteArray) (k c : Nat) : Prop where
  le : c ≤ (s.extract k s.size).size
  pos : 0 < c
  nine : c ≤ 9
  all : ((s.extract k s.size).extract 0 c).data.toList.all isD = true
  sz : ((s.extract k s.size).extract 0 c).size = c
  lt : decV ((s.extract k s.size).extract 0 c).data.toList < 4294967296
  val : decV (s.data.toList.take (k + c)) = decV (s.data.toList.take k) * 1000000000 + decV ((s.extract k s.size).extract 0 c).data.toList
  nx : s.extract (k + c) s.size = (s.extract k s.size).extract c (s.extract k s.size).size
  rest : (s.size - (k + c)) % 9 = 0
  bd : k + c ≤ s.size
  wl : (wd (decV (s.data.toList.take k))).length ≤ 8192
theorem par_round {s : ByteArray} {k c : Nat} (hs : s.size ≤ 3000) (ha : s.data.toList.all isD = true) (hk : k ≤ s.size) (hc : 0 < c) (h9 : c ≤ 9) (hb : k + c ≤ s.size) (hr : (s.size - (k + c)) % 9 = 0) (hv : c = 9 ∨ k = 0) : ParR s k c := by
  have hl := ba_len s
  have ha' := List.all_eq_true.1 ha
  have hall : ((s.data.toList.drop k).take c).all isD = true := List.all_eq_true.2 fun x hx => ha' x (List.mem_of_mem_drop (List.mem_of_mem_take hx))
  have htk : (s.data.toList.take k).all isD = true := List.all_eq_true.2 fun x hx => ha' x (List.mem_of_mem_take hx)
  have hlen : ((s.data.toList.drop k).take c).length = c := by rw [List.length_take, List.length_drop]; omega
  have hlt := decV_lt hall
  have h10 : 10 ^ ((s.data.toList.drop k).take c).length ≤ 10 ^ 9 := Nat.pow_le_pow_right (by decide) (by omega)
  refine ⟨by rw [ex_size]; omega, hc, h9, by rw [ex_piece]; exact hall, by rw [← ba_len, ex_piece]; exact hlen, by rw [ex_piece]; omega, ?_, ex_next s k c hb, hr, hb, ?_⟩
  · rw [ex_piece, List.take_add, decV_append, hlen]
    rcases hv with rfl | rfl
    · rfl
    · rw [List.take_zero, decV_nil, Nat.zero_mul, Nat.zero_mul]
  · exact Nat.le_trans (dec_wds htk (k := 3000) (by rw [List.length_take]; omega)) (by decide)
noncomputable def sp_aParseG : Spec := { q := .un, ps := [.st], rs := [tW32, .it .i64], fresh := true, pre := fun _ x => some (ByteArray.size x.1 ≤ 3000 ∨ 65536 < ByteArray.size x.1), post := fun _ x => ((), parN x.1) }
noncomputable def iv_aParseG (y : El sp_aParseG.q) (x : Els sp_aParseG.ps) : Nat → Option Inv := fun k => if k = 0 then some { X := Nat, tm := fun i => [(0, .c (.sc (.string (x.1.extract i x.1.size)))), (4, .c (.ow 1))], ob := fun i => [(1, .ty 46 (.it .u32) (wd (decV (x.1.data.toList.take i))) 0)], n := 2, I := fun i => i ≤ x.1.size ∧ x.1.size ≤ 3000 ∧ x.1.data.toList.all isD = true ∧ (i = 0 ∨ (x.1.size - i) % 9 = 0), μ := fun i => x.1.size - i } else none
noncomputable abbrev c_aParseG : Cfg := cfgS (Tryz.f133).ntmps false [(173, sp_sTrim.prim), (174, p_pu), (175, p_row growF_), (143, p_row toldF_)]
def F_aParseG (y : El sp_aParseG.q) (x : Els sp_aParseG.ps) : Prop :=
  (decide ((↑(ByteArray.size x.1) : Int) > (65536 : Int)) = true → ([], (3 : Int), ()) = parN x.1) ∧ (decide ((↑(ByteArray.size x.1) : Int) > (65536 : Int)) = false → ((ByteArray.toList x.1 == (ByteArray.toList (⟨#[]⟩ : ByteArray))) = true → ([], (110 : Int), ()) = parN x.1) ∧ ((ByteArray.toList x.1 == (ByteArray.toList (⟨#[]⟩ : ByteArray))) = false → (⟨#[(48 : UInt8), (49 : UInt8), (50 : UInt8), (51 : UInt8), (52 : UInt8), (53 : UInt8), (54 : UInt8), (55 : UInt8), (56 : UInt8), (57 : UInt8)]⟩ : ByteArray) = dig10 ∧ ∀ (r : Ro [Ty.st]), r = ((), trB x.1, ()) → ((!ByteArray.toList r.2.1 == (ByteArray.toList (⟨#[]⟩ : ByteArray))) = true → ([], (110 : Int), ()) = parN x.1) ∧ ((!ByteArray.toList r.2.1 == (ByteArray.toList (⟨#[]⟩ : ByteArray))) = false → ((0 : Int) ≤ (0 : Int) ∧ (0 : Int) < (↑(ByteArray.size x.1) : Int)) ∧ (((↑(ByteArray.get! x.1 (0 : Nat)).toNat : Int) == (48 : Int)) = true → (decide ((↑(ByteArray.size x.1) : Int) > (1 : Int)) = true → ([], (110 : Int), ()) = parN x.1) ∧ (decide ((↑(ByteArray.size x.1) : Int) > (1 : Int)) = false → (∃ (x_1 : Nat), ByteArray.extract x.1 x_1 (ByteArray.size x.1) = x.1 ∧ wd (decV (List.take x_1 x.1.data.toList)) = [] ∧ x_1 ≤ ByteArray.size x.1 ∧ ByteArray.size x.1 ≤ (3000 : Nat) ∧ x.1.data.toList.all isD = true ∧ (x_1 = (0 : Nat) ∨ (ByteArray.size x.1 - x_1) % (9 : Nat) = (0 : Nat))) ∧ ∀ (x_1 : Nat), x_1 ≤ ByteArray.size x.1 ∧ ByteArray.size x.1 ≤ (3000 : Nat) ∧ x.1.data.toList.all isD = true ∧ (x_1 = (0 : Nat) ∨ (ByteArray.size x.1 - x_1) % (9 : Nat) = (0 : Nat)) → ((!(ByteArray.extract x.1 x_1 (ByteArray.size x.1)).toList == (ByteArray.toList (⟨#[]⟩ : ByteArray))) = true → (9 : Int) ≠ (0 : Int) ∧ ((((((ByteArray.extract x.1 x_1 (ByteArray.size x.1)).size % 9 : Nat)) : Int) == (0 : Int)) = true → ((0 : Int) ≤ (0 : Int) ∧ (0 : Int) ≤ (9 : Int) ∧ (9 : Int) ≤ (↑(ByteArray.extract x.1 x_1 (ByteArray.size x.1)).size : Int)) ∧ (((ByteArray.extract x.1 x_1 (ByteArray.size x.1)).extract (0 : Nat) (9 : Nat)).data.toList.all isD = true ∧ (0 : Nat) < ((ByteArray.extract x.1 x_1 (ByteArray.size x.1)).extract (0 : Nat) (9 : Nat)).size ∧ ((ByteArray.extract x.1 x_1 (ByteArray.size x.1)).extract (0 : Nat) (9 : Nat)).size ≤ (9 : Nat) ∧ (10 : Int) = (10 : Int) ∧ (32 : Int) = (32 : Int)) ∧ ∀ (r : Nat), r = decV ((ByteArray.extract x.1 x_1 (ByteArray.size x.1)).extract (0 : Nat) (9 : Nat)).data.toList → (wd (decV (List.take x_1 x.1.data.toList)) = wd (toN (wd (decV (List.take x_1 x.1.data.toList)))) ∧ (wd (decV (List.take x_1 x.1.data.toList))).length ≤ (8192 : Nat) ∧ ∃ (x : Int), [(1000000000 : Int), IntKind.u32.wrap (↑r : Int)] = [(1000000000 : Int), x] ∧ (0 : Int) ≤ x ∧ x < (4294967296 : Int)) ∧ ∀ (r_1 : List Int × Int), r_1 = growF_.f (wd (decV (List.take x_1 x.1.data.toList))) [(1000000000 : Int), IntKind.u32.wrap (↑r : Int)] → ((0 : Int) ≤ (9 : Int) ∧ (9 : Int) ≤ (↑(ByteArray.extract x.1 x_1 (ByteArray.size x.1)).size : Int) ∧ (↑(ByteArray.extract x.1 x_1 (ByteArray.size x.1)).size : Int) ≤ (↑(ByteArray.extract x.1 x_1 (ByteArray.size x.1)).size : Int)) ∧ ∃ (x' : Nat), ByteArray.extract x.1 x' (ByteArray.size x.1) = (ByteArray.extract x.1 x_1 (ByteArray.size x.1)).extract (9 : Nat) (ByteArray.extract x.1 x_1 (ByteArray.size x.1)).size ∧ wd (decV (List.take x' x.1.data.toList)) = r_1.1 ∧ (x' ≤ ByteArray.size x.1 ∧ ByteArray.size x.1 ≤ (3000 : Nat) ∧ x.1.data.toList.all isD = true ∧ (x' = (0 : Nat) ∨ (ByteArray.size x.1 - x') % (9 : Nat) = (0 : Nat))) ∧ ByteArray.size x.1 - x' < ByteArray.size x.1 - x_1) ∧ ((((((ByteArray.extract x.1 x_1 (ByteArray.size x.1)).size % 9 : Nat)) : Int) == (0 : Int)) = false → ((0 : Int) ≤ (0 : Int) ∧ (0 : Int) ≤ ((((ByteArray.extract x.1 x_1 (ByteArray.size x.1)).size % 9 : Nat)) : Int) ∧ ((((ByteArray.extract x.1 x_1 (ByteArray.size x.1)).size % 9 : Nat)) : Int) ≤ (↑(ByteArray.extract x.1 x_1 (ByteArray.size x.1)).size : Int)) ∧ (((ByteArray.extract x.1 x_1 (ByteArray.size x.1)).extract (0 : Nat) ((ByteArray.extract x.1 x_1 (ByteArray.size x.1)).size % 9)).data.toList.all isD = true ∧ (0 : Nat) < ((ByteArray.extract x.1 x_1 (ByteArray.size x.1)).extract (0 : Nat) ((ByteArray.extract x.1 x_1 (ByteArray.size x.1)).size % 9)).size ∧ ((ByteArray.extract x.1 x_1 (ByteArray.size x.1)).extract (0 : Nat) ((ByteArray.extract x.1 x_1 (ByteArray.size x.1)).size % 9)).size ≤ (9 : Nat) ∧ (10 : Int) = (10 : Int) ∧ (32 : Int) = (32 : Int)) ∧ ∀ (r : Nat), r = decV ((ByteArray.extract x.1 x_1 (ByteArray.size x.1)).extract (0 : Nat) ((ByteArray.extract x.1 x_1 (ByteArray.size x.1)).size % 9)).data.toList → (wd (decV (List.take x_1 x.1.data.toList)) = wd (toN (wd (decV (List.take x_1 x.1.data.toList)))) ∧ (wd (decV (List.take x_1 x.1.data.toList))).length ≤ (8192 : Nat) ∧ ∃ (x : Int), [(1000000000 : Int), IntKind.u32.wrap (↑r : Int)] = [(1000000000 : Int), x] ∧ (0 : Int) ≤ x ∧ x < (4294967296 : Int)) ∧ ∀ (r_1 : List Int × Int), r_1 = growF_.f (wd (decV (List.take x_1 x.1.data.toList))) [(1000000000 : Int), IntKind.u32.wrap (↑r : Int)] → ((0 : Int) ≤ ((((ByteArray.extract x.1 x_1 (ByteArray.size x.1)).size % 9 : Nat)) : Int) ∧ ((((ByteArray.extract x.1 x_1 (ByteArray.size x.1)).size % 9 : Nat)) : Int) ≤ (↑(ByteArray.extract x.1 x_1 (ByteArray.size x.1)).size : Int) ∧ (↑(ByteArray.extract x.1 x_1 (ByteArray.size x.1)).size : Int) ≤ (↑(ByteArray.extract x.1 x_1 (ByteArray.size x.1)).size : Int)) ∧ ∃ (x' : Nat), ByteArray.extract x.1 x' (ByteArray.size x.1) = (ByteArray.extract x.1 x_1 (ByteArray.size x.1)).extract ((ByteArray.extract x.1 x_1 (ByteArray.size x.1)).size % 9) (ByteArray.extract x.1 x_1 (ByteArray.size x.1)).size ∧ wd (decV (List.take x' x.1.data.toList)) = r_1.1 ∧ (x' ≤ ByteArray.size x.1 ∧ ByteArray.size x.1 ≤ (3000 : Nat) ∧ x.1.data.toList.all isD = true ∧ (x' = (0 : Nat) ∨ (ByteArray.size x.1 - x') % (9 : Nat) = (0 : Nat))) ∧ ByteArray.size x.1 - x' < ByteArray.size x.1 - x_1)) ∧ ((!(ByteArray.extract x.1 x_1 (ByteArray.size x.1)).toList == (ByteArray.toList (⟨#[]⟩ : ByteArray))) = false → (wd (decV (List.take x_1 x.1.data.toList)) = wd (toN (wd (decV (List.take x_1 x.1.data.toList)))) ∧ (wd (decV (List.take x_1 x.1.data.toList))).length ≤ (8192 : Nat)) ∧ ∀ (r : List Int × Int), r = toldF_.f (wd (decV (List.take x_1 x.1.data.toList))) [] → (r.1, r.2, ()) = parN x.1))) ∧ (((↑(ByteArray.get! x.1 (0 : Nat)).toNat : Int) == (48 : Int)) = false → (∃ (x_1 : Nat), ByteArray.extract x.1 x_1 (ByteArray.size x.1) = x.1 ∧ wd (decV (List.take x_1 x.1.data.toList)) = [] ∧ x_1 ≤ ByteArray.size x.1 ∧ ByteArray.size x.1 ≤ (3000 : Nat) ∧ x.1.data.toList.all isD = true ∧ (x_1 = (0 : Nat) ∨ (ByteArray.size x.1 - x_1) % (9 : Nat) = (0 : Nat))) ∧ ∀ (x_1 : Nat), x_1 ≤ ByteArray.size x.1 ∧ ByteArray.size x.1 ≤ (3000 : Nat) ∧ x.1.data.toList.all isD = true ∧ (x_1 = (0 : Nat) ∨ (ByteArray.size x.1 - x_1) % (9 : Nat) = (0 : Nat)) → ((!(ByteArray.extract x.1 x_1 (ByteArray.size x.1)).toList == (ByteArray.toList (⟨#[]⟩ : ByteArray))) = true → (9 : Int) ≠ (0 : Int) ∧ ((((((ByteArray.extract x.1 x_1 (ByteArray.size x.1)).size % 9 : Nat)) : Int) == (0 : Int)) = true → ((0 : Int) ≤ (0 : Int) ∧ (0 : Int) ≤ (9 : Int) ∧ (9 : Int) ≤ (↑(ByteArray.extract x.1 x_1 (ByteArray.size x.1)).size : Int)) ∧ (((ByteArray.extract x.1 x_1 (ByteArray.size x.1)).extract (0 : Nat) (9 : Nat)).data.toList.all isD = true ∧ (0 : Nat) < ((ByteArray.extract x.1 x_1 (ByteArray.size x.1)).extract (0 : Nat) (9 : Nat)).size ∧ ((ByteArray.extract x.1 x_1 (ByteArray.size x.1)).extract (0 : Nat) (9 : Nat)).size ≤ (9 : Nat) ∧ (10 : Int) = (10 : Int) ∧ (32 : Int) = (32 : Int)) ∧ ∀ (r : Nat), r = decV ((ByteArray.extract x.1 x_1 (ByteArray.size x.1)).extract (0 : Nat) (9 : Nat)).data.toList → (wd (decV (List.take x_1 x.1.data.toList)) = wd (toN (wd (decV (List.take x_1 x.1.data.toList)))) ∧ (wd (decV (List.take x_1 x.1.data.toList))).length ≤ (8192 : Nat) ∧ ∃ (x : Int), [(1000000000 : Int), IntKind.u32.wrap (↑r : Int)] = [(1000000000 : Int), x] ∧ (0 : Int) ≤ x ∧ x < (4294967296 : Int)) ∧ ∀ (r_1 : List Int × Int), r_1 = growF_.f (wd (decV (List.take x_1 x.1.data.toList))) [(1000000000 : Int), IntKind.u32.wrap (↑r : Int)] → ((0 : Int) ≤ (9 : Int) ∧ (9 : Int) ≤ (↑(ByteArray.extract x.1 x_1 (ByteArray.size x.1)).size : Int) ∧ (↑(ByteArray.extract x.1 x_1 (ByteArray.size x.1)).size : Int) ≤ (↑(ByteArray.extract x.1 x_1 (ByteArray.size x.1)).size : Int)) ∧ ∃ (x' : Nat), ByteArray.extract x.1 x' (ByteArray.size x.1) = (ByteArray.extract x.1 x_1 (ByteArray.size x.1)).extract (9 : Nat) (ByteArray.extract x.1 x_1 (ByteArray.size x.1)).size ∧ wd (decV (List.take x' x.1.data.toList)) = r_1.1 ∧ (x' ≤ ByteArray.size x.1 ∧ ByteArray.size x.1 ≤ (3000 : Nat) ∧ x.1.data.toList.all isD = true ∧ (x' = (0 : Nat) ∨ (ByteArray.size x.1 - x') % (9 : Nat) = (0 : Nat))) ∧ ByteArray.size x.1 - x' < ByteArray.size x.1 - x_1) ∧ ((((((ByteArray.extract x.1 x_1 (ByteArray.size x.1)).size % 9 : Nat)) : Int) == (0 : Int)) = false → ((0 : Int) ≤ (0 : Int) ∧ (0 : Int) ≤ ((((ByteArray.extract x.1 x_1 (ByteArray.size x.1)).size % 9 : Nat)) : Int) ∧ ((((ByteArray.extract x.1 x_1 (ByteArray.size x.1)).size % 9 : Nat)) : Int) ≤ (↑(ByteArray.extract x.1 x_1 (ByteArray.size x.1)).size : Int)) ∧ (((ByteArray.extract x.1 x_1 (ByteArray.size x.1)).extract (0 : Nat) ((ByteArray.extract x.1 x_1 (ByteArray.size x.1)).size % 9)).data.toList.all isD = true ∧ (0 : Nat) < ((ByteArray.extract x.1 x_1 (ByteArray.size x.1)).extract (0 : Nat) ((ByteArray.extract x.1 x_1 (ByteArray.size x.1)).size % 9)).size ∧ ((ByteArray.extract x.1 x_1 (ByteArray.size x.1)).extract (0 : Nat) ((ByteArray.extract x.1 x_1 (ByteArray.size x.1)).size % 9)).size ≤ (9 : Nat) ∧ (10 : Int) = (10 : Int) ∧ (32 : Int) = (32 : Int)) ∧ ∀ (r : Nat), r = decV ((ByteArray.extract x.1 x_1 (ByteArray.size x.1)).extract (0 : Nat) ((ByteArray.extract x.1 x_1 (ByteArray.size x.1)).size % 9)).data.toList → (wd (decV (List.take x_1 x.1.data.toList)) = wd (toN (wd (decV (List.take x_1 x.1.data.toList)))) ∧ (wd (decV (List.take x_1 x.1.data.toList))).length ≤ (8192 : Nat) ∧ ∃ (x : Int), [(1000000000 : Int), IntKind.u32.wrap (↑r : Int)] = [(1000000000 : Int), x] ∧ (0 : Int) ≤ x ∧ x < (4294967296 : Int)) ∧ ∀ (r_1 : List Int × Int), r_1 = growF_.f (wd (decV (List.take x_1 x.1.data.toList))) [(1000000000 : Int), IntKind.u32.wrap (↑r : Int)] → ((0 : Int) ≤ ((((ByteArray.extract x.1 x_1 (ByteArray.size x.1)).size % 9 : Nat)) : Int) ∧ ((((ByteArray.extract x.1 x_1 (ByteArray.size x.1)).size % 9 : Nat)) : Int) ≤ (↑(ByteArray.extract x.1 x_1 (ByteArray.size x.1)).size : Int) ∧ (↑(ByteArray.extract x.1 x_1 (ByteArray.size x.1)).size : Int) ≤ (↑(ByteArray.extract x.1 x_1 (ByteArray.size x.1)).size : Int)) ∧ ∃ (x' : Nat), ByteArray.extract x.1 x' (ByteArray.size x.1) = (ByteArray.extract x.1 x_1 (ByteArray.size x.1)).extract ((ByteArray.extract x.1 x_1 (ByteArray.size x.1)).size % 9) (ByteArray.extract x.1 x_1 (ByteArray.size x.1)).size ∧ wd (decV (List.take x' x.1.data.toList)) = r_1.1 ∧ (x' ≤ ByteArray.size x.1 ∧ ByteArray.size x.1 ≤ (3000 : Nat) ∧ x.1.data.toList.all isD = true ∧ (x' = (0 : Nat) ∨ (ByteArray.size x.1 - x') % (9 : Nat) = (0 : Nat))) ∧ ByteArray.size x.1 - x' < ByteArray.size x.1 - x_1)) ∧ ((!(ByteArray.extract x.1 x_1 (ByteArray.size x.1)).toList == (ByteArray.toList (⟨#[]⟩ : ByteArray))) = false → (wd (decV (List.take x_1 x.1.data.toList)) = wd (toN (wd (decV (List.take x_1 x.1.data.toList)))) ∧ (wd (decV (List.take x_1 x.1.data.toList))).length ≤ (8192 : Nat)) ∧ ∀ (r : List Int × Int), r = toldF_.f (wd (decV (List.take x_1 x.1.data.toList))) [] → (r.1, r.2, ()) = parN x.1)))))
theorem w_aParseG (y : El sp_aParseG.q) (x : Els sp_aParseG.ps) : aW c_aParseG (iv_aParseG y x) Tryz.f133 sp_aParseG y x = F_aParseG y x := by kernel_rfl
theorem m_aParseG (y : El (.un)) (x : Els [.st]) (h2 : wfE (.un) y) (h3 : wfEs [.st] x) (h4 : ByteArray.size x.1 ≤ 3000 ∨ 65536 < ByteArray.size x.1) : F_aParseG y x := by
  unfold F_aParseG
  have hsz : ByteArray.size x.1 ≤ 3000 ∨ 65536 < ByteArray.size x.1 := h4
  refine ⟨fun h => (par_long (Int.ofNat_lt.1 (gtT h))).symm, fun h => ?_⟩
  have h3k : ByteArray.size x.1 ≤ 3000 := hsz.resolve_right (fun c => absurd (Int.ofNat_lt.2 c) (Int.not_lt.2 (gtF h)))
  refine ⟨fun h => (par_bad h3k (can_0 (tl_e h))).symm, fun h => ⟨rfl, ?_⟩⟩
  have h0 := tl_n h
  rintro _ rfl
  refine ⟨fun h => (par_bad h3k (fun k => tl_n (ntt h) (trB_0.2 (can_all k)))).symm, fun h => ?_⟩
  have hall := trB_0.1 (tl_e (nff h))
  refine ⟨⟨Int.le_refl 0, Int.ofNat_lt.2 (Nat.pos_of_ne_zero h0)⟩, fun hq => ⟨fun h => ?_, fun h => ?_⟩, fun hq => ?_⟩
  · refine (par_bad h3k (fun k => ?_)).symm
    rcases can_first k with c | c
    · have hh : 1 < ByteArray.size x.1 := Int.ofNat_lt.1 (gtT h)
      exact absurd hh (by rw [c]; decide)
    · exact c (Int.ofNat_inj.1 (eqT hq))
  · have hcan : canD x.1.data.toList = true := can_of h0 hall (.inl (Int.ofNat_le.1 (gtF h)))
    refine ⟨⟨0, ex_0 x.1, by rw [List.take_zero, decV_nil, wd_zero], Nat.zero_le _, h3k, hall, .inl rfl⟩, ?_⟩
    rintro k ⟨hk, hs, ha, hm⟩
    have hes := ex_size x.1 k
    refine ⟨fun h => ?_, fun h => ?_⟩
    · have h := tl_n (ntt h)
      refine ⟨by decide, fun hz => ?_, fun hz => ?_⟩
      · have hz : (((x.1.extract k x.1.size).size % 9 : Nat) : Int) = 0 := eqT hz
        have R := par_round (c := 9) hs ha hk (by decide) (by decide) (by omega) (by omega) (.inl rfl)
        refine ⟨⟨Int.le_refl 0, Int.natCast_nonneg 9, Int.ofNat_le.2 R.le⟩, ⟨R.all, Nat.lt_of_lt_of_eq R.pos R.sz.symm, Nat.le_trans (Nat.le_of_eq R.sz) R.nine, rfl, rfl⟩, ?_⟩
        intro r hr
        have lt : r < 4294967296 := Nat.lt_of_le_of_lt (Nat.le_of_eq hr) R.lt
        have vl : decV (x.1.data.toList.take (k + 9)) = decV (x.1.data.toList.take k) * 1000000000 + r := R.val.trans (congrArg (fun v => decV (x.1.data.toList.take k) * 1000000000 + v) hr.symm)
        clear hr
        refine ⟨⟨nrm_wd _, R.wl, _, rfl, by rw [wrap32 lt]; exact Int.natCast_nonneg _, by rw [wrap32 lt]; exact Int.ofNat_lt.2 lt⟩, ?_⟩
        intro r1 hr
        have e := grow_f (decV (x.1.data.toList.take k)) r
        rw [← wrap32 lt] at e
        have e1 : r1.1 = _ := congrArg Prod.fst (hr.trans e)
        clear hr e
        exact ⟨⟨Int.natCast_nonneg 9, Int.ofNat_le.2 R.le, Int.le_refl _⟩, k + 9, R.nx, (congrArg wd vl).trans e1.symm, ⟨R.bd, hs, ha, .inr R.rest⟩, by have := R.pos; have := R.bd; omega⟩
      · have hz : (((x.1.extract k x.1.size).size % 9 : Nat) : Int) ≠ 0 := eqF hz
        have hm9 := Nat.mod_lt (x.1.extract k x.1.size).size (show 9 > 0 by decide)
        have R := par_round (c := (x.1.extract k x.1.size).size % 9) hs ha hk (by omega) (by omega) (by omega) (by omega) (by omega)
        refine ⟨⟨Int.le_refl 0, Int.natCast_nonneg ((x.1.extract k x.1.size).size % 9), Int.ofNat_le.2 R.le⟩, ⟨R.all, Nat.lt_of_lt_of_eq R.pos R.sz.symm, Nat.le_trans (Nat.le_of_eq R.sz) R.nine, rfl, rfl⟩, ?_⟩
        intro r hr
        have lt : r < 4294967296 := Nat.lt_of_le_of_lt (Nat.le_of_eq hr) R.lt
        have vl : decV (x.1.data.toList.take (k + ((x.1.extract k x.1.size).size % 9))) = decV (x.1.data.toList.take k) * 1000000000 + r := R.val.trans (congrArg (fun v => decV (x.1.data.toList.take k) * 1000000000 + v) hr.symm)
        clear hr
        refine ⟨⟨nrm_wd _, R.wl, _, rfl, by rw [wrap32 lt]; exact Int.natCast_nonneg _, by rw [wrap32 lt]; exact Int.ofNat_lt.2 lt⟩, ?_⟩
        intro r1 hr
        have e := grow_f (decV (x.1.data.toList.take k)) r
        rw [← wrap32 lt] at e
        have e1 : r1.1 = _ := congrArg Prod.fst (hr.trans e)
        clear hr e
        exact ⟨⟨Int.natCast_nonneg ((x.1.extract k x.1.size).size % 9), Int.ofNat_le.2 R.le, Int.le_refl _⟩, k + ((x.1.extract k x.1.size).size % 9), R.nx, (congrArg wd vl).trans e1.symm, ⟨R.bd, hs, ha, .inr R.rest⟩, by have := R.pos; have := R.bd; omega⟩
    · have h := tl_e (nff h)
      have ek : k = x.1.size := by omega
      have et : x.1.data.toList.take k = x.1.data.toList := List.take_of_length_le (by rw [ba_len]; omega)
      rw [et]
      refine ⟨⟨nrm_wd _, Nat.le_trans (dec_wds ha (k := 3000) (by rw [ba_len]; omega)) (by decide)⟩, ?_⟩
      intro r hr
      rw [hr]
      exact (par_ok h3k hcan).symm
  · have hcan : canD x.1.data.toList = true := can_of h0 hall (.inr (fun c => eqF hq (congrArg Int.ofNat c)))
    refine ⟨⟨0, ex_0 x.1, by rw [List.take_zero, decV_nil, wd_zero], Nat.zero_le _, h3k, hall, .inl rfl⟩, ?_⟩
    rintro k ⟨hk, hs, ha, hm⟩
    have hes := ex_size x.1 k
    refine ⟨fun h => ?_, fun h => ?_⟩
    · have h := tl_n (ntt h)
      refine ⟨by decide, fun hz => ?_, fun hz => ?_⟩
      · have hz : (((x.1.extract k x.1.size).size % 9 : Nat) : Int) = 0 := eqT hz
        have R := par_round (c := 9) hs ha hk (by decide) (by decide) (by omega) (by omega) (.inl rfl)
        refine ⟨⟨Int.le_refl 0, Int.natCast_nonneg 9, Int.ofNat_le.2 R.le⟩, ⟨R.all, Nat.lt_of_lt_of_eq R.pos R.sz.symm, Nat.le_trans (Nat.le_of_eq R.sz) R.nine, rfl, rfl⟩, ?_⟩
        intro r hr
        have lt : r < 4294967296 := Nat.lt_of_le_of_lt (Nat.le_of_eq hr) R.lt
        have vl : decV (x.1.data.toList.take (k + 9)) = decV (x.1.data.toList.take k) * 1000000000 + r := R.val.trans (congrArg (fun v => decV (x.1.data.toList.take k) * 1000000000 + v) hr.symm)
        clear hr
        refine ⟨⟨nrm_wd _, R.wl, _, rfl, by rw [wrap32 lt]; exact Int.natCast_nonneg _, by rw [wrap32 lt]; exact Int.ofNat_lt.2 lt⟩, ?_⟩
        intro r1 hr
        have e := grow_f (decV (x.1.data.toList.take k)) r
        rw [← wrap32 lt] at e
        have e1 : r1.1 = _ := congrArg Prod.fst (hr.trans e)
        clear hr e
        exact ⟨⟨Int.natCast_nonneg 9, Int.ofNat_le.2 R.le, Int.le_refl _⟩, k + 9, R.nx, (congrArg wd vl).trans e1.symm, ⟨R.bd, hs, ha, .inr R.rest⟩, by have := R.pos; have := R.bd; omega⟩
      · have hz : (((x.1.extract k x.1.size).size % 9 : Nat) : Int) ≠ 0 := eqF hz
        have hm9 := Nat.mod_lt (x.1.extract k x.1.size).size (show 9 > 0 by decide)
        have R := par_round (c := (x.1.extract k x.1.size).size % 9) hs ha hk (by omega) (by omega) (by omega) (by omega) (by omega)
        refine ⟨⟨Int.le_refl 0, Int.natCast_nonneg ((x.1.extract k x.1.size).size % 9), Int.ofNat_le.2 R.le⟩, ⟨R.all, Nat.lt_of_lt_of_eq R.pos R.sz.symm, Nat.le_trans (Nat.le_of_eq R.sz) R.nine, rfl, rfl⟩, ?_⟩
        intro r hr
        have lt : r < 4294967296 := Nat.lt_of_le_of_lt (Nat.le_of_eq hr) R.lt
        have vl : decV (x.1.data.toList.take (k + ((x.1.extract k x.1.size).size % 9))) = decV (x.1.data.toList.take k) * 1000000000 + r := R.val.trans (congrArg (fun v => decV (x.1.data.toList.take k) * 1000000000 + v) hr.symm)
        clear hr
        refine ⟨⟨nrm_wd _, R.wl, _, rfl, by rw [wrap32 lt]; exact Int.natCast_nonneg _, by rw [wrap32 lt]; exact Int.ofNat_lt.2 lt⟩, ?_⟩
        intro r1 hr
        have e := grow_f (decV (x.1.data.toList.take k)) r
        rw [← wrap32 lt] at e
        have e1 : r1.1 = _ := congrArg Prod.fst (hr.trans e)
        clear hr e
        exact ⟨⟨Int.natCast_nonneg ((x.1.extract k x.1.size).size % 9), Int.ofNat_le.2 R.le, Int.le_refl _⟩, k + ((x.1.extract k x.1.size).size % 9), R.nx, (congrArg wd vl).trans e1.symm, ⟨R.bd, hs, ha, .inr R.rest⟩, by have := R.pos; have := R.bd; omega⟩
    · have h := tl_e (nff h)
      have ek : k = x.1.size := by omega
      have et : x.1.data.toList.take k = x.1.data.toList := List.take_of_length_le (by rw [ba_len]; omega)
      rw [et]
      refine ⟨⟨nrm_wd _, Nat.le_trans (dec_wds ha (k := 3000) (by rw [ba_len]; omega)) (by decide)⟩, ?_⟩
      intro r hr
      rw [hr]
      exact (par_ok h3k hcan).symm
theorem fo_aParseG : FnOk Tryz.prog 133 sp_aParseG := fnOk_of (C := c_aParseG) iv_aParseG Tryz.func133 rfl (by kernel_rfl) tys_ok (prims_cons (spec_prim fo_sTrim) (prims_cons pr_pu (prims_cons (row_prim row_grow) (prims_cons (row_prim row_told) prims_nil)))) mixed_ (Nat.le_refl _) rfl fun y x h1 h2 h3 h4 =>
  Eq.mpr (w_aParseG y x) (m_aParseG y x h2 h3 h4)
def cutB (s p : ByteArray) : ByteArray × ByteArray × Bool := if 0 ≤ ixB s p then (s.extract 0 (ixB s p).toNat, s.extract ((ixB s p).toNat + 1) s.size, true) else (s, ⟨#[]⟩, false)
theorem cut_law {s p : ByteArray} {i : Int} (hs : s.size ≤ 9223372036854775807) (hp : p.size = 1) (hi : i = ixB s p) (h : 0 ≤ i) : ((0 : Int) ≤ 0 ∧ 0 ≤ i ∧ i ≤ (s.size : Int)) ∧ (-9223372036854775808 ≤ i + (p.size : Int) ∧ i + (p.size : Int) ≤ 9223372036854775807) ∧ (0 ≤ i + (p.size : Int) ∧ i + (p.size : Int) ≤ (s.size : Int) ∧ (s.size : Int) ≤ (s.size : Int)) ∧
    (s.extract (Int.toNat 0) i.toNat, s.extract (i + (p.size : Int)).toNat (Int.toNat (s.size : Int)), true, ()) = ((cutB s p).1, (cutB s p).2.1, (cutB s p).2.2, ()) := by
  rcases ixB_rng s p with e | ⟨r0, r1⟩
  · omega
  · rw [hp]
    refine ⟨⟨by omega, by omega, by omega⟩, ⟨by omega, by omega⟩, ⟨by omega, by omega, by omega⟩, ?_⟩
    unfold cutB
    rw [if_pos (by omega), ← hi, Int.toNat_natCast, show (i + ((1 : Nat) : Int)).toNat = i.toNat + 1 by omega]
    rfl
theorem cut_miss {s p : ByteArray} {i : Int} (hi : i = ixB s p) (h : i < 0) : (s, (⟨#[]⟩ : ByteArray), false, ()) = ((cutB s p).1, (cutB s p).2.1, (cutB s p).2.2, ()) := by
  unfold cutB
  rw [if_neg (by omega)]
noncomputable def sp_sCutL : Spec := { q := .un, ps := [.st, .st], rs := [.st, .st, .bo], fresh := true, pre := fun _ x => some (ByteArray.size x.2.1 = 1), post := fun _ x => ((), ((cutB x.1 x.2.1).1, (cutB x.1 x.2.1).2.1, (cutB x.1 x.2.1).2.2, ())) }
noncomputable def iv_sCutL (y : El sp_sCutL.q) (x : Els sp_sCutL.ps) : Nat → Option Inv := fun _ => none
noncomputable abbrev c_sCutL : Cfg := cfgS (Tryz.f155).ntmps false [(192, sp_sIdx.prim)]
def F_sCutL (y : El sp_sCutL.q) (x : Els sp_sCutL.ps) : Prop :=
  ByteArray.size x.2.1 = (1 : Nat) ∧ ∀ (r : Ro [Ty.it IntKind.i64]), r = ((), ixB x.1 x.2.1, ()) → (decide (r.2.1 ≥ (0 : Int)) = true → ((0 : Int) ≤ (0 : Int) ∧ (0 : Int) ≤ r.2.1 ∧ r.2.1 ≤ (↑(ByteArray.size x.1) : Int)) ∧ ((-9223372036854775808 : Int) ≤ r.2.1 + (↑(ByteArray.size x.2.1) : Int) ∧ r.2.1 + (↑(ByteArray.size x.2.1) : Int) ≤ (9223372036854775807 : Int)) ∧ ((0 : Int) ≤ r.2.1 + (↑(ByteArray.size x.2.1) : Int) ∧ r.2.1 + (↑(ByteArray.size x.2.1) : Int) ≤ (↑(ByteArray.size x.1) : Int) ∧ (↑(ByteArray.size x.1) : Int) ≤ (↑(ByteArray.size x.1) : Int)) ∧ (ByteArray.extract x.1 (Int.toNat (0 : Int)) (Int.toNat r.2.1), ByteArray.extract x.1 (r.2.1 + (↑(ByteArray.size x.2.1) : Int)).toNat (↑(ByteArray.size x.1) : Int).toNat, true, ()) = ((cutB x.1 x.2.1).1, (cutB x.1 x.2.1).2.1, (cutB x.1 x.2.1).2.2, ())) ∧ (decide (r.2.1 ≥ (0 : Int)) = false → (x.1, (⟨#[]⟩ : ByteArray), false, ()) = ((cutB x.1 x.2.1).1, (cutB x.1 x.2.1).2.1, (cutB x.1 x.2.1).2.2, ()))
theorem w_sCutL (y : El sp_sCutL.q) (x : Els sp_sCutL.ps) : aW c_sCutL (iv_sCutL y x) Tryz.f155 sp_sCutL y x = F_sCutL y x := by kernel_rfl
theorem m_sCutL (y : El (.un)) (x : Els [.st, .st]) (h2 : wfE (.un) y) (h3 : wfEs [.st, .st] x) (h4 : ByteArray.size x.2.1 = 1) : F_sCutL y x := by
  unfold F_sCutL
  have hs : ByteArray.size x.1 ≤ 9223372036854775807 := h3.1
  refine ⟨h4, ?_⟩
  rintro _ rfl
  exact ⟨fun h => cut_law (i := ixB x.1 x.2.1) hs h4 rfl (geT h), fun h => cut_miss (i := ixB x.1 x.2.1) rfl (geF h)⟩
theorem fo_sCutL : FnOk Tryz.prog 155 sp_sCutL := fnOk_of (C := c_sCutL) iv_sCutL Tryz.func155 rfl (by kernel_rfl) tys_ok (prims_cons (spec_prim fo_sIdx) prims_nil) mixed_ (Nat.le_refl _) rfl fun y x h1 h2 h3 h4 =>
  Eq.mpr (w_sCutL y x) (m_sCutL y x h2 h3 h4)
noncomputable def sp_sCut : Spec := { q := .un, ps := [.st, .st], rs := [.st, .st, .bo], fresh := true, pre := fun _ x => some (ByteArray.size x.2.1 = 1), post := fun _ x => ((), ((cutB x.1 x.2.1).1, (cutB x.1 x.2.1).2.1, (cutB x.1 x.2.1).2.2, ())) }
noncomputable def iv_sCut (y : El sp_sCut.q) (x : Els sp_sCut.ps) : Nat → Option Inv := fun _ => none
noncomputable abbrev c_sCut : Cfg := cfgS (Tryz.f108).ntmps false [(155, sp_sCutL.prim)]
def F_sCut (y : El sp_sCut.q) (x : Els sp_sCut.ps) : Prop :=
  ByteArray.size x.2.1 = (1 : Nat) ∧ ∀ (r : Ro [Ty.st, Ty.st, Ty.bo]), r = ((), (cutB x.1 x.2.1).1, (cutB x.1 x.2.1).2.1, (cutB x.1 x.2.1).2.2, ()) → r.2 = ((cutB x.1 x.2.1).1, (cutB x.1 x.2.1).2.1, (cutB x.1 x.2.1).2.2, ())
theorem w_sCut (y : El sp_sCut.q) (x : Els sp_sCut.ps) : aW c_sCut (iv_sCut y x) Tryz.f108 sp_sCut y x = F_sCut y x := by kernel_rfl
theorem m_sCut (y : El (.un)) (x : Els [.st, .st]) (h2 : wfE (.un) y) (h3 : wfEs [.st, .st] x) (h4 : ByteArray.size x.2.1 = 1) : F_sCut y x := by
  unfold F_sCut
  refine ⟨h4, ?_⟩
  rintro _ rfl
  rfl
theorem fo_sCut : FnOk Tryz.prog 108 sp_sCut := fnOk_of (C := c_sCut) iv_sCut Tryz.func108 rfl (by kernel_rfl) tys_ok (prims_cons (spec_prim fo_sCutL) prims_nil) mixed_ (Nat.le_refl _) rfl fun y x h1 h2 h3 h4 =>
  Eq.mpr (w_sCut y x) (m_sCut y x h2 h3 h4)
noncomputable def sp_rlong : Spec := { q := .un, ps := [tW32], rs := [.bo], fresh := true, pre := fun _ _ => none, post := fun _ x => ((), (decide (2048 < x.1.length), ())) }
noncomputable def iv_rlong (y : El sp_rlong.q) (x : Els sp_rlong.ps) : Nat → Option Inv := fun _ => none
noncomputable abbrev c_rlong : Cfg := cfgS (Tryz.f85).ntmps false []
def F_rlong (y : El sp_rlong.q) (x : Els sp_rlong.ps) : Prop :=
  (decide ((x.1.length : Int) > (2048 : Int)), ()) = (decide ((2048 : Nat) < List.length x.1), ())
theorem w_rlong (y : El sp_rlong.q) (x : Els sp_rlong.ps) : aW c_rlong (iv_rlong y x) Tryz.f85 sp_rlong y x = F_rlong y x := by kernel_rfl
theorem m_rlong (y : El (.un)) (x : Els [tW32]) (h2 : wfE (.un) y) (h3 : wfEs [tW32] x) : F_rlong y x := by
  unfold F_rlong
  refine congrArg (fun b => (b, ())) ?_
  rw [Bool.eq_iff_iff, decide_eq_true_eq, decide_eq_true_eq]
  exact Int.ofNat_lt
theorem fo_rlong : FnOk Tryz.prog 85 sp_rlong := fnOk_of (C := c_rlong) iv_rlong Tryz.func85 rfl (by kernel_rfl) tys_ok prims_nil mixed_ (Nat.le_refl _) rfl fun y x h1 h2 h3 h4 =>
  Eq.mpr (w_rlong y x) (m_rlong y x h2 h3)
def b_sl : ByteArray := ⟨#[47]⟩
def b_mi : ByteArray := ⟨#[45]⟩
def topR (s : ByteArray) : ByteArray × Bool := cutP (cutB s b_sl).1 b_mi
theorem cmp_gt1 {v : Nat} (h : 1 < v) : (cmp (toN (wd v)) (toN [1]) : Int) = 1 := by
  rw [toN_wd, toN_1]
  exact cmp_gt h
theorem lenM_nz {n : Nat} (h : (lenM 0 (Ty.it IntKind.u32) (wd n) == (0 : Int)) = true) : n = 0 := by
  have h : ((wd n).length : Int) = 0 := eq_of_beq h
  exact wd_len_zero.1 (by omega)
end Go.Proofs.YtjoonfegjobgbaaGreatDoor
