/- Texts of this claim, joined: N4 N5 N6 N7 Sh1 N8 N9 P2 N10. -/
import Derived.Lib.EndianBits
import Derived.Shelf.Small.Bits
import Derived.Ground.SlgnProg
import Derived.Test.YtjoonfegjobgbaaGreatDoorProg
import Derived.Lib.ItoaNum
import Derived.Test.YtjoonfegjobgbaaGreatDoorRk
set_option linter.unusedVariables false
set_option linter.unusedSimpArgs false
set_option maxRecDepth 100000
namespace Go.Proofs.YtjoonfegjobgbaaGreatDoor
open Go Go.RowKit
set_option maxHeartbeats 400000 in
theorem clone_any (A : Option Addr) (xs : List Int) (c : Nat) (w : World) (h : Rd w A c xs) (hl : xs.length ≤ 35184372088832) :
    Calls Tryz.prog 139 #[.slice A xs.length c] w fun e w' => ∃ A' c', e = .returned (.slice A' xs.length c') ∧ Own w' w.heap.size A' c' xs ∧ Ext w w' := by
  have heq := fun (wx : World) (B : Option Addr) (n k : Nat) => Lib.run_eql_slice_nil (P := Tryz.prog) wx 22 46 B n k 0 0 Tryz.underlying22
  cases A with
  | none =>
    obtain rfl : c = 0 := h.none_ rfl
    obtain rfl : xs = [] := List.eq_nil_of_length_eq_zero (Nat.le_zero.1 h.cap)
    clear h
    go_enter Tryz.func139, Tryz.ntmps139
    go_wp2
    go_ret
    exact ⟨none, 0, rfl, Own.nil _ _, Ext.refl _⟩
  | some a =>
    have H := Lib.hid h
    clear h
    go_enter Tryz.func139, Tryz.ntmps139
    go_wp2_with (at_builtin; refine wpList_app rfl _ _ rfl w.heap.size (some ⟨w.heap.size, 0, none⟩) 0 [] 0 rfl rfl (Own.lit w #[] [] rfl (by simp)) _ _ xs xs.length rfl rfl (H.out.ext ((Ext.refl w).alloc _)) (by simpa using hl) (by simp) ?_; intro A' c' w1 hO hg)
    have HO := Lib.hid hO
    have HX : Hid (Ext w w1) := ((Ext.refl w).alloc _).grown hg (fun k hk => by cases hk; exact Nat.le_refl _)
    clear hO hg heq
    go_wp2_with fail
    go_ret
    exact ⟨A', c', by simp, HO.out, HX.out⟩
theorem of_words (x : Nat) : val [(x : Int) % 4294967296, (x : Int) / 4294967296] = x := by
  show V _ 2 = _
  rw [V_cons, V_cons, V_zero]
  omega
theorem wf_of (x : Nat) (h : x < 18446744073709551616) : Wf [(x : Int) % 4294967296, (x : Int) / 4294967296] := by
  intro z hz
  simp only [List.mem_cons, List.not_mem_nil, or_false] at hz
  omega
set_option maxHeartbeats 400000 in
theorem of_any (x : Nat) (w : World) (hx : x < 18446744073709551616) :
    Calls Tryz.prog 142 #[.int .u64 x] w fun e w' => ∃ A' c', e = .returned (.slice A' (wd x).length c') ∧ Own w' w.heap.size A' c' (wd x) ∧ Ext w w' := by
  have ho := Own.lit w #[.int .u32 ((x : Int) % 4294967296), .int .u32 ((x : Int) / 4294967296)] [(x : Int) % 4294967296, (x : Int) / 4294967296] rfl (by simp)
  have ht := tl_all (wf_of x hx)
  rw [of_words, Int.toNat_natCast] at ht
  have HL := Lib.hid (show tl [(x : Int) % 4294967296, (x : Int) / 4294967296] 2 = (wd x).length by
    have e := congrArg List.length ht
    rw [List.length_take] at e
    have e2 : [(x : Int) % 4294967296, (x : Int) / 4294967296].length = 2 := rfl
    rw [e2] at e
    have := tl_le [(x : Int) % 4294967296, (x : Int) / 4294967296] 2
    omega)
  have hc := cut_any _ _ _ _ ho.rd
  have HO2 := ho.take (tl [(x : Int) % 4294967296, (x : Int) / 4294967296] [(x : Int) % 4294967296, (x : Int) / 4294967296].length)
  rw [ht] at HO2
  have HC := Lib.hid hc
  have HO := Lib.hid HO2
  have h1 : (x : Int) ≤ 18446744073709551615 := by omega
  clear ho hc HO2 ht
  go_enter Tryz.func142, Tryz.ntmps142
  go_wp2_with fail
  refine HC.out.mono ?_; rintro e w' ⟨rfl, rfl⟩
  go_wp2_with fail
  go_ret
  exact ⟨_, _, by rw [← HL.out]; rfl, HO.out, (Ext.refl w).alloc _⟩
def owed (t : Int) : Int := if t < 0 then 1 else 0
theorem owed_01 (t : Int) : 0 ≤ owed t ∧ owed t ≤ 1 := by unfold owed; split <;> omega
theorem sub_word (x b y : Int) (hx : 0 ≤ x ∧ x < 4294967296) (hy : 0 ≤ y ∧ y < 4294967296) (hb : 0 ≤ b ∧ b ≤ 1) :
    IntKind.u64.wrap (IntKind.u64.wrap (x - b) - y) % 4294967296 = (x - b - y) % 4294967296 ∧ IntKind.u64.wrap (IntKind.u64.wrap (x - b) - y) / 9223372036854775808 = owed (x - b - y) := by
  rw [IntKind.wrap_u64, IntKind.wrap_u64]
  unfold owed
  split <;> constructor <;> omega
theorem sub_word0 (x b : Int) (hx : 0 ≤ x ∧ x < 4294967296) (hb : 0 ≤ b ∧ b ≤ 1) :
    IntKind.u64.wrap (x - b) % 4294967296 = (x - b) % 4294967296 ∧ IntKind.u64.wrap (x - b) / 9223372036854775808 = owed (x - b) := by
  rw [IntKind.wrap_u64]
  unfold owed
  split <;> constructor <;> omega
theorem sub_round (us xs ys : List Int) (k : Nat) (b : Int) (hk : k < us.length) (hx : 0 ≤ nth xs k ∧ nth xs k < 4294967296) (hy : 0 ≤ nth ys k ∧ nth ys k < 4294967296) (hb : 0 ≤ b ∧ b ≤ 1) (hv : V us k + V ys k = V xs k + b * pw k) :
    V (us.set k ((nth xs k - b - nth ys k) % 4294967296)) (k + 1) + V ys (k + 1) = V xs (k + 1) + owed (nth xs k - b - nth ys k) * pw (k + 1) := by
  rw [V_succ, V_set_ge _ _ _ _ (Nat.le_refl _), nth_set_self _ _ _ hk, pw_succ, V_succ, V_succ]
  have e : (nth xs k - b - nth ys k) % 4294967296 = nth xs k - b - nth ys k + owed (nth xs k - b - nth ys k) * 4294967296 := by unfold owed; split <;> omega
  rw [e]
  generalize owed (nth xs k - b - nth ys k) = o
  simp only [Int.add_mul, Int.sub_mul, Int.mul_assoc]
  omega
theorem sub_end (us : List Int) (m n l : Nat) (b : Int) (hm : (wd m).length = l) (hn : n ≤ m) (hw : Wf us) (hul : us.length = l) (hb : 0 ≤ b ∧ b ≤ 1) (hv : V us l + V (wd n) l = V (wd m) l + b * pw l) :
    val us = ((m - n : Nat) : Int) := by
  have e1 := val_wd m
  have e2 := val_wd n
  have := wd_len_mono hn
  rw [← V_out _ l (by omega)] at e1 e2
  have h1 := V_lt hw l
  have h2 := V_nonneg hw l
  have h3 := pw_pos l
  unfold val
  rw [hul]
  have hb0 : b = 0 := by
    have : b = 0 ∨ b = 1 := by omega
    rcases this with h | h
    · exact h
    · rw [h, Int.one_mul] at hv
      omega
  rw [hb0, Int.zero_mul] at hv
  omega
set_option maxHeartbeats 1000000 in
theorem less_any (A B : Option Addr) (m n : Nat) (c d base : Nat) (w : World) (ho : Own w base A c (wd m)) (hb : Rd w B d (wd n)) (hne : ∀ a b, A = some a → B = some b → 0 < (wd n).length → a.block ≠ b.block) (hnm : n ≤ m) (lm : (wd m).length ≤ 8192) :
    Calls Tryz.prog 176 #[.slice A (wd m).length c, .slice B (wd n).length d] w fun e w' => e = .returned (.slice A (wd (m - n)).length c) ∧ Own w' base A c (wd (m - n)) ∧ w.grownBy w' (A.map (·.block)) := by
  rcases ho.form with rfl | ⟨g, rfl, hg1, hg2⟩
  · have hc := ho.rd
    obtain rfl : c = 0 := hc.none_ rfl
    have hz : m = 0 := wd_len_zero.1 (Nat.le_zero.1 hc.cap)
    subst hz
    obtain rfl : n = 0 := Nat.le_zero.1 hnm
    have HT := Lib.hid (cut_any none (wd 0) 0 w hc)
    rw [tl_wd] at HT
    have HL := Lib.hid (show (wd 0).length = 0 by rw [wd_zero]; rfl)
    have HO := Lib.hid ho
    rw [HL.out] at HT ⊢
    clear ho hc hb hne
    go_enter Tryz.func176, Tryz.ntmps176
    go_wp2_with fail
    go_loop [10] (fun i => i = .int .i64 0) (fun _ => 0)
    case atStart => rfl
    case round =>
      obtain rfl := hrel
      go_wp2_with fail
      refine HT.out.mono ?_; rintro e w' ⟨rfl, rfl⟩
      go_wp2_with fail
      go_ret
      exact ⟨rfl, HO.out, World.grownBy.refl _ _⟩
  · have HN := Lib.hid hne
    have HB := Lib.hid hb
    have HW := Lib.hid (wf_wd m)
    have HO := Lib.hid ho
    have HG := Lib.hid (World.grownBy.refl w (some g))
    clear ho hb hne
    go_enter Tryz.func176, Tryz.ntmps176
    go_wp2_with fail
    go_loopw [5, 10] (fun bo i wr => ∃ (k : Nat) (us : List Int) (b : Int), k ≤ (wd m).length ∧ us.length = (wd m).length ∧ Hid (Wf us) ∧ 0 ≤ b ∧ b ≤ 1 ∧ Hid (V us k + V (wd n) k = V (wd m) k + b * pw k) ∧ Hid (∀ j, k ≤ j → nth us j = nth (wd m) j) ∧ bo = .int .u64 b ∧ i = .int .i64 k ∧ Hid (Own wr base (some ⟨g, 0, none⟩) c us) ∧ Hid (w.grownBy wr (some g))) (fun _ i _ => (wd m).length - (intOf i).toNat)
    case atStart => exact ⟨0, wd m, 0, by omega, rfl, HW.out, by omega, by omega, by show _ = _; simp [V_zero], fun _ _ => rfl, rfl, rfl, HO, HG⟩
    case round =>
      clear HO HG
      obtain ⟨k, us, b, hk, hul, hw, hb0, hb1, hv, hrest, rfl, rfl, HO, HX⟩ := hrel
      have HUL := Lib.hid hul
      clear hul
      by_cases hkm : k < (wd m).length
      · have hco := HO.out.cell k (by have := HUL.out; omega)
        rw [hrest.out k (Nat.le_refl _)] at hco
        have hfo := HO.out.free k
        have bx := nth_wf (wf_wd m) k
        have by_ := nth_wf (wf_wd n) k
        have HV := Lib.hid (sub_round us (wd m) (wd n) k b (by have := HUL.out; omega) bx by_ ⟨hb0, hb1⟩ hv.out)
        have HR : ∀ v, Hid (∀ j, k + 1 ≤ j → nth (us.set k v) j = nth (wd m) j) := fun v j hj => by rw [nth_set_ne _ _ _ _ (by omega)]; exact hrest.out j (by omega)
        by_cases hkn : k < (wd n).length
        · obtain ⟨bd, rfl, hcb⟩ := (HB.out.kept HX.out (fun b hb => by subst hb; intro e; injection e with e; exact HN.out _ _ rfl rfl (by omega) e.symm)).at_ k hkn
          have hs := sub_word (nth (wd m) k) b (nth (wd n) k) bx by_ ⟨hb0, hb1⟩
          have HS1 := Lib.hid hs.1
          have HS2 := Lib.hid hs.2
          have ow := owed_01 (nth (wd m) k - b - nth (wd n) k)
          clear hs
          go_wp2_with fail
          go_roundw
          case rel =>
            rw [HS1.out, HS2.out]
            exact ⟨k + 1, _, _, by omega, by rw [List.length_set]; exact HUL.out, wf_set hw.out _ _ (by omega) (by omega), ow.1, ow.2, HV.out, HR _, rfl, by go_num, (HO.out.set k _).1, grown_trans HX.out (HO.out.set k _).2⟩
          case measure => simp [intOf]; omega
        · rw [nth_out (wd n) k (by omega), Int.sub_zero] at HV
          have hs := sub_word0 (nth (wd m) k) b bx ⟨hb0, hb1⟩
          have HS1 := Lib.hid hs.1
          have HS2 := Lib.hid hs.2
          have ow := owed_01 (nth (wd m) k - b)
          clear hs
          go_wp2_with fail
          go_roundw
          case rel =>
            rw [HS1.out, HS2.out]
            exact ⟨k + 1, _, _, by omega, by rw [List.length_set]; exact HUL.out, wf_set hw.out _ _ (by omega) (by omega), ow.1, ow.2, HV.out, HR _, rfl, by go_num, (HO.out.set k _).1, grown_trans HX.out (HO.out.set k _).2⟩
          case measure => simp [intOf]; omega
      · have hkl : k = (wd m).length := by omega
        have HE := Lib.hid (sub_end us m n (wd m).length b rfl hnm hw.out HUL.out ⟨hb0, hb1⟩ (by rw [← hkl]; exact hv.out))
        clear hkl
        go_wp2_with fail
        refine (cut_own _ us _ _ _ _ HO.out HUL.out hw.out _ HE.out).mono ?_; rintro e w' ⟨rfl, HO2, rfl⟩
        have HO3 := Lib.hid HO2
        clear HO2
        go_wp2_with fail
        go_ret
        exact ⟨rfl, HO3.out, HX.out⟩
set_option maxHeartbeats 1000000 in
theorem sub_any (A B : Option Addr) (m n : Nat) (c d : Nat) (w : World) (ha : Rd w A c (wd m)) (hb : Rd w B d (wd n)) (hnm : n ≤ m) (lm : (wd m).length ≤ 8192) :
    Calls Tryz.prog 134 #[.slice A (wd m).length c, .slice B (wd n).length d] w fun e w' => ∃ A' c', e = .returned (.tuple #[.slice A' (wd (m - n)).length c', .int .i64 0]) ∧ Own w' w.heap.size A' c' (wd (m - n)) ∧ Ext w w' := by
  have HA := Lib.hid ha
  have HB := Lib.hid hb
  clear ha hb
  have ln := wd_len_mono hnm
  have hcm : ¬ cmp m n < 0 := fun e => by have := cmp_lt_iff.1 e; omega
  go_enter Tryz.func134, Tryz.ntmps134
  go_wp2_with fail
  refine (checked_ok _ _ _ _ _ _ _ HA.out HB.out (by omega) (by omega)).mono ?_; rintro e w' ⟨rfl, rfl⟩
  go_wp2_with fail
  refine (compare_any _ _ _ _ _ _ _ HA.out HB.out).mono ?_; rintro e w1 ⟨rfl, hx1⟩
  have HX1 := Lib.hid hx1
  clear hx1
  go_wp2_with fail
  refine (clone_any _ _ _ _ (HA.out.ext HX1.out) (by omega)).mono ?_; rintro e w2 ⟨A2, c2, rfl, hO2, hx2⟩
  have HX2 := Lib.hid (HX1.out.trans hx2)
  have HO2 := Lib.hid hO2
  have hb2 := HB.out.ext HX2.out
  have HN := Lib.hid (hO2.apartRd (HB.out.ext HX1.out) (Nat.le_refl _))
  have HB2 := Lib.hid hb2
  clear hx2 hO2 hb2
  go_wp2_with fail
  refine (less_any _ _ _ _ _ _ _ _ HO2.out HB2.out HN.out hnm lm).mono ?_; rintro e w3 ⟨rfl, hO3, hx3⟩
  have HX3 := Lib.hid (HX2.out.grown hx3 (fun k hk => by
    cases A2 with
    | none => cases hk
    | some a => cases hk; exact Nat.le_trans HX1.out.size HO2.out.block.1))
  have HO3 := Lib.hid hO3
  clear hx3 hO3
  go_wp2_with fail
  go_ret2
  exact ⟨_, _, rfl, HO3.out.lower HX1.out.size, HX3.out⟩
theorem prod_bd {x y : Int} (hx : 0 ≤ x ∧ x < 4294967296) (hy : 0 ≤ y ∧ y < 4294967296) : 0 ≤ x * y ∧ x * y ≤ 18446744065119617025 := by
  refine ⟨Int.mul_nonneg hx.1 hy.1, ?_⟩
  have h : x * y ≤ 4294967295 * 4294967295 := Int.mul_le_mul (by omega) (by omega) hy.1 (by omega)
  omega
theorem mul_round (us ys : List Int) (i k L : Nat) (cy x S : Int) (hk : i + k < us.length) (hL : i + k < L) (hv : V us L + cy * pw (i + k) = S + x * V ys k * pw i) :
    V (us.set (i + k) ((cy + (x * nth ys k + nth us (i + k))) % 4294967296)) L + (cy + (x * nth ys k + nth us (i + k))) / 4294967296 * pw (i + (k + 1)) = S + x * V ys (k + 1) * pw i := by
  rw [V_set _ _ _ hk _ hL, show i + (k + 1) = i + k + 1 from rfl, pw_succ, V_succ]
  have e : (cy + (x * nth ys k + nth us (i + k))) % 4294967296 = cy + (x * nth ys k + nth us (i + k)) - (cy + (x * nth ys k + nth us (i + k))) / 4294967296 * 4294967296 := by omega
  rw [e]
  generalize (cy + (x * nth ys k + nth us (i + k))) / 4294967296 = q
  have e2 : x * (V ys k + nth ys k * pw k) * pw i = x * V ys k * pw i + x * nth ys k * pw (i + k) := by
    rw [pw_add, Int.mul_add, Int.add_mul, Int.mul_comm (pw i) (pw k), ← Int.mul_assoc x (nth ys k) (pw k), Int.mul_assoc (x * nth ys k)]
  rw [e2]
  simp only [Int.add_mul, Int.sub_mul, Int.mul_assoc] at hv ⊢
  omega
theorem mul_out (us ys : List Int) (i L : Nat) (cy x S : Int) (hk : i + ys.length < us.length) (hL : i + ys.length < L) (hz : nth us (i + ys.length) = 0) (hv : V us L + cy * pw (i + ys.length) = S * val ys + x * V ys ys.length * pw i) :
    V (us.set (i + ys.length) cy) L = (S + x * pw i) * val ys := by
  rw [V_set _ _ _ hk _ hL, hz, Int.sub_zero, hv]
  show S * val ys + x * val ys * pw i = _
  rw [Int.add_mul, Int.mul_assoc x (val ys), Int.mul_comm (val ys), ← Int.mul_assoc]
set_option maxHeartbeats 2000000 in
theorem mul_pos (A B : Option Addr) (m n : Nat) (c d : Nat) (w : World) (ha : Rd w A c (wd m)) (hb : Rd w B d (wd n)) (hm : 0 < (wd m).length) (hn : 0 < (wd n).length) (ls : (wd m).length + (wd n).length ≤ 8192) :
    Calls Tryz.prog 135 #[.slice A (wd m).length c, .slice B (wd n).length d] w fun e w' => ∃ A' c', e = .returned (.tuple #[.slice A' (wd (m * n)).length c', .int .i64 0]) ∧ Own w' w.heap.size A' c' (wd (m * n)) ∧ Ext w w' := by
  have HA := Lib.hid ha
  have HB := Lib.hid hb
  clear ha hb
  have hls : (wd (m * n)).length ≤ 8192 := by have := wd_len_mul m n; omega
  have hm0 : (((wd m).length : Int) == 0) = false := beq_eq_false_iff_ne.2 (by omega)
  have hn0 : (((wd n).length : Int) == 0) = false := beq_eq_false_iff_ne.2 (by omega)
  go_enter Tryz.func135, Tryz.ntmps135
  go_wp2_with fail
  refine (checked_ok _ _ _ _ _ _ _ HA.out HB.out (by omega) (by omega)).mono ?_; rintro e w' ⟨rfl, rfl⟩
  go_wp2_with (at_make; refine wpList_mk rfl _ _ rfl ((wd m).length + (wd n).length) _ _ rfl rfl (by omega) (by omega) (by omega) ?_; intro w1 hO hG)
  have HO := Lib.hid hO
  have HG := Lib.hid hG
  clear hO hG hm0 hn0
  go_loopw [41] (fun i wr => ∃ (k : Nat) (us : List Int), k ≤ (wd m).length ∧ Hid (us.length = (wd m).length + (wd n).length) ∧ Hid (Wf us) ∧ Hid (V us ((wd m).length + (wd n).length) = V (wd m) k * val (wd n)) ∧ Hid (∀ j, k + (wd n).length ≤ j → nth us j = 0) ∧ i = .int .i64 k ∧ Hid (Own wr w.heap.size (some ⟨w.heap.size, 0, none⟩) ((wd m).length + (wd n).length) us) ∧ Hid (Ext w wr)) (fun i _ => (wd m).length - (intOf i).toNat)
  case atStart => exact ⟨0, _, by omega, List.length_replicate, wf_zeros _, by show _ = _; rw [V_zeros, V_zero, Int.zero_mul], fun j _ => nth_zeros _ _, rfl, HO, HG⟩
  case round =>
    clear HO HG
    obtain ⟨i, us0, hi, HUL0, HW0, HV0, HZ0, rfl, HO0, HX0⟩ := hrel
    obtain ⟨wo, rfl⟩ : ∃ wo, wo = wr := ⟨_, rfl⟩
    by_cases him : i < (wd m).length
    · obtain ⟨a, rfl, hca⟩ := (HA.out.ext HX0.out).at_ i him
      have bx := nth_wf (wf_wd m) i
      have HVs := Lib.hid (V_succ (wd m) i)
      obtain ⟨x, hx⟩ : ∃ x, x = nth (wd m) i := ⟨_, rfl⟩
      rw [← hx] at hca bx HVs
      clear hx
      go_wp2_with fail
      go_loopw [10, 48] (fun cy kk wr => ∃ (k : Nat) (us : List Int) (t : Int), k ≤ (wd n).length ∧ Hid (us.length = (wd m).length + (wd n).length) ∧ Hid (Wf us) ∧ 0 ≤ t ∧ t ≤ 4294967295 ∧ Hid (V us ((wd m).length + (wd n).length) + t * pw (i + k) = V (wd m) i * val (wd n) + x * V (wd n) k * pw i) ∧ Hid (∀ j, i + (wd n).length ≤ j → nth us j = 0) ∧ cy = .int .u64 t ∧ kk = .int .i64 k ∧ Hid (Own wr w.heap.size (some ⟨w.heap.size, 0, none⟩) ((wd m).length + (wd n).length) us) ∧ Hid (Ext w wr)) (fun _ kk _ => (wd n).length - (intOf kk).toNat)
      case atStart => exact ⟨0, us0, 0, by omega, HUL0.out, HW0.out, by omega, by omega, by show _ = _; rw [HV0.out, V_zero]; simp, HZ0.out, rfl, rfl, HO0, HX0⟩
      case round =>
        clear hca HO0 HX0
        obtain ⟨k, us, t, hk, HUL, HW, ht0, ht1, HV, HZ, rfl, rfl, HO, HX⟩ := hrel
        by_cases hkn : k < (wd n).length
        · obtain ⟨b, rfl, hcb⟩ := (HB.out.ext HX.out).at_ k hkn
          have hco := HO.out.cell (i + k) (by have := HUL.out; omega)
          have hfo := HO.out.free (i + k)
          have by_ := nth_wf (wf_wd n) k
          have bz := nth_wf HW.out (i + k)
          have pxy := prod_bd bx by_
          have HR := Lib.hid (mul_round us (wd n) i k _ t x _ (by have := HUL.out; omega) (by omega) HV.out)
          obtain ⟨y, hy⟩ : ∃ y, y = nth (wd n) k := ⟨_, rfl⟩
          obtain ⟨z, hz⟩ : ∃ z, z = nth us (i + k) := ⟨_, rfl⟩
          rw [← hy] at hcb by_ pxy HR
          rw [← hz] at hco bz HR
          obtain ⟨pxy0, pxy1⟩ := pxy
          clear hy hz
          go_wp2_with fail
          go_roundw
          case rel =>
            exact ⟨k + 1, _, _, by omega, by unfold Hid; rw [List.length_set]; exact HUL.out, wf_set HW.out _ _ (by omega) (by omega), by omega, by omega, HR.out, fun j hj => by rw [nth_set_ne _ _ _ _ (by omega)]; exact HZ.out j hj, rfl, by go_num, (HO.out.set (i + k) _).1, HX.out.setCell (Nat.le_refl _) _⟩
          case measure => simp [intOf]; omega
        · have hkl : k = (wd n).length := by omega
          subst hkl
          have hco := HO.out.cell (i + (wd n).length) (by have := HUL.out; omega)
          rw [HZ.out _ (Nat.le_refl _)] at hco
          have hfo := HO.out.free (i + (wd n).length)
          have HE := Lib.hid (mul_out us (wd n) i ((wd m).length + (wd n).length) t x _ (by have := HUL.out; omega) (by omega) (HZ.out _ (Nat.le_refl _)) HV.out)
          go_wp2_with fail
          go_roundw
          case rel =>
            exact ⟨i + 1, _, by omega, by unfold Hid; rw [List.length_set]; exact HUL.out, wf_set HW.out _ t ht0 (by omega), by unfold Hid; rw [HVs.out]; exact HE.out, fun j hj => by rw [nth_set_ne _ _ _ _ (by omega)]; exact HZ.out j (by omega), by go_num, (HO.out.set (i + (wd n).length) _).1, HX.out.setCell (Nat.le_refl _) _⟩
          case measure => simp [intOf]; omega
    · have hil : i = (wd m).length := by omega
      subst hil
      have HE := Lib.hid (show val us0 = ((m * n : Nat) : Int) by
        have e := HV0.out
        rw [show V (wd m) (wd m).length = val (wd m) from rfl, val_wd, val_wd] at e
        unfold val
        rw [HUL0.out, e, Int.natCast_mul])
      go_wp2_with fail
      refine (told_ok _ _ _ _ _ _ HO0.out HUL0.out HW0.out _ HE.out hls).mono ?_; rintro e w' ⟨rfl, HO3, rfl⟩
      have HO4 := Lib.hid HO3
      clear HO3
      go_wp2_with fail
      go_ret2
      exact ⟨_, _, rfl, HO4.out, HX0.out⟩
set_option maxHeartbeats 1000000 in
theorem mul_any (A B : Option Addr) (m n : Nat) (c d : Nat) (w : World) (ha : Rd w A c (wd m)) (hb : Rd w B d (wd n)) (ls : (wd m).length + (wd n).length ≤ 8192) :
    Calls Tryz.prog 135 #[.slice A (wd m).length c, .slice B (wd n).length d] w fun e w' => ∃ A' c', e = .returned (.tuple #[.slice A' (wd (m * n)).length c', .int .i64 0]) ∧ Own w' w.heap.size A' c' (wd (m * n)) ∧ Ext w w' := by
  by_cases hm : 0 < (wd m).length
  · by_cases hn : 0 < (wd n).length
    · exact mul_pos A B m n c d w ha hb hm hn ls
    · have hz : n = 0 := wd_len_zero.1 (by omega)
      have HE := Lib.hid (show wd (m * n) = [] by rw [hz, Nat.mul_zero]; exact wd_zero)
      have HA := Lib.hid ha
      have HB := Lib.hid hb
      have hm0 : (((wd m).length : Int) == 0) = false := beq_eq_false_iff_ne.2 (by omega)
      have hn0 : (((wd n).length : Int) == 0) = true := beq_iff_eq.2 (by omega)
      clear ha hb hz
      go_enter Tryz.func135, Tryz.ntmps135
      go_wp2_with fail
      refine (checked_ok _ _ _ _ _ _ _ HA.out HB.out (by omega) (by omega)).mono ?_; rintro e w' ⟨rfl, rfl⟩
      go_wp2_with fail
      go_ret2
      exact ⟨none, 0, by rw [HE.out]; rfl, by rw [HE.out]; exact Own.nil _ _, Ext.refl _⟩
  · have hz : m = 0 := wd_len_zero.1 (by omega)
    have HE := Lib.hid (show wd (m * n) = [] by rw [hz, Nat.zero_mul]; exact wd_zero)
    have HA := Lib.hid ha
    have HB := Lib.hid hb
    have hm0 : (((wd m).length : Int) == 0) = true := beq_iff_eq.2 (by omega)
    clear ha hb hz
    go_enter Tryz.func135, Tryz.ntmps135
    go_wp2_with fail
    refine (checked_ok _ _ _ _ _ _ _ HA.out HB.out (by omega) (by omega)).mono ?_; rintro e w' ⟨rfl, rfl⟩
    go_wp2_with fail
    go_ret2
    exact ⟨none, 0, by rw [HE.out]; rfl, by rw [HE.out]; exact Own.nil _ _, Ext.refl _⟩
theorem or_word (r x : Int) (hr : 0 ≤ r ∧ r < 4294967296) (hx : 0 ≤ x ∧ x < 4294967296) : bits .or .u64 (r * 4294967296) x = r * 4294967296 + x :=
  bits_join .u64 64 (by decide) (fun n h0 h1 => wraps_u64 n h0 h1) 32 _ _ (by omega) (by omega) (by omega) (by omega) (by omega) (by omega)
theorem quo_lt (r x D : Int) (hr0 : 0 ≤ r) (hr1 : r < D) (hx : 0 ≤ x ∧ x < 4294967296) : 0 ≤ (r * 4294967296 + x) / D ∧ (r * 4294967296 + x) / D < 4294967296 := by
  refine ⟨Int.ediv_nonneg (by omega) (by omega), ?_⟩
  apply Int.ediv_lt_of_lt_mul (by omega)
  omega
theorem small_round (us xs : List Int) (k L : Nat) (r D M : Int) (hk : k < us.length) (hL : k < L) (hv : (V us L - V us (k + 1)) * D + r * pw (k + 1) + V xs (k + 1) = M) :
    (V (us.set k ((r * 4294967296 + nth xs k) / D)) L - V (us.set k ((r * 4294967296 + nth xs k) / D)) k) * D + (r * 4294967296 + nth xs k) % D * pw k + V xs k = M := by
  rw [V_set _ _ _ hk _ hL, V_set_ge _ _ _ _ (Nat.le_refl _)]
  rw [V_succ, V_succ, pw_succ] at hv
  have e := Int.mul_ediv_add_emod (r * 4294967296 + nth xs k) D
  generalize (r * 4294967296 + nth xs k) / D = q at *
  generalize (r * 4294967296 + nth xs k) % D = s at *
  generalize nth xs k = x at *
  generalize nth us k = z at *
  have e2 : q * pw k * D + s * pw k = r * (4294967296 * pw k) + x * pw k := by
    have e3 := congrArg (· * pw k) e
    simp only [Int.add_mul] at e3
    rw [show q * pw k * D = D * q * pw k by rw [Int.mul_comm D q, Int.mul_assoc, Int.mul_assoc, Int.mul_comm (pw k)]]
    rw [e3, Int.mul_assoc r]
  rw [← hv]
  have e4 : (V us L + (q - z) * pw k - V us k) * D = (V us L - (V us k + z * pw k)) * D + q * pw k * D := by
    rw [← Int.add_mul]
    congr 1
    rw [Int.sub_mul]
    omega
  rw [e4]
  omega
theorem small_end (us : List Int) (m D L : Nat) (r : Int) (hul : us.length = L) (hw : Wf us) (hr0 : 0 ≤ r) (hr1 : r < D) (hv : (V us L - V us 0) * D + r * pw 0 + 0 = m) : val us = ((m / D : Nat) : Int) ∧ r = ((m % D : Nat) : Int) := by
  have h : val us * D + r = m := by
    rw [V_zero, Int.sub_zero, pw_zero, Int.mul_one] at hv
    unfold val
    rw [hul]
    omega
  have hd : (0 : Int) < D := by omega
  have h0 := V_nonneg hw us.length
  rw [Int.natCast_ediv, Int.natCast_emod, ← h]
  constructor
  · rw [Int.add_comm, Int.add_mul_ediv_right _ _ (by omega), Int.ediv_eq_zero_of_lt hr0 hr1]; omega
  · rw [Int.add_comm, Int.add_mul_emod_self_right, Int.emod_eq_of_lt hr0 hr1]
set_option maxHeartbeats 1000000 in
theorem small_any (A : Option Addr) (m : Nat) (D : Nat) (c base : Nat) (w : World) (ho : Own w base A c (wd m)) (hd0 : 0 < D) (hd1 : D < 4294967296) (lm : (wd m).length ≤ 8193) (Q R : Nat) (hQ : m / D = Q) (hR : m % D = R) :
    Calls Tryz.prog 177 #[.slice A (wd m).length c, .int .u32 D] w fun e w' => e = .returned (.tuple #[.slice A (wd Q).length c, .int .u32 R]) ∧ Own w' base A c (wd Q) ∧ w.grownBy w' (A.map (·.block)) := by
  have HW := Lib.hid (wf_wd m)
  have HO := Lib.hid ho
  have HG := Lib.hid (World.grownBy.refl w (A.map (·.block)))
  have HF := Lib.hid ho.form
  have hc := ho.rd.capm
  have HQQ := Lib.hid hQ
  have HRR := Lib.hid hR
  clear ho hQ hR
  go_enter Tryz.func177, Tryz.ntmps177
  go_wp2_with fail
  go_loopw [6, 7] (fun ro i wr => ∃ (k : Nat) (us : List Int) (r : Int), k ≤ (wd m).length ∧ Hid (us.length = (wd m).length) ∧ Hid (Wf us) ∧ 0 ≤ r ∧ r < D ∧ Hid ((V us (wd m).length - V us k) * D + r * pw k + V (wd m) k = m) ∧ Hid (∀ j, j < k → nth us j = nth (wd m) j) ∧ ro = .int .u64 r ∧ i = .int .i64 ((k : Int) - 1) ∧ Hid (Own wr base A c us) ∧ Hid (w.grownBy wr (A.map (·.block)))) (fun _ i _ => (intOf i + 1).toNat)
  case atStart => exact ⟨(wd m).length, wd m, 0, by omega, rfl, HW.out, by omega, by omega, by show _ = _; have := val_wd m; unfold val at this; rw [Int.sub_self, Int.zero_mul, Int.zero_mul]; omega, fun _ _ => rfl, rfl, rfl, HO, HG⟩
  case round =>
    clear HO HG
    obtain ⟨k, us, r, hk, HUL, HW', hr0, hr1, HV, HR, rfl, rfl, HO, HX⟩ := hrel
    cases k with
    | zero =>
      have he := small_end us m D _ r HUL.out HW'.out hr0 hr1 HV.out
      rw [HQQ.out, HRR.out] at he
      have HE := Lib.hid he.1
      have HM := Lib.hid he.2
      clear he
      go_wp2_with fail
      refine (cut_own _ us _ _ _ _ HO.out HUL.out HW'.out _ HE.out).mono ?_; rintro e w' ⟨rfl, HO2, rfl⟩
      have HO3 := Lib.hid HO2
      clear HO2
      go_wp2_with fail
      go_ret2
      exact ⟨by rw [HM.out]; rfl, HO3.out, HX.out⟩
    | succ k =>
      have e1 : (((k + 1 : Nat) : Int) - 1) = (k : Int) := by omega
      rw [e1]
      clear e1
      obtain ⟨g, rfl⟩ : ∃ g, A = some ⟨g, 0, none⟩ := by
        rcases HF.out with h | ⟨g, h, _⟩
        · obtain ⟨a, ha⟩ := HO.out.rd.some_ (by have := HUL.out; omega)
          rw [h] at ha; cases ha
        · exact ⟨g, h⟩
      have hco := HO.out.cell k (by have := HUL.out; omega)
      rw [HR.out k (by omega)] at hco
      have hfo := HO.out.free k
      have bx := nth_wf (wf_wd m) k
      obtain ⟨x, hx⟩ : ∃ x, x = nth (wd m) k := ⟨_, rfl⟩
      rw [← hx] at hco bx
      have Hx := Lib.hid hx
      clear hx
      have ho := or_word r x ⟨hr0, by omega⟩ bx
      have hq := quo_lt r x D hr0 hr1 bx
      have HV2 := Lib.hid (small_round us (wd m) k (wd m).length r D m (by have := HUL.out; omega) (by omega) HV.out)
      rw [← Hx.out] at HV2
      have hm0 := Int.emod_nonneg (r * 4294967296 + x) (show (D : Int) ≠ 0 by omega)
      have hm1 := Int.emod_lt_of_pos (r * 4294967296 + x) (show (0 : Int) < D by omega)
      have hdz : ((D : Int) == 0) = false := beq_eq_false_iff_ne.2 (by omega)
      go_wp2_with fail
      go_roundw
      case rel =>
        exact ⟨k, _, _, by omega, by unfold Hid; rw [List.length_set]; exact HUL.out, wf_set HW'.out _ _ hq.1 hq.2, hm0, hm1, HV2.out, fun j hj => by rw [nth_set_ne _ _ _ _ (by omega)]; exact HR.out j (by omega), rfl, rfl, (HO.out.set k _).1, grown_trans HX.out (HO.out.set k _).2⟩
      case measure => simp [intOf]
end Go.Proofs.YtjoonfegjobgbaaGreatDoor
namespace Go.Proofs.YtjoonfegjobgbaaGreatDoor
open Go.Shelf
def Sh.lays128_ren : Go.Shelf.Ren := ⟨fun | 128 => 213 | n => n, fun | 51 => 46 | 3 => 3 | 4 => 4 | 46 => 150 | 5 => 5 | 9 => 9 | n => n, fun | n => n⟩
def Sh.lays133_ren : Go.Shelf.Ren := ⟨fun | 133 => 178 | 128 => 213 | n => n, fun | 51 => 46 | 3 => 3 | 4 => 4 | 46 => 150 | 5 => 5 | 9 => 9 | n => n, fun | n => n⟩
theorem Sh.lays133 : Go.Proofs.Lays.n133 Tryz.prog Sh.lays133_ren := {
  mixed := by kernel_rfl
  f128 := Tryz.func213.trans (congrArg some (by kernel_rfl))
  f133 := Tryz.func178.trans (congrArg some (by kernel_rfl))
  t3 := Tryz.underlying3
  a3 := Tryz.isAgg3
  z3 := Tryz.sizeOf3
  v3 := Tryz.zeroValue3
  t4 := Tryz.underlying4
  a4 := Tryz.isAgg4
  z4 := Tryz.sizeOf4
  v4 := Tryz.zeroValue4
  t5 := Tryz.underlying5
  a5 := Tryz.isAgg5
  z5 := Tryz.sizeOf5
  v5 := Tryz.zeroValue5
  t9 := Tryz.underlying9
  a9 := Tryz.isAgg9
  z9 := Tryz.sizeOf9
  v9 := Tryz.zeroValue9
  t46 := Tryz.underlying150
  a46 := Tryz.isAgg150
  z46 := Tryz.sizeOf150
  v46 := Tryz.zeroValue150
  t51 := Tryz.underlying46
  a51 := Tryz.isAgg46
  z51 := Tryz.sizeOf46
  v51 := Tryz.zeroValue46 }
theorem Sh.bits_LeadingZeros32 (x : Int) (w : World) (h0 : 0 ≤ x) (h1 : x ≤ 4294967295) :
    Calls Tryz.prog 178 #[.int .u32 x] w fun e w' => e = .returned (.int .i64 (32 - (Lib.bitLen x.toNat : Int))) ∧ w' = w := Any.bits_LeadingZeros32 Sh.lays133 x w h0 h1
end Go.Proofs.YtjoonfegjobgbaaGreatDoor
namespace Go.Proofs.YtjoonfegjobgbaaGreatDoor
open Go Go.RowKit
theorem lz_any (x : Nat) (w : World) (hx0 : 0 < x) (hx1 : x < 4294967296) :
    Calls Tryz.prog 178 #[.int .u32 x] w fun e w' => ∃ n : Nat, n ≤ 31 ∧ e = .returned (.int .i64 n) ∧ 2147483648 ≤ x * 2 ^ n ∧ x * 2 ^ n < 4294967296 ∧ w = w' := by
  refine (Sh.bits_LeadingZeros32 (x : Int) w (by omega) (by omega)).mono ?_
  rintro e w' ⟨rfl, rfl⟩
  rw [Int.toNat_natCast]
  obtain ⟨h1, h2, h3⟩ := Lib.bitLenAux_bounds 64 x (by omega) (by omega)
  have hL : Lib.bitLenAux 64 x ≤ 32 := Lib.bitLen_le x 32 (by omega) (by omega)
  refine ⟨32 - Lib.bitLenAux 64 x, by omega, ?_, ?_, ?_, rfl⟩
  · show Ending.returned (.int .i64 (32 - (Lib.bitLenAux 64 x : Int))) = _
    rw [Int.natCast_sub hL]; rfl
  · have e : 2 ^ (Lib.bitLenAux 64 x - 1) * 2 ^ (32 - Lib.bitLenAux 64 x) = 2147483648 := by
      rw [← Nat.pow_add, show Lib.bitLenAux 64 x - 1 + (32 - Lib.bitLenAux 64 x) = 31 by omega]
    have := Nat.mul_le_mul_right (2 ^ (32 - Lib.bitLenAux 64 x)) h2
    omega
  · have e : 2 ^ (Lib.bitLenAux 64 x) * 2 ^ (32 - Lib.bitLenAux 64 x) = 4294967296 := by
      rw [← Nat.pow_add, show Lib.bitLenAux 64 x + (32 - Lib.bitLenAux 64 x) = 32 by omega]
    have := Nat.mul_lt_mul_of_pos_right h3 (Nat.pow_pos (n := 32 - Lib.bitLenAux 64 x) (show 0 < 2 by omega))
    omega
theorem two_pow_split (n : Nat) (hn : n ≤ 32) : (2 : Int) ^ n * 2 ^ (32 - n) = 4294967296 := by
  rw [← Int.pow_add, show n + (32 - n) = 32 by omega]; rfl
theorem two_pow_le (n : Nat) (hn : n ≤ 31) : (1 : Int) ≤ 2 ^ n ∧ (2 : Int) ^ n ≤ 2147483648 := by
  have h := two_pow_split n (by omega)
  have h1 : (0 : Int) < 2 ^ n := Int.pow_pos (by omega)
  have h2 : (2 : Int) * 2 ^ (31 - n) = 2 ^ (32 - n) := by
    rw [show 32 - n = 31 - n + 1 by omega, Int.pow_succ, Int.mul_comm]
  have h3 : (0 : Int) < 2 ^ (31 - n) := Int.pow_pos (by omega)
  refine ⟨h1, ?_⟩
  have h4 : (2 : Int) ^ n * 2 ≤ 2 ^ n * 2 ^ (32 - n) := Int.mul_le_mul_of_nonneg_left (by omega) (by omega)
  omega
theorem up_low (x : Int) (n : Nat) (hn : n ≤ 31) : x * 2 ^ n % 4294967296 = 2 ^ n * (x % 2 ^ (32 - n)) := by
  rw [← two_pow_split n (by omega), Int.mul_comm x, Int.mul_emod_mul_of_pos _ _ (Int.pow_pos (by omega))]
theorem up_word (x z : Int) (n : Nat) (hn : n ≤ 31) (hx : 0 ≤ x ∧ x < 4294967296) (hz0 : 0 ≤ z) (hz : z < 2 ^ n) :
    bits .or .u32 z (IntKind.u64.wrap (x * 2 ^ n) % 4294967296) = z + x * 2 ^ n % 4294967296 ∧ IntKind.u64.wrap (x * 2 ^ n) / 4294967296 % 4294967296 = x * 2 ^ n / 4294967296 ∧
    0 ≤ x * 2 ^ n / 4294967296 ∧ x * 2 ^ n / 4294967296 < 2 ^ n ∧ z + x * 2 ^ n % 4294967296 < 4294967296 := by
  have hp := two_pow_le n hn
  have h0 : 0 ≤ x * 2 ^ n := Int.mul_nonneg hx.1 (by omega)
  have h1 : x * 2 ^ n < 4294967296 * 2 ^ n := Int.mul_lt_mul_of_pos_right hx.2 (by omega)
  have hw : IntKind.u64.wrap (x * 2 ^ n) = x * 2 ^ n := IntWalk.u64_in _ ⟨h0, by omega⟩
  have hq : x * 2 ^ n / 4294967296 < 2 ^ n := Int.ediv_lt_of_lt_mul (by omega) (by omega)
  have hlo := up_low x n hn
  have hq0 : (0 : Int) < 2 ^ (32 - n) := Int.pow_pos (by omega)
  have hr0 := Int.emod_nonneg x (show (2 : Int) ^ (32 - n) ≠ 0 by omega)
  have hr1 := Int.emod_lt_of_pos x hq0
  have hs := two_pow_split n (by omega)
  have hlo2 : x * 2 ^ n % 4294967296 ≤ 4294967296 - 2 ^ n := by
    rw [hlo]
    have : (2 : Int) ^ n * (x % 2 ^ (32 - n)) ≤ 2 ^ n * (2 ^ (32 - n) - 1) := Int.mul_le_mul_of_nonneg_left (by omega) (by omega)
    rw [Int.mul_sub, hs, Int.mul_one] at this
    exact this
  rw [hw]
  refine ⟨?_, by omega, by omega, hq, by omega⟩
  exact bits_join_low .u32 32 (by decide) (fun n h0 h1 => wraps_u32 n h0 h1) n z _ hz0 hz (by omega) (by omega) (by rw [hlo]; exact Int.mul_emod_right _ _) (by omega)
theorem up_round (us xs : List Int) (n k : Nat) (hk : k + 1 < us.length) (hv : V us (k + 1) = V xs k * 2 ^ n) :
    V ((us.set k (nth us k + nth xs k * 2 ^ n % 4294967296)).set (k + 1) (nth xs k * 2 ^ n / 4294967296)) (k + 1 + 1) = V xs (k + 1) * 2 ^ n := by
  rw [V_succ, nth_set_self _ _ _ (by rw [List.length_set]; exact hk), V_set_ge _ _ _ _ (Nat.le_refl _), V_set _ _ _ (by omega) _ (by omega), hv, V_succ, pw_succ, Int.add_mul]
  have e : nth xs k * 2 ^ n = nth xs k * 2 ^ n % 4294967296 + 4294967296 * (nth xs k * 2 ^ n / 4294967296) := by omega
  have e2 : nth xs k * pw k * 2 ^ n = (nth xs k * 2 ^ n) * pw k := by rw [Int.mul_assoc, Int.mul_comm (pw k), ← Int.mul_assoc]
  rw [e2]
  generalize nth xs k * 2 ^ n = t at *
  rw [show nth us k + t % 4294967296 - nth us k = t % 4294967296 by omega]
  have e3 : t * pw k = t % 4294967296 * pw k + t / 4294967296 * (4294967296 * pw k) := by
    rw [← Int.mul_assoc, ← Int.add_mul]; congr 1; omega
  omega
set_option maxHeartbeats 1000000 in
theorem up_any (A : Option Addr) (xs : List Int) (n : Nat) (c : Nat) (w : World) (ha : Rd w A c xs) (hw : Wf xs) (hn : n ≤ 31) (lm : xs.length ≤ 8193) :
    Calls Tryz.prog 179 #[.slice A xs.length c, .int .u64 n] w fun e w' => ∃ g us, e = .returned (.slice (some ⟨g, 0, none⟩) (xs.length + 1) (xs.length + 1)) ∧ us.length = xs.length + 1 ∧ Wf us ∧ val us = val xs * 2 ^ n ∧ Own w' w.heap.size (some ⟨g, 0, none⟩) (xs.length + 1) us ∧ Ext w w' := by
  have HA := Lib.hid ha
  have HW := Lib.hid hw
  have hn0 : (0 : Int) ≤ n := by omega
  clear ha hw
  go_enter Tryz.func179, Tryz.ntmps179
  go_wp2_with (at_make; refine wpList_mk rfl _ _ rfl (xs.length + 1) _ _ rfl rfl (by omega) (by omega) (by omega) ?_; intro w1 hO hG)
  have HO := Lib.hid hO
  have HG := Lib.hid hG
  clear hO hG
  go_loopw [15] (fun i wr => ∃ (k : Nat) (us : List Int), k ≤ xs.length ∧ Hid (us.length = xs.length + 1) ∧ Hid (Wf us) ∧ Hid (V us (k + 1) = V xs k * 2 ^ n) ∧ Hid (nth us k < 2 ^ n) ∧ Hid (∀ j, k + 1 ≤ j → nth us j = 0) ∧ i = .int .i64 k ∧ Hid (Own wr w.heap.size (some ⟨w.heap.size, 0, none⟩) (xs.length + 1) us) ∧ Hid (Ext w wr)) (fun i _ => xs.length - (intOf i).toNat)
  case atStart => exact ⟨0, _, by omega, List.length_replicate, wf_zeros _, by show _ = _; rw [V_zeros, V_zero, Int.zero_mul], by show _ < _; rw [nth_zeros]; exact Int.pow_pos (by omega), fun j _ => nth_zeros _ _, rfl, HO, HG⟩
  case round =>
    clear HO HG
    obtain ⟨k, us, hk, HUL, HU, HV, HT, HZ, rfl, HO, HX⟩ := hrel
    by_cases hkm : k < xs.length
    · obtain ⟨a, rfl, hca⟩ := (HA.out.ext HX.out).at_ k hkm
      have hco := HO.out.cell k (by have := HUL.out; omega)
      have hfo := HO.out.free k
      have hco1 := HO.out.cell (k + 1) (by have := HUL.out; omega)
      rw [HZ.out _ (Nat.le_refl _)] at hco1
      have hfo1 := HO.out.free (k + 1)
      have bx := nth_wf HW.out k
      have bz := nth_wf HU.out k
      obtain ⟨x, hx⟩ : ∃ x, x = nth xs k := ⟨_, rfl⟩
      obtain ⟨z, hz⟩ : ∃ z, z = nth us k := ⟨_, rfl⟩
      rw [← hx] at hca bx
      rw [← hz] at hco bz
      have Hx := Lib.hid hx
      have Hz := Lib.hid hz
      obtain ⟨hq1, hq2, hp1, hp2, hp3⟩ := up_word x z n hn bx bz.1 (by rw [hz]; exact HT.out)
      have HP1 := Lib.hid hq1
      have HP2 := Lib.hid hq2
      have HR := Lib.hid (up_round us xs n k (by have := HUL.out; omega) HV.out)
      rw [← hx, ← hz] at HR
      clear hx hz hq1 hq2
      go_wp2_with fail
      go_roundw
      case rel =>
        rw [HP1.out, HP2.out]
        refine ⟨k + 1, (us.set k (z + x * 2 ^ n % 4294967296)).set (k + 1) (x * 2 ^ n / 4294967296), by omega, by unfold Hid; rw [List.length_set, List.length_set]; exact HUL.out, wf_set (wf_set HU.out _ _ ?_ hp3) _ _ hp1 ?_, HR.out, ?_, fun j hj => ?_, by go_num, ((HO.out.set k _).1.set (k + 1) _).1, (HX.out.setCell (Nat.le_refl _) _).setCell (Nat.le_refl _) _⟩
        · have := Int.emod_nonneg (x * 2 ^ n) (show (4294967296 : Int) ≠ 0 by omega); omega
        · have := two_pow_le n hn; omega
        · unfold Hid; rw [nth_set_self _ _ _ (by rw [List.length_set]; have := HUL.out; omega)]; exact hp2
        · rw [nth_set_ne _ _ _ _ (by omega), nth_set_ne _ _ _ _ (by omega)]; exact HZ.out j (by omega)
      case measure => simp [intOf]; omega
    · have hkl : k = xs.length := by omega
      subst hkl
      have HE := Lib.hid (show val us = val xs * 2 ^ n by unfold val; rw [HUL.out]; exact HV.out)
      go_wp2_with fail
      go_ret
      exact ⟨_, us, rfl, HUL.out, HU.out, HE.out, HO.out, HX.out⟩
theorem or_high (x y : Int) (hx : 0 ≤ x ∧ x < 4294967296) (hy : 0 ≤ y ∧ y < 4294967296) : bits .or .u64 x (y * 4294967296) = x + y * 4294967296 :=
  bits_join_low .u64 64 (by decide) (fun n h0 h1 => wraps_u64 n h0 h1) 32 _ _ (by omega) (by omega) (by omega) (by omega) (by omega) (by omega)
def dwn (x y : Int) (n : Nat) : Int := (x + y * 4294967296) / 2 ^ n % 4294967296
theorem dwn_eq (x y : Int) (n : Nat) (hn : n ≤ 31) (hx : 0 ≤ x ∧ x < 4294967296) : dwn x y n * 2 ^ n = x - x % 2 ^ n + y % 2 ^ n * 4294967296 := by
  unfold dwn
  have hs := two_pow_split n (by omega)
  have hp := two_pow_le n hn
  generalize (2 : Int) ^ n = p at *
  generalize (2 : Int) ^ (32 - n) = q at *
  have e1 : (x + y * 4294967296) / p = x / p + y * q := by
    rw [← hs, show y * (p * q) = (y * q) * p by rw [Int.mul_comm p q, Int.mul_assoc], Int.add_mul_ediv_right _ _ (by omega)]
  have hx2 := Int.mul_ediv_add_emod x p
  have hy2 := Int.mul_ediv_add_emod y p
  have hs0 := Int.emod_nonneg y (show p ≠ 0 by omega)
  have hs1 := Int.emod_lt_of_pos y (show 0 < p by omega)
  have hxs0 := Int.emod_nonneg x (show p ≠ 0 by omega)
  have hq : 0 < q := by
    apply Int.pos_of_mul_pos_right (a := p) <;> omega
  have ha0 : 0 ≤ x / p := Int.ediv_nonneg hx.1 (by omega)
  have ha1 : x / p < q := Int.ediv_lt_of_lt_mul (by omega) (by rw [Int.mul_comm]; omega)
  have e2 : x / p + y * q = x / p + y % p * q + y / p * 4294967296 := by
    rw [← hs, show y / p * (p * q) = p * (y / p) * q by rw [← Int.mul_assoc, Int.mul_comm (y / p) p], Int.add_assoc, ← Int.add_mul]
    congr 2
    omega
  have h3 : y % p * q ≤ (p - 1) * q := Int.mul_le_mul_of_nonneg_right (by omega) (by omega)
  rw [Int.sub_mul, hs, Int.one_mul] at h3
  have h4 : 0 ≤ y % p * q := Int.mul_nonneg hs0 (by omega)
  rw [e1, e2, Int.add_mul_emod_self_right, Int.emod_eq_of_lt (by omega) (by omega), Int.add_mul, Int.mul_assoc, Int.mul_comm q p, hs, Int.mul_comm (x / p) p]
  omega
theorem dwn_bd (x y : Int) (n : Nat) : 0 ≤ dwn x y n ∧ dwn x y n < 4294967296 := by unfold dwn; omega
theorem dwn_round (us xs : List Int) (n k : Nat) (S : Int) (hn : n ≤ 31) (hw : Wf xs) (hk : k < us.length) (hv : V us k * 2 ^ n = V xs k + nth xs k % 2 ^ n * pw k - S) :
    V (us.set k (dwn (nth xs k) (nth xs (k + 1)) n)) (k + 1) * 2 ^ n = V xs (k + 1) + nth xs (k + 1) % 2 ^ n * pw (k + 1) - S := by
  rw [V_succ, V_set_ge _ _ _ _ (Nat.le_refl _), nth_set_self _ _ _ hk, Int.add_mul, hv, Int.mul_assoc, Int.mul_comm (pw k), ← Int.mul_assoc, dwn_eq _ _ _ hn (nth_wf hw k), V_succ, pw_succ, Int.add_mul, Int.sub_mul, Int.mul_assoc (nth xs (k + 1) % 2 ^ n)]
  omega
theorem dwn_end (us : List Int) (m n L : Nat) (hn : n ≤ 31) (hm : (wd m).length = L) (hul : us.length = L) (hv : V us L * 2 ^ n = V (wd m) L + nth (wd m) L % 2 ^ n * pw L - nth (wd m) 0 % 2 ^ n) : val us = ((m / 2 ^ n : Nat) : Int) := by
  have e1 := val_wd m
  unfold val at e1
  rw [hm] at e1
  rw [nth_out (wd m) L (by omega), Int.zero_emod, Int.zero_mul, e1] at hv
  have h0 : nth (wd m) 0 = (m : Int) % 4294967296 := by
    by_cases h : m = 0
    · subst h; rw [wd_zero]; rfl
    · rw [wd_pos m h, nth_cons_zero]; omega
  have hs := two_pow_split n (by omega)
  have hp := two_pow_le n hn
  have h1 : (m : Int) % 4294967296 % 2 ^ n = m % 2 ^ n := Int.emod_emod_of_dvd _ ⟨_, hs.symm⟩
  rw [h0, h1, Int.add_zero] at hv
  have h2 := Int.mul_ediv_add_emod (m : Int) (2 ^ n)
  have h3 : V us L * 2 ^ n = (m : Int) / 2 ^ n * 2 ^ n := by rw [hv, Int.mul_comm ((m : Int) / 2 ^ n)]; omega
  have h4 := Int.eq_of_mul_eq_mul_right (by omega) h3
  unfold val
  rw [hul, h4, Int.natCast_ediv, Int.natCast_pow]
  rfl
set_option maxHeartbeats 1000000 in
theorem down_any (A : Option Addr) (m n : Nat) (c base : Nat) (w : World) (ho : Own w base A c (wd m)) (hn : n ≤ 31) (lm : (wd m).length ≤ 8193) :
    Calls Tryz.prog 183 #[.slice A (wd m).length c, .int .u64 n] w fun e w' => e = .returned (.slice A (wd (m / 2 ^ n)).length c) ∧ Own w' base A c (wd (m / 2 ^ n)) ∧ w.grownBy w' (A.map (·.block)) := by
  have HW := Lib.hid (wf_wd m)
  have HO := Lib.hid ho
  have HG := Lib.hid (World.grownBy.refl w (A.map (·.block)))
  have HF := Lib.hid ho.form
  have hc := ho.rd.capm
  have hn0 : (0 : Int) ≤ n := by omega
  clear ho
  go_enter Tryz.func183, Tryz.ntmps183
  go_wp2_with fail
  go_loopw [9] (fun i wr => ∃ (k : Nat) (us : List Int), k ≤ (wd m).length ∧ Hid (us.length = (wd m).length) ∧ Hid (Wf us) ∧ Hid (V us k * 2 ^ n = V (wd m) k + nth (wd m) k % 2 ^ n * pw k - nth (wd m) 0 % 2 ^ n) ∧ Hid (∀ j, k ≤ j → nth us j = nth (wd m) j) ∧ i = .int .i64 k ∧ Hid (Own wr base A c us) ∧ Hid (w.grownBy wr (A.map (·.block)))) (fun i _ => (wd m).length - (intOf i).toNat)
  case atStart => exact ⟨0, wd m, by omega, rfl, HW.out, by show _ = _; rw [V_zero, pw_zero]; omega, fun _ _ => rfl, rfl, HO, HG⟩
  case round =>
    clear HO HG
    obtain ⟨k, us, hk, HUL, HU, HV, HR, rfl, HO, HX⟩ := hrel
    by_cases hkm : k < (wd m).length
    · obtain ⟨g, rfl⟩ : ∃ g, A = some ⟨g, 0, none⟩ := by
        rcases HF.out with h | ⟨g, h, _⟩
        · obtain ⟨a, ha⟩ := HO.out.rd.some_ (by have := HUL.out; omega)
          rw [h] at ha; cases ha
        · exact ⟨g, h⟩
      have hco := HO.out.cell k (by have := HUL.out; omega)
      rw [HR.out k (Nat.le_refl _)] at hco
      have hfo := HO.out.free k
      have bx := nth_wf (wf_wd m) k
      have by_ := nth_wf (wf_wd m) (k + 1)
      have HD := Lib.hid (dwn_round us (wd m) n k _ hn (wf_wd m) (by have := HUL.out; omega) HV.out)
      have hb := dwn_bd (nth (wd m) k) (nth (wd m) (k + 1)) n
      have HRk : ∀ v, Hid (∀ j, k + 1 ≤ j → nth (us.set k v) j = nth (wd m) j) := fun v j hj => by rw [nth_set_ne _ _ _ _ (by omega)]; exact HR.out j (by omega)
      by_cases hk1 : k + 1 < (wd m).length
      · have hco1 := HO.out.cell (k + 1) (by have := HUL.out; omega)
        rw [HR.out (k + 1) (by omega)] at hco1
        have hor := or_high (nth (wd m) k) (nth (wd m) (k + 1)) bx by_
        have HE := Lib.hid (show (nth (wd m) k + nth (wd m) (k + 1) * 4294967296) / 2 ^ n % 4294967296 = dwn (nth (wd m) k) (nth (wd m) (k + 1)) n from rfl)
        go_wp2_with fail
        go_roundw
        case rel =>
          rw [HE.out]
          exact ⟨k + 1, _, by omega, by unfold Hid; rw [List.length_set]; exact HUL.out, wf_set HU.out _ _ hb.1 hb.2, HD.out, HRk _, by go_num, (HO.out.set k _).1, grown_trans HX.out (HO.out.set k _).2⟩
        case measure => simp [intOf]; omega
      · have HE := Lib.hid (show nth (wd m) k / 2 ^ n % 4294967296 = dwn (nth (wd m) k) (nth (wd m) (k + 1)) n by
          unfold dwn; rw [nth_out (wd m) (k + 1) (by omega), Int.zero_mul, Int.add_zero])
        go_wp2_with fail
        go_roundw
        case rel =>
          rw [HE.out]
          exact ⟨k + 1, _, by omega, by unfold Hid; rw [List.length_set]; exact HUL.out, wf_set HU.out _ _ hb.1 hb.2, HD.out, HRk _, by go_num, (HO.out.set k _).1, grown_trans HX.out (HO.out.set k _).2⟩
        case measure => simp [intOf]; omega
    · have hkl : k = (wd m).length := by omega
      subst hkl
      have HE := Lib.hid (dwn_end us m n _ hn rfl HUL.out HV.out)
      go_wp2_with fail
      refine (cut_own _ us _ _ _ _ HO.out HUL.out HU.out _ HE.out).mono ?_; rintro e w' ⟨rfl, HO2, rfl⟩
      have HO3 := Lib.hid HO2
      clear HO2
      go_wp2_with fail
      go_ret
      exact ⟨rfl, HO3.out, HX.out⟩
end Go.Proofs.YtjoonfegjobgbaaGreatDoor
namespace Go.Proofs.YtjoonfegjobgbaaGreatDoor
structure Guess (U D top u2 v1 v2 P Ul Dl : Int) : Prop where
  hU : U = (top * 4294967296 + u2) * P + Ul
  hD : D = (v1 * 4294967296 + v2) * P + Dl
  ul : 0 ≤ Ul ∧ Ul < P
  dl : 0 ≤ Dl ∧ Dl < P
  u2 : 0 ≤ u2 ∧ u2 < 4294967296
  v2 : 0 ≤ v2 ∧ v2 < 4294967296
  v1 : 2147483648 ≤ v1 ∧ v1 < 4294967296
  top : 0 ≤ top
  lt : U < D * 4294967296
section
variable {U D top u2 v1 v2 P Ul Dl : Int} (g : Guess U D top u2 v1 v2 P Ul Dl)
include g
theorem Guess.hP : 0 < P := by have := g.ul; omega
theorem Guess.topLt : top < (v1 + 1) * 4294967296 := by
  have hP := g.hP
  have h1 : U < (v1 + 1) * 4294967296 * (P * 4294967296) := by
    have h : D < (v1 * 4294967296 + 4294967296) * P := by
      have a : (v1 * 4294967296 + v2 + 1) * P ≤ (v1 * 4294967296 + 4294967296) * P := Int.mul_le_mul_of_nonneg_right (by have := g.v2; omega) (by omega)
      rw [Int.add_mul _ 1, Int.one_mul] at a
      have := g.hD; have := g.dl; omega
    have e : (v1 + 1) * 4294967296 * (P * 4294967296) = (v1 * 4294967296 + 4294967296) * P * 4294967296 := by
      rw [← Int.mul_assoc, Int.add_mul, Int.one_mul]
    rw [e]
    have := g.lt
    omega
  have h2 : top * (P * 4294967296) ≤ U := by
    have a : top * 4294967296 * P ≤ (top * 4294967296 + u2) * P := Int.mul_le_mul_of_nonneg_right (by have := g.u2; omega) (by omega)
    rw [show top * (P * 4294967296) = top * 4294967296 * P by rw [Int.mul_comm P, Int.mul_assoc]]
    have := g.hU; have := g.ul; omega
  exact Int.lt_of_mul_lt_mul_right (a := P * 4294967296) (by omega) (by omega)
theorem Guess.below (q : Int) (h : (top * 4294967296 + u2 + 1) ≤ q * (v1 * 4294967296 + v2)) (hq : 0 ≤ q) : U < q * D := by
  have hP := g.hP
  have h1 : (top * 4294967296 + u2 + 1) * P ≤ q * (v1 * 4294967296 + v2) * P := Int.mul_le_mul_of_nonneg_right h (by omega)
  rw [Int.add_mul _ 1, Int.one_mul, Int.mul_assoc q] at h1
  have h2 : q * D = q * ((v1 * 4294967296 + v2) * P) + q * Dl := by rw [g.hD, Int.mul_add]
  have h3 : 0 ≤ q * Dl := Int.mul_nonneg hq g.dl.1
  have := g.hU; have := g.ul; omega
theorem Guess.above (q : Int) (h : q * (v1 * 4294967296 + v2) ≤ top * 4294967296 + u2) (_ : 0 ≤ q) (hq1 : q ≤ 4294967296) : q * D ≤ U + D := by
  have hP := g.hP
  have h1 : q * (v1 * 4294967296 + v2) * P ≤ (top * 4294967296 + u2) * P := Int.mul_le_mul_of_nonneg_right h (by omega)
  rw [Int.mul_assoc q] at h1
  have h2 : q * D = q * ((v1 * 4294967296 + v2) * P) + q * Dl := by rw [g.hD, Int.mul_add]
  have h3 : q * Dl ≤ 4294967296 * P := Int.mul_le_mul hq1 (by have := g.dl; omega) g.dl.1 (by omega)
  have h4 : 4294967296 * P ≤ (v1 * 4294967296 + v2) * P := Int.mul_le_mul_of_nonneg_right (by have := g.v1; have := g.v2; omega) (by omega)
  have := g.hU; have := g.hD; have := g.ul; have := g.dl; omega
theorem Guess.begin : U < (top / v1 + 1) * D ∧ top / v1 ≤ 4294967297 ∧ 0 ≤ top / v1 ∧ top / v1 * v1 + top % v1 = top ∧ 0 ≤ top % v1 ∧ top % v1 < 4294967296 := by
  have hv := g.v1
  have e := Int.mul_ediv_add_emod top v1
  have m0 := Int.emod_nonneg top (show v1 ≠ 0 by omega)
  have m1 := Int.emod_lt_of_pos top (show 0 < v1 by omega)
  have q0 : 0 ≤ top / v1 := Int.ediv_nonneg g.top (by omega)
  refine ⟨g.below _ ?_ (by omega), ?_, q0, by rw [Int.mul_comm]; exact e, m0, by omega⟩
  · have h : (top + 1) * 4294967296 ≤ (top / v1 + 1) * v1 * 4294967296 := by
      apply Int.mul_le_mul_of_nonneg_right _ (by omega)
      rw [Int.add_mul, Int.one_mul, Int.mul_comm]
      omega
    have h2 : 0 ≤ (top / v1 + 1) * v2 := Int.mul_nonneg (by omega) g.v2.1
    rw [Int.mul_add, ← Int.mul_assoc]
    have := g.u2
    omega
  · have := g.topLt
    have h : top / v1 < 4294967298 := Int.ediv_lt_of_lt_mul (by omega) (by omega)
    omega
theorem Guess.less (q r : Int) (hq : 0 ≤ q) (he : q * v1 + r = top) (h : 4294967296 ≤ q ∨ r * 4294967296 + u2 < q * v2) : U < q * D := by
  rcases h with h | h
  · have hD : 0 ≤ D := by
      have := g.hD; have := g.dl
      have h : 0 ≤ (v1 * 4294967296 + v2) * P := Int.mul_nonneg (by have := g.v1; have := g.v2; omega) (by have := g.hP; omega)
      omega
    have h1 : 4294967296 * D ≤ q * D := Int.mul_le_mul_of_nonneg_right h hD
    have := g.lt
    omega
  · refine g.below q ?_ hq
    have e : q * (v1 * 4294967296 + v2) = q * v1 * 4294967296 + q * v2 := by rw [Int.mul_add, ← Int.mul_assoc]
    rw [e, show q * v1 = top - r by omega]
    omega
theorem Guess.good (q r : Int) (hq : 0 ≤ q) (hq1 : q < 4294967296) (he : q * v1 + r = top) (h : q * v2 ≤ r * 4294967296 + u2) : q * D ≤ U + D := by
  refine g.above q ?_ hq (by omega)
  have e : q * (v1 * 4294967296 + v2) = q * v1 * 4294967296 + q * v2 := by rw [Int.mul_add, ← Int.mul_assoc]
  rw [e, show q * v1 = top - r by omega]
  omega
theorem Guess.stop (q r : Int) (hq : 0 ≤ q) (hq1 : q ≤ 4294967296) (he : q * v1 + r = top) (h : 4294967296 ≤ r) : q < 4294967296 ∧ q * D ≤ U + D := by
  have hv2 := g.v2
  have h1 : q * v2 ≤ 4294967296 * 4294967296 := Int.mul_le_mul hq1 (by omega) hv2.1 (by omega)
  refine ⟨?_, g.above q ?_ hq (by omega)⟩
  · have := g.topLt
    have : q ≠ 4294967296 := by
      intro e
      subst e
      omega
    omega
  · have e : q * (v1 * 4294967296 + v2) = q * v1 * 4294967296 + q * v2 := by rw [Int.mul_add, ← Int.mul_assoc]
    rw [e, show q * v1 = top - r by omega]
    have := g.u2
    omega
end
theorem Guess.of_words (us vs : List Int) (n : Nat) (hu : Wf us) (hv : Wf vs) (htop : 2147483648 ≤ nth vs (n + 1)) (hlt : V us (n + 3) < V vs (n + 2) * 4294967296) :
    Guess (V us (n + 3)) (V vs (n + 2)) (nth us (n + 2) * 4294967296 + nth us (n + 1)) (nth us n) (nth vs (n + 1)) (nth vs n) (pw n) (V us n) (V vs n) where
  hU := by
    rw [V_succ, V_succ, V_succ, pw_succ (n + 1), pw_succ n]
    simp only [Int.add_mul, Int.mul_assoc]
    omega
  hD := by
    rw [V_succ, V_succ, pw_succ n]
    simp only [Int.add_mul, Int.mul_assoc]
    omega
  ul := ⟨V_nonneg hu n, V_lt hu n⟩
  dl := ⟨V_nonneg hv n, V_lt hv n⟩
  u2 := nth_wf hu n
  v2 := nth_wf hv n
  v1 := ⟨htop, (nth_wf hv (n + 1)).2⟩
  top := by have := nth_wf hu (n + 2); have := nth_wf hu (n + 1); omega
  lt := hlt
end Go.Proofs.YtjoonfegjobgbaaGreatDoor
namespace Go.Proofs.YtjoonfegjobgbaaGreatDoor
open Go Go.RowKit
set_option maxHeartbeats 2000000 in
theorem guess_any (A B : Option Addr) (us vs : List Int) (n c d : Nat) (w : World) (ha : Rd w A c us) (hb : Rd w B d vs) (hul : us.length = n + 3) (hvl : vs.length = n + 2) (hu : Wf us) (hv : Wf vs) (htop : 2147483648 ≤ nth vs (n + 1)) (hlt : V us (n + 3) < V vs (n + 2) * 4294967296) (hn : n ≤ 8192) (L : Nat) (hL : L = n + 2) :
    Calls Tryz.prog 180 #[.slice A (L + 1) c, .slice B L d] w fun e w' => ∃ q : Nat, q < 4294967296 ∧ e = .returned (.int .u64 q) ∧ V us (n + 3) < (q + 1) * V vs (n + 2) ∧ q * V vs (n + 2) ≤ V us (n + 3) + V vs (n + 2) ∧ Ext w w' := by
  have G := Lib.hid (Guess.of_words us vs n hu hv htop hlt)
  obtain ⟨a, rfl, ca2⟩ := ha.at_ (n + 2) (by omega)
  obtain ⟨b, rfl, cb1⟩ := hb.at_ (n + 1) (by omega)
  have ca1 := ha.cell (n + 1) (by omega)
  have ca0 := ha.cell n (by omega)
  have cb0 := hb.cell n (by omega)
  have ba2 := nth_wf hu (n + 2)
  have ba1 := nth_wf hu (n + 1)
  have ba0 := nth_wf hu n
  have bb1 := nth_wf hv (n + 1)
  have bb0 := nth_wf hv n
  obtain ⟨x0, hx0⟩ : ∃ x, x = nth us n := ⟨_, rfl⟩
  obtain ⟨x1, hx1⟩ : ∃ x, x = nth us (n + 1) := ⟨_, rfl⟩
  obtain ⟨x2, hx2⟩ : ∃ x, x = nth us (n + 2) := ⟨_, rfl⟩
  obtain ⟨v2, hv2⟩ : ∃ x, x = nth vs n := ⟨_, rfl⟩
  obtain ⟨v1, hv1⟩ : ∃ x, x = nth vs (n + 1) := ⟨_, rfl⟩
  rw [← hx0] at ca0 ba0
  rw [← hx1] at ca1 ba1
  rw [← hx2] at ca2 ba2
  rw [← hv2] at cb0 bb0
  rw [← hv1] at cb1 bb1 htop
  rw [← hx0, ← hx1, ← hx2, ← hv1, ← hv2] at G
  have HB := Lib.hid G.out.begin
  have ho1 := or_word x2 x1 ba2 ba1
  obtain ⟨top, ht⟩ : ∃ t, t = x2 * 4294967296 + x1 := ⟨_, rfl⟩
  have tb : 0 ≤ top ∧ top ≤ 18446744073709551615 := by omega
  have HT := Lib.hid ht
  rw [← ht] at G HB
  have hdz : (v1 == 0) = false := beq_eq_false_iff_ne.2 (by omega)
  clear ha hb hu hv hul hvl hx0 hx1 hx2 hv1 hv2 hlt
  rw [← ht] at ho1
  clear ht
  obtain ⟨K1, hK1⟩ : ∃ K, K = n + 1 := ⟨_, rfl⟩
  have w1 : IntKind.i64.wrap ((L : Int) - 1) = K1 := by rw [IntWalk.i64_in _ (by omega)]; omega
  have w2 : IntKind.i64.wrap ((L : Int) - 2) = n := by rw [IntWalk.i64_in _ (by omega)]; omega
  have b1 : (K1 : Int) < (L : Int) := by omega
  have b2 : (n : Int) < (L : Int) := by omega
  have b3 : (K1 : Int) < (L : Int) + 1 := by omega
  have b4 : (n : Int) < (L : Int) + 1 := by omega
  rw [← hL] at ca2
  rw [← hK1] at ca1 cb1
  have HL := Lib.hid hL
  clear hL hK1
  go_enter Tryz.func180, Tryz.ntmps180
  go_wp2_with fail
  go_quiet (fail)
  go_wp2_with fail
  go_quiet (fail)
  go_wp2_with fail
  go_loopw [7, 8] (fun qq rr wr => ∃ q r : Int, 0 ≤ q ∧ q ≤ 4294967297 ∧ 0 ≤ r ∧ r < 4294967296 ∧ Hid (q * v1 + r = top) ∧ Hid (V us (n + 3) < (q + 1) * V vs (n + 2)) ∧ qq = .int .u64 q ∧ rr = .int .u64 r ∧ Hid (Ext w wr)) (fun qq _ _ => (intOf qq).toNat)
  case atStart => exact ⟨_, _, HB.out.2.2.1, HB.out.2.1, HB.out.2.2.2.2.1, HB.out.2.2.2.2.2, HB.out.2.2.2.1, HB.out.1, rfl, rfl, ((Ext.refl w).drewN _).drewN _⟩
  case round =>
    obtain ⟨q, r, hq0, hq1, hr0, hr1, he, hlt, rfl, rfl, HX⟩ := hrel
    have ca0' := HX.out.cell ca0
    have cb0' := HX.out.cell cb0
    have cb1' := HX.out.cell cb1
    clear ca0 cb0 cb1 ca1 ca2
    have ho2 := or_word r x0 ⟨hr0, hr1⟩ ba0
    have pq0 : 0 ≤ q * v2 := Int.mul_nonneg hq0 bb0.1
    have pq1 : q * v2 ≤ 18446744073709551615 := by
      have : q * v2 ≤ 4294967297 * 4294967295 := Int.mul_le_mul hq1 (by omega) bb0.1 (by omega)
      omega
    by_cases hbig : 4294967296 ≤ q
    · have hg1 : (q / 4294967296 != 0) = true := by rw [bne_iff_ne]; omega
      have hls := Lib.hid (G.out.less q r hq0 he.out (.inl hbig))
      by_cases hr2 : 4294967296 ≤ r + v1
      · have hg2 : ((r + v1) / 4294967296 != 0) = true := by rw [bne_iff_ne]; omega
        have hst := Lib.hid (G.out.stop (q - 1) (r + v1) (by omega) (by omega) (by have := he.out; rw [Int.sub_mul, Int.one_mul]; omega) hr2)
        go_wp2_with fail
        go_quiet (fail)
        go_wp2_with fail
        go_ret
        exact ⟨(q - 1).toNat, by have := hst.out.1; omega, by rw [Int.toNat_of_nonneg (by omega)]; rfl, by rw [Int.toNat_of_nonneg (by omega), Int.sub_add_cancel]; exact hls.out, by rw [Int.toNat_of_nonneg (by omega)]; exact hst.out.2, HX.out.drewN _⟩
      · have hg2 : ((r + v1) / 4294967296 != 0) = false := by rw [bne_eq_false_iff_eq]; omega
        go_wp2_with fail
        go_quiet (fail)
        go_wp2_with fail
        exact ⟨⟨q - 1, r + v1, by omega, by omega, by omega, by omega, by show _ = _; have := he.out; rw [Int.sub_mul, Int.one_mul]; omega, by show _ < _; rw [Int.sub_add_cancel]; exact hls.out, rfl, rfl, HX.out.drewN _⟩, by simp [intOf]; omega⟩
    · have hg1 : (q / 4294967296 != 0) = false := by rw [bne_eq_false_iff_eq]; omega
      by_cases hbg : r * 4294967296 + x0 < q * v2
      · have hq2 : 1 ≤ q := by
          have : q ≠ 0 := fun e => by subst e; rw [Int.zero_mul] at hbg; omega
          omega
        have hls := Lib.hid (G.out.less q r hq0 he.out (.inr hbg))
        by_cases hr2 : 4294967296 ≤ r + v1
        · have hg2 : ((r + v1) / 4294967296 != 0) = true := by rw [bne_iff_ne]; omega
          have hst := Lib.hid (G.out.stop (q - 1) (r + v1) (by omega) (by omega) (by have := he.out; rw [Int.sub_mul, Int.one_mul]; omega) hr2)
          go_wp2_with fail
          go_quiet (fail)
          go_wp2_with fail
          go_ret
          exact ⟨(q - 1).toNat, by have := hst.out.1; omega, by rw [Int.toNat_of_nonneg (by omega)]; rfl, by rw [Int.toNat_of_nonneg (by omega), Int.sub_add_cancel]; exact hls.out, by rw [Int.toNat_of_nonneg (by omega)]; exact hst.out.2, HX.out.drewN _⟩
        · have hg2 : ((r + v1) / 4294967296 != 0) = false := by rw [bne_eq_false_iff_eq]; omega
          go_wp2_with fail
          go_quiet (fail)
          go_wp2_with fail
          exact ⟨⟨q - 1, r + v1, by omega, by omega, by omega, by omega, by show _ = _; have := he.out; rw [Int.sub_mul, Int.one_mul]; omega, by show _ < _; rw [Int.sub_add_cancel]; exact hls.out, rfl, rfl, HX.out.drewN _⟩, by simp [intOf]; omega⟩
      · have hgd := Lib.hid (G.out.good q r hq0 (by omega) he.out (by omega))
        go_wp2_with fail
        go_quiet (fail)
        go_wp2_with fail
        go_ret
        exact ⟨q.toNat, by omega, by rw [Int.toNat_of_nonneg hq0]; rfl, by rw [Int.toNat_of_nonneg hq0]; exact hlt.out, by rw [Int.toNat_of_nonneg hq0]; exact hgd.out, HX.out.drewN _⟩
end Go.Proofs.YtjoonfegjobgbaaGreatDoor
