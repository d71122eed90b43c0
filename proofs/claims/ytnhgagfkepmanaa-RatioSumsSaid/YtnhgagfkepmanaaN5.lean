/- nat.less, nat.Sub. -/
import Derived.Test.YtnhgagfkepmanaaN4
namespace Go.Proofs.Ytnhgagfkepmanaa
open Go Go.RowKit

/-- what is owed behind a difference -/
def owed (t : Int) : Int := if t < 0 then 1 else 0
theorem owed_01 (t : Int) : 0 ≤ owed t ∧ owed t ≤ 1 := by unfold owed; split <;> omega
theorem sub_word (x b y : Int) (hx : 0 ≤ x ∧ x < 4294967296) (hy : 0 ≤ y ∧ y < 4294967296) (hb : 0 ≤ b ∧ b ≤ 1) :
    IntKind.u64.wrap (IntKind.u64.wrap (x - b) - y) % 4294967296 = (x - b - y) % 4294967296 ∧ IntKind.u64.wrap (IntKind.u64.wrap (x - b) - y) / 9223372036854775808 = owed (x - b - y) := by
  rw [IntKind.wrap_u64, IntKind.wrap_u64]
  unfold owed
  split <;> constructor <;> omega
theorem sub_word0 (x b : Int) (hx : 0 ≤ x ∧ x < 4294967296) (hb : 0 ≤ b ∧ b ≤ 1) :
    IntKind.u64.wrap (x - b) % 4294967296 = (x - b) % 4294967296 ∧ IntKind.u64.wrap (x - b) / 9223372036854775808 = owed (x - b) := by
  rw [IntKind.wrap_u64]
  unfold owed
  split <;> constructor <;> omega
/-- a round of a difference: the word, and what is owed -/
theorem sub_round (us xs ys : List Int) (k : Nat) (b : Int) (hk : k < us.length) (hx : 0 ≤ nth xs k ∧ nth xs k < 4294967296) (hy : 0 ≤ nth ys k ∧ nth ys k < 4294967296) (hb : 0 ≤ b ∧ b ≤ 1) (hv : V us k + V ys k = V xs k + b * pw k) :
    V (us.set k ((nth xs k - b - nth ys k) % 4294967296)) (k + 1) + V ys (k + 1) = V xs (k + 1) + owed (nth xs k - b - nth ys k) * pw (k + 1) := by
  rw [V_succ, V_set_ge _ _ _ _ (Nat.le_refl _), nth_set_self _ _ _ hk, pw_succ, V_succ, V_succ]
  have e : (nth xs k - b - nth ys k) % 4294967296 = nth xs k - b - nth ys k + owed (nth xs k - b - nth ys k) * 4294967296 := by unfold owed; split <;> omega
  rw [e]
  generalize owed (nth xs k - b - nth ys k) = o
  simp only [Int.add_mul, Int.sub_mul, Int.mul_assoc]
  omega
theorem sub_end (us : List Int) (m n l : Nat) (b : Int) (hm : (wd m).length = l) (hn : n ≤ m) (hw : Wf us) (hul : us.length = l) (hb : 0 ≤ b ∧ b ≤ 1) (hv : V us l + V (wd n) l = V (wd m) l + b * pw l) :
    val us = ((m - n : Nat) : Int) := by
  have e1 := val_wd m
  have e2 := val_wd n
  have := wd_len_mono hn
  rw [← V_out _ l (by omega)] at e1 e2
  have h1 := V_lt hw l
  have h2 := V_nonneg hw l
  have h3 := pw_pos l
  unfold val
  rw [hul]
  have hb0 : b = 0 := by
    have : b = 0 ∨ b = 1 := by omega
    rcases this with h | h
    · exact h
    · rw [h, Int.one_mul] at hv
      omega
  rw [hb0, Int.zero_mul] at hv
  omega

set_option maxHeartbeats 1000000 in
theorem less_any (A B : Option Addr) (m n : Nat) (c d base : Nat) (w : World) (ho : Own w base A c (wd m)) (hb : Rd w B d (wd n)) (hne : ∀ a b, A = some a → B = some b → 0 < (wd n).length → a.block ≠ b.block) (hnm : n ≤ m) (lm : (wd m).length ≤ 8192) :
    Calls Try.prog 66 #[.slice A (wd m).length c, .slice B (wd n).length d] w fun e w' => e = .returned (.slice A (wd (m - n)).length c) ∧ Own w' base A c (wd (m - n)) ∧ w.grownBy w' (A.map (·.block)) := by
  rcases ho.form with rfl | ⟨g, rfl, hg1, hg2⟩
  · have hc := ho.rd
    obtain rfl : c = 0 := hc.none_ rfl
    have hz : m = 0 := wd_len_zero.1 (Nat.le_zero.1 hc.cap)
    subst hz
    obtain rfl : n = 0 := Nat.le_zero.1 hnm
    have HT := Lib.hid (cut_any none (wd 0) 0 w hc)
    rw [tl_wd] at HT
    have HL := Lib.hid (show (wd 0).length = 0 by rw [wd_zero]; rfl)
    have HO := Lib.hid ho
    rw [HL.out] at HT ⊢
    clear ho hc hb hne
    go_enter Try.func66, Try.ntmps66
    go_wp2_with fail
    go_loop [10] (fun i => i = .int .i64 0) (fun _ => 0)
    case atStart => rfl
    case round =>
      obtain rfl := hrel
      go_wp2_with fail
      refine HT.out.mono ?_; rintro e w' ⟨rfl, rfl⟩
      go_wp2_with fail
      go_ret
      exact ⟨rfl, HO.out, World.grownBy.refl _ _⟩
  · have HN := Lib.hid hne
    have HB := Lib.hid hb
    have HW := Lib.hid (wf_wd m)
    have HO := Lib.hid ho
    have HG := Lib.hid (World.grownBy.refl w (some g))
    clear ho hb hne
    go_enter Try.func66, Try.ntmps66
    go_wp2_with fail
    go_loopw [5, 10] (fun bo i wr => ∃ (k : Nat) (us : List Int) (b : Int), k ≤ (wd m).length ∧ us.length = (wd m).length ∧ Hid (Wf us) ∧ 0 ≤ b ∧ b ≤ 1 ∧ Hid (V us k + V (wd n) k = V (wd m) k + b * pw k) ∧ Hid (∀ j, k ≤ j → nth us j = nth (wd m) j) ∧ bo = .int .u64 b ∧ i = .int .i64 k ∧ Hid (Own wr base (some ⟨g, 0, none⟩) c us) ∧ Hid (w.grownBy wr (some g))) (fun _ i _ => (wd m).length - (intOf i).toNat)
    case atStart => exact ⟨0, wd m, 0, by omega, rfl, HW.out, by omega, by omega, by show _ = _; simp [V_zero], fun _ _ => rfl, rfl, rfl, HO, HG⟩
    case round =>
      clear HO HG
      obtain ⟨k, us, b, hk, hul, hw, hb0, hb1, hv, hrest, rfl, rfl, HO, HX⟩ := hrel
      have HUL := Lib.hid hul
      clear hul
      by_cases hkm : k < (wd m).length
      · have hco := HO.out.cell k (by have := HUL.out; omega)
        rw [hrest.out k (Nat.le_refl _)] at hco
        have hfo := HO.out.free k
        have bx := nth_wf (wf_wd m) k
        have by_ := nth_wf (wf_wd n) k
        have HV := Lib.hid (sub_round us (wd m) (wd n) k b (by have := HUL.out; omega) bx by_ ⟨hb0, hb1⟩ hv.out)
        have HR : ∀ v, Hid (∀ j, k + 1 ≤ j → nth (us.set k v) j = nth (wd m) j) := fun v j hj => by rw [nth_set_ne _ _ _ _ (by omega)]; exact hrest.out j (by omega)
        by_cases hkn : k < (wd n).length
        · obtain ⟨bd, rfl, hcb⟩ := (HB.out.kept HX.out (fun b hb => by subst hb; intro e; injection e with e; exact HN.out _ _ rfl rfl (by omega) e.symm)).at_ k hkn
          have hs := sub_word (nth (wd m) k) b (nth (wd n) k) bx by_ ⟨hb0, hb1⟩
          have HS1 := Lib.hid hs.1
          have HS2 := Lib.hid hs.2
          have ow := owed_01 (nth (wd m) k - b - nth (wd n) k)
          clear hs
          go_wp2_with fail
          go_roundw
          case rel =>
            rw [HS1.out, HS2.out]
            exact ⟨k + 1, _, _, by omega, by rw [List.length_set]; exact HUL.out, wf_set hw.out _ _ (by omega) (by omega), ow.1, ow.2, HV.out, HR _, rfl, by go_num, (HO.out.set k _).1, grown_trans HX.out (HO.out.set k _).2⟩
          case measure => simp [intOf]; omega
        · rw [nth_out (wd n) k (by omega), Int.sub_zero] at HV
          have hs := sub_word0 (nth (wd m) k) b bx ⟨hb0, hb1⟩
          have HS1 := Lib.hid hs.1
          have HS2 := Lib.hid hs.2
          have ow := owed_01 (nth (wd m) k - b)
          clear hs
          go_wp2_with fail
          go_roundw
          case rel =>
            rw [HS1.out, HS2.out]
            exact ⟨k + 1, _, _, by omega, by rw [List.length_set]; exact HUL.out, wf_set hw.out _ _ (by omega) (by omega), ow.1, ow.2, HV.out, HR _, rfl, by go_num, (HO.out.set k _).1, grown_trans HX.out (HO.out.set k _).2⟩
          case measure => simp [intOf]; omega
      · have hkl : k = (wd m).length := by omega
        have HE := Lib.hid (sub_end us m n (wd m).length b rfl hnm hw.out HUL.out ⟨hb0, hb1⟩ (by rw [← hkl]; exact hv.out))
        clear hkl
        go_wp2_with fail
        refine (cut_own _ us _ _ _ _ HO.out HUL.out hw.out _ HE.out).mono ?_; rintro e w' ⟨rfl, HO2, rfl⟩
        have HO3 := Lib.hid HO2
        clear HO2
        go_wp2_with fail
        go_ret
        exact ⟨rfl, HO3.out, HX.out⟩

set_option maxHeartbeats 1000000 in
theorem sub_any (A B : Option Addr) (m n : Nat) (c d : Nat) (w : World) (ha : Rd w A c (wd m)) (hb : Rd w B d (wd n)) (hnm : n ≤ m) (lm : (wd m).length ≤ 8192) :
    Calls Try.prog 50 #[.slice A (wd m).length c, .slice B (wd n).length d] w fun e w' => ∃ A' c', e = .returned (.tuple #[.slice A' (wd (m - n)).length c', .int .i64 0]) ∧ Own w' w.heap.size A' c' (wd (m - n)) ∧ Ext w w' := by
  have HA := Lib.hid ha
  have HB := Lib.hid hb
  clear ha hb
  have ln := wd_len_mono hnm
  have hcm : ¬ cmp m n < 0 := fun e => by have := cmp_lt_iff.1 e; omega
  go_enter Try.func50, Try.ntmps50
  go_wp2_with fail
  refine (checked_ok _ _ _ _ _ _ _ HA.out HB.out (by omega) (by omega)).mono ?_; rintro e w' ⟨rfl, rfl⟩
  go_wp2_with fail
  refine (compare_any _ _ _ _ _ _ _ HA.out HB.out).mono ?_; rintro e w1 ⟨rfl, hx1⟩
  have HX1 := Lib.hid hx1
  clear hx1
  go_wp2_with fail
  refine (clone_any _ _ _ _ (HA.out.ext HX1.out) (by omega)).mono ?_; rintro e w2 ⟨A2, c2, rfl, hO2, hx2⟩
  have HX2 := Lib.hid (HX1.out.trans hx2)
  have HO2 := Lib.hid hO2
  have hb2 := HB.out.ext HX2.out
  have HN := Lib.hid (hO2.apartRd (HB.out.ext HX1.out) (Nat.le_refl _))
  have HB2 := Lib.hid hb2
  clear hx2 hO2 hb2
  go_wp2_with fail
  refine (less_any _ _ _ _ _ _ _ _ HO2.out HB2.out HN.out hnm lm).mono ?_; rintro e w3 ⟨rfl, hO3, hx3⟩
  have HX3 := Lib.hid (HX2.out.grown hx3 (fun k hk => by
    cases A2 with
    | none => cases hk
    | some a => cases hk; exact Nat.le_trans HX1.out.size HO2.out.block.1))
  have HO3 := Lib.hid hO3
  clear hx3 hO3
  go_wp2_with fail
  go_ret2
  exact ⟨_, _, rfl, HO3.out.lower HX1.out.size, HX3.out⟩

end Go.Proofs.Ytnhgagfkepmanaa
