/- A long division's rounds: plain. -/
import Derived.Test.YtnhgagfkepmanaaP1
namespace Go.Proofs.Ytnhgagfkepmanaa

/-- what the words from o on say -/
def Vo (us : List Int) (o k : Nat) : Int := V (us.drop o) k
theorem Vo_zero (us : List Int) (o : Nat) : Vo us o 0 = 0 := rfl
theorem Vo_succ (us : List Int) (o k : Nat) : Vo us o (k + 1) = Vo us o k + nth us (o + k) * pw k := by unfold Vo; rw [V_succ, nth_drop]
theorem Vo_set (us : List Int) (o k : Nat) (v : Int) (hk : o + k < us.length) : Vo (us.set (o + k) v) o (k + 1) = Vo us o k + v * pw k := by
  rw [Vo_succ, nth_set_self _ _ _ hk]
  congr 1
  exact V_congr k fun j hj => by rw [nth_drop, nth_drop, nth_set_ne _ _ _ _ (by omega)]
theorem Vo_bd {us : List Int} (h : Wf us) (o k : Nat) : 0 ≤ Vo us o k ∧ Vo us o k < pw k := ⟨V_nonneg (wf_drop h o) k, V_lt (wf_drop h o) k⟩
theorem Vo_congr {us vs : List Int} {o k : Nat} (h : ∀ j, o ≤ j → j < o + k → nth us j = nth vs j) : Vo us o k = Vo vs o k := by
  unfold Vo
  exact V_congr k fun j hj => by rw [nth_drop, nth_drop]; exact h _ (by omega) (by omega)
/-- low words, the words of a stretch, the rest -/
theorem val_split (us : List Int) (i l : Nat) (h : i + l ≤ us.length) : val us = V us i + pw i * Vo us i l + pw (i + l) * Vo us (i + l) (us.length - (i + l)) := by
  have e : us.length = i + l + (us.length - (i + l)) := by omega
  unfold val
  conv => lhs; rw [e]
  rw [V_drop us (i + l), V_drop us i l]
  rfl
theorem Wf.val_nonneg {us : List Int} (h : Wf us) : 0 ≤ val us := V_nonneg h _

/-- what stands in a stretch is less than D times 2^32 -/
theorem part_lt (us : List Int) (i L : Nat) (D : Int) (h : Wf us) (hl : i + (L + 1) ≤ us.length) (hv : val us < D * pw (i + 1)) : Vo us i (L + 1) < D * 4294967296 := by
  have e := val_split us i (L + 1) hl
  have h1 := V_nonneg h i
  have h2 := Int.mul_nonneg (Int.le_of_lt (pw_pos (i + (L + 1)))) (Vo_bd h (i + (L + 1)) (us.length - (i + (L + 1)))).1
  rw [pw_succ, ← Int.mul_assoc, Int.mul_comm (D * 4294967296)] at hv
  have hp := pw_pos i
  exact Int.lt_of_mul_lt_mul_left (a := pw i) (by omega) (by omega)
/-- one word of the quotient has been taken off -/
theorem part_off (us us' : List Int) (i L : Nat) (D x : Int) (h : Wf us) (hl : i + (L + 1) ≤ us.length) (hul : us'.length = us.length) (hD : D < pw L) (hv : val us < D * pw (i + 1))
    (hsame : ∀ j, j < i ∨ i + (L + 1) ≤ j → nth us' j = nth us j) (hU : Vo us' i (L + 1) = Vo us i (L + 1) - x * D) (hU1 : Vo us' i (L + 1) < D) :
    val us' = val us - x * D * pw i ∧ val us' < D * pw i := by
  have e := val_split us i (L + 1) hl
  have e' := val_split us' i (L + 1) (by omega)
  have s1 : V us' i = V us i := V_congr i fun j hj => hsame j (.inl hj)
  have s2 : Vo us' (i + (L + 1)) (us'.length - (i + (L + 1))) = Vo us (i + (L + 1)) (us.length - (i + (L + 1))) := by
    rw [hul]; exact Vo_congr fun j h1 _ => hsame j (.inr h1)
  rw [s1, s2, hU, Int.mul_sub] at e'
  have e3 : pw i * (x * D) = x * D * pw i := Int.mul_comm _ _
  refine ⟨by omega, ?_⟩
  have hz : Vo us (i + (L + 1)) (us.length - (i + (L + 1))) = 0 := by
    have hr := (Vo_bd h (i + (L + 1)) (us.length - (i + (L + 1)))).1
    have h1 := V_nonneg h i
    have h2 := Int.mul_nonneg (Int.le_of_lt (pw_pos i)) (Vo_bd h i (L + 1)).1
    have h3 : D * pw (i + 1) < pw (i + (L + 1)) := by
      have : D * pw (i + 1) < pw L * pw (i + 1) := Int.mul_lt_mul_of_pos_right hD (pw_pos _)
      rw [← pw_add, show L + (i + 1) = i + (L + 1) by omega] at this
      exact this
    rcases Int.lt_or_le 0 (Vo us (i + (L + 1)) (us.length - (i + (L + 1)))) with h4 | h4
    · have h5 : pw (i + (L + 1)) * 1 ≤ pw (i + (L + 1)) * Vo us (i + (L + 1)) (us.length - (i + (L + 1))) := Int.mul_le_mul_of_nonneg_left (by omega) (Int.le_of_lt (pw_pos _))
      omega
    · omega
  rw [hz, Int.mul_zero, Int.add_zero] at e e'
  have h6 : pw i * Vo us' i (L + 1) ≤ pw i * (D - 1) := Int.mul_le_mul_of_nonneg_left (by omega) (Int.le_of_lt (pw_pos i))
  have h7 := V_lt h i
  rw [hU, Int.mul_sub, Int.mul_sub, Int.mul_one] at h6
  have e4 := Int.mul_comm (pw i) D
  omega
/-- a word taken off as it was guessed -/
theorem off_good (U U1 D q P : Int) (hq : U < (q + 1) * D) (h1 : U1 + q * D = U + 0 * P) : U1 = U - q * D ∧ U1 < D := by
  rw [Int.add_mul, Int.one_mul] at hq
  omega
/-- one too many was taken off: one is given back -/
theorem off_back (U U1 U2 D q P cy : Int) (hq2 : q * D ≤ U + D) (h1 : U1 + q * D = U + 1 * P) (hU1 : 0 ≤ U1 ∧ U1 < P) (hU2 : 0 ≤ U2 ∧ U2 < P) (hcy : 0 ≤ cy ∧ cy ≤ 1) (h2 : U2 + cy * P = U1 + D) : U2 = U - (q - 1) * D ∧ U2 < D ∧ U < q * D := by
  rw [Int.sub_mul, Int.one_mul]
  have hc : cy = 0 ∨ cy = 1 := by omega
  rcases hc with rfl | rfl
  · omega
  · omega
theorem q_round (qs : List Int) (k : Nat) (x D M v v' : Int) (hk : k < qs.length) (hz : nth qs k = 0) (h : D * val qs + v = M) (hv : v' = v - x * D * pw k) : D * val (qs.set k x) + v' = M := by
  have e : val (qs.set k x) = val qs + x * pw k := by
    unfold val
    rw [List.length_set, V_set _ _ _ hk _ hk, hz, Int.sub_zero]
  rw [e, Int.mul_add, hv, ← h]
  have : D * (x * pw k) = x * D * pw k := by rw [← Int.mul_assoc, Int.mul_comm D x]
  omega
/-- at the end -/
theorem div_end (m n s vq vu : Nat) (hn : 0 < n) (h : (((n * 2 ^ s : Nat) : Int) * (vq : Int) + (vu : Int)) = ((m * 2 ^ s : Nat) : Int)) (hl : vu < n * 2 ^ s) : vq = m / n ∧ vu / 2 ^ s = m % n := by
  have hp : 0 < 2 ^ s := Nat.pow_pos (by omega)
  have h' : n * 2 ^ s * vq + vu = m * 2 ^ s := by exact_mod_cast h
  have hd : 0 < n * 2 ^ s := Nat.mul_pos hn hp
  have hq : m * 2 ^ s / (n * 2 ^ s) = vq := by
    rw [← h', Nat.mul_add_div hd, Nat.div_eq_of_lt hl, Nat.add_zero]
  have hr : m * 2 ^ s % (n * 2 ^ s) = vu := by
    rw [← h', Nat.mul_add_mod, Nat.mod_eq_of_lt hl]
  rw [Nat.mul_div_mul_right _ _ hp] at hq
  rw [Nat.mul_mod_mul_right] at hr
  exact ⟨hq.symm, by rw [← hr, Nat.mul_div_cancel _ hp]⟩
/-- at the beginning -/
theorem div_begin (m n s L : Nat) (la : Nat) (hla : (wd m).length = la) (hL1 : 1 ≤ L) (hle : L ≤ la + 1) (hs : s ≤ 31) (ht : 2147483648 * pw (L - 1) ≤ ((n * 2 ^ s : Nat) : Int)) : ((m * 2 ^ s : Nat) : Int) < ((n * 2 ^ s : Nat) : Int) * pw (la + 1 - L) := by
  have h1 := wd_lt_pw m
  rw [hla] at h1
  have h2 : 2147483648 * pw (L - 1) * pw (la + 1 - L) ≤ ((n * 2 ^ s : Nat) : Int) * pw (la + 1 - L) := Int.mul_le_mul_of_nonneg_right ht (Int.le_of_lt (pw_pos _))
  rw [Int.mul_assoc, ← pw_add, show L - 1 + (la + 1 - L) = la by omega] at h2
  have h3 : ((2 ^ s : Nat) : Int) ≤ 2147483648 := by
    have : 2 ^ s ≤ 2 ^ 31 := Nat.pow_le_pow_right (by omega) hs
    omega
  have h0 : 0 < ((2 ^ s : Nat) : Int) := by
    have : 0 < 2 ^ s := Nat.pow_pos (by omega)
    omega
  have h4 : (m : Int) * ((2 ^ s : Nat) : Int) < pw la * ((2 ^ s : Nat) : Int) := Int.mul_lt_mul_of_pos_right h1 h0
  have h5 : pw la * ((2 ^ s : Nat) : Int) ≤ pw la * 2147483648 := Int.mul_le_mul_of_nonneg_left h3 (Int.le_of_lt (pw_pos _))
  rw [Int.natCast_mul]
  omega
/-- the divisor made great: as long, its first word great -/
theorem norm_words (n s L : Nat) (hn : n ≠ 0) (hL : (wd n).length = L) (hw : 2147483648 ≤ (nth (wd n) (L - 1)).toNat * 2 ^ s) (hw1 : (nth (wd n) (L - 1)).toNat * 2 ^ s < 4294967296) :
    2147483648 * pw (L - 1) ≤ ((n * 2 ^ s : Nat) : Int) ∧ (wd (n * 2 ^ s)).length = L ∧ 2147483648 ≤ nth (wd (n * 2 ^ s)) (L - 1) := by
  have hl0 : L ≠ 0 := fun e => hn (wd_len_zero.1 (by omega))
  obtain ⟨k, rfl⟩ := Nat.exists_eq_succ_of_ne_zero hl0
  have e := val_wd n
  unfold val at e
  rw [hL] at e
  simp only [Nat.succ_eq_add_one, Nat.add_sub_cancel] at *
  rw [V_succ] at e
  have b := nth_wf (wf_wd n) k
  have a0 := V_nonneg (wf_wd n) k
  have a1 := V_lt (wf_wd n) k
  obtain ⟨t, ht⟩ := Int.eq_ofNat_of_zero_le b.1
  rw [ht] at e hw hw1
  simp only [Int.toNat_natCast] at hw hw1
  have hp0 : 0 < ((2 ^ s : Nat) : Int) := by have : 0 < 2 ^ s := Nat.pow_pos (by omega); omega
  have hpk := pw_pos k
  have hN : ((n * 2 ^ s : Nat) : Int) = V (wd n) k * ((2 ^ s : Nat) : Int) + ((t * 2 ^ s : Nat) : Int) * pw k := by
    rw [Int.natCast_mul, ← e, Int.add_mul, Int.natCast_mul, Int.mul_assoc, Int.mul_comm (pw k), ← Int.mul_assoc]
  have h1 : 0 ≤ V (wd n) k * ((2 ^ s : Nat) : Int) := Int.mul_nonneg a0 (by omega)
  have hlo : 2147483648 * pw k ≤ ((n * 2 ^ s : Nat) : Int) := by
    have : 2147483648 * pw k ≤ ((t * 2 ^ s : Nat) : Int) * pw k := Int.mul_le_mul_of_nonneg_right (by omega) (by omega)
    omega
  have hhi : ((n * 2 ^ s : Nat) : Int) < pw (k + 1) := by
    have h2 : V (wd n) k * ((2 ^ s : Nat) : Int) < pw k * ((2 ^ s : Nat) : Int) := Int.mul_lt_mul_of_pos_right a1 hp0
    have h3 : ((t * 2 ^ s : Nat) : Int) + ((2 ^ s : Nat) : Int) ≤ 4294967296 := by
      have hs32 : s < 32 := by
        rcases Nat.lt_or_ge s 32 with h | h
        · exact h
        · have h4 : 2 ^ 32 ≤ 2 ^ s := Nat.pow_le_pow_right (by omega) h
          have h5 : t ≠ 0 := fun e0 => by subst e0; omega
          have h6 : 1 * 2 ^ s ≤ t * 2 ^ s := Nat.mul_le_mul_right _ (by omega)
          omega
      have hd : 2 ^ 32 = 2 ^ (32 - s) * 2 ^ s := by rw [← Nat.pow_add, show 32 - s + s = 32 by omega]
      have h7 : t * 2 ^ s < 2 ^ (32 - s) * 2 ^ s := by omega
      have h8 := Nat.lt_of_mul_lt_mul_right h7
      have h9 : (t + 1) * 2 ^ s ≤ 2 ^ (32 - s) * 2 ^ s := Nat.mul_le_mul_right _ h8
      rw [Nat.add_mul, Nat.one_mul] at h9
      omega
    have h4 : (((t * 2 ^ s : Nat) : Int) + ((2 ^ s : Nat) : Int)) * pw k ≤ 4294967296 * pw k := Int.mul_le_mul_of_nonneg_right h3 (by omega)
    rw [Int.add_mul] at h4
    rw [pw_succ, hN]
    have : pw k * ((2 ^ s : Nat) : Int) = ((2 ^ s : Nat) : Int) * pw k := Int.mul_comm _ _
    omega
  have hlen : (wd (n * 2 ^ s)).length = k + 1 := by
    have h1 := wd_len_le _ _ hhi
    have h2 : k < (wd (n * 2 ^ s)).length := by
      have h3 := wd_lt_pw (n * 2 ^ s)
      exact pw_lt (by omega)
    omega
  refine ⟨hlo, hlen, ?_⟩
  have e2 := val_wd (n * 2 ^ s)
  unfold val at e2
  rw [hlen, V_succ] at e2
  have c1 := V_lt (wf_wd (n * 2 ^ s)) k
  have h10 : 2147483648 * pw k < (nth (wd (n * 2 ^ s)) k + 1) * pw k := by rw [Int.add_mul]; omega
  have := Int.lt_of_mul_lt_mul_right h10 (by omega)
  omega

end Go.Proofs.Ytnhgagfkepmanaa
