/- Texts of this claim, joined: P3 N11 N12 N13 N14. -/
import Derived.Deep.RegionHeld3
import Derived.Test.YtjoonfegjobgbaaGreatDoorRl
set_option linter.unusedVariables false
set_option linter.unusedSimpArgs false
set_option maxRecDepth 100000
namespace Go.Proofs.YtjoonfegjobgbaaGreatDoor
def Vo (us : List Int) (o k : Nat) : Int := V (us.drop o) k
theorem Vo_zero (us : List Int) (o : Nat) : Vo us o 0 = 0 := rfl
theorem Vo_succ (us : List Int) (o k : Nat) : Vo us o (k + 1) = Vo us o k + nth us (o + k) * pw k := by unfold Vo; rw [V_succ, nth_drop]
theorem Vo_set (us : List Int) (o k : Nat) (v : Int) (hk : o + k < us.length) : Vo (us.set (o + k) v) o (k + 1) = Vo us o k + v * pw k := by
  rw [Vo_succ, nth_set_self _ _ _ hk]
  congr 1
  exact V_congr k fun j hj => by rw [nth_drop, nth_drop, nth_set_ne _ _ _ _ (by omega)]
theorem Vo_bd {us : List Int} (h : Wf us) (o k : Nat) : 0 ≤ Vo us o k ∧ Vo us o k < pw k := ⟨V_nonneg (wf_drop h o) k, V_lt (wf_drop h o) k⟩
theorem Vo_congr {us vs : List Int} {o k : Nat} (h : ∀ j, o ≤ j → j < o + k → nth us j = nth vs j) : Vo us o k = Vo vs o k := by
  unfold Vo
  exact V_congr k fun j hj => by rw [nth_drop, nth_drop]; exact h _ (by omega) (by omega)
theorem val_split (us : List Int) (i l : Nat) (h : i + l ≤ us.length) : val us = V us i + pw i * Vo us i l + pw (i + l) * Vo us (i + l) (us.length - (i + l)) := by
  have e : us.length = i + l + (us.length - (i + l)) := by omega
  unfold val
  conv => lhs; rw [e]
  rw [V_drop us (i + l), V_drop us i l]
  rfl
theorem Wf.val_nonneg {us : List Int} (h : Wf us) : 0 ≤ val us := V_nonneg h _
theorem part_lt (us : List Int) (i L : Nat) (D : Int) (h : Wf us) (hl : i + (L + 1) ≤ us.length) (hv : val us < D * pw (i + 1)) : Vo us i (L + 1) < D * 4294967296 := by
  have e := val_split us i (L + 1) hl
  have h1 := V_nonneg h i
  have h2 := Int.mul_nonneg (Int.le_of_lt (pw_pos (i + (L + 1)))) (Vo_bd h (i + (L + 1)) (us.length - (i + (L + 1)))).1
  rw [pw_succ, ← Int.mul_assoc, Int.mul_comm (D * 4294967296)] at hv
  have hp := pw_pos i
  exact Int.lt_of_mul_lt_mul_left (a := pw i) (by omega) (by omega)
theorem part_off (us us' : List Int) (i L : Nat) (D x : Int) (h : Wf us) (hl : i + (L + 1) ≤ us.length) (hul : us'.length = us.length) (hD : D < pw L) (hv : val us < D * pw (i + 1))
    (hsame : ∀ j, j < i ∨ i + (L + 1) ≤ j → nth us' j = nth us j) (hU : Vo us' i (L + 1) = Vo us i (L + 1) - x * D) (hU1 : Vo us' i (L + 1) < D) :
    val us' = val us - x * D * pw i ∧ val us' < D * pw i := by
  have e := val_split us i (L + 1) hl
  have e' := val_split us' i (L + 1) (by omega)
  have s1 : V us' i = V us i := V_congr i fun j hj => hsame j (.inl hj)
  have s2 : Vo us' (i + (L + 1)) (us'.length - (i + (L + 1))) = Vo us (i + (L + 1)) (us.length - (i + (L + 1))) := by
    rw [hul]; exact Vo_congr fun j h1 _ => hsame j (.inr h1)
  rw [s1, s2, hU, Int.mul_sub] at e'
  have e3 : pw i * (x * D) = x * D * pw i := Int.mul_comm _ _
  refine ⟨by omega, ?_⟩
  have hz : Vo us (i + (L + 1)) (us.length - (i + (L + 1))) = 0 := by
    have hr := (Vo_bd h (i + (L + 1)) (us.length - (i + (L + 1)))).1
    have h1 := V_nonneg h i
    have h2 := Int.mul_nonneg (Int.le_of_lt (pw_pos i)) (Vo_bd h i (L + 1)).1
    have h3 : D * pw (i + 1) < pw (i + (L + 1)) := by
      have : D * pw (i + 1) < pw L * pw (i + 1) := Int.mul_lt_mul_of_pos_right hD (pw_pos _)
      rw [← pw_add, show L + (i + 1) = i + (L + 1) by omega] at this
      exact this
    rcases Int.lt_or_le 0 (Vo us (i + (L + 1)) (us.length - (i + (L + 1)))) with h4 | h4
    · have h5 : pw (i + (L + 1)) * 1 ≤ pw (i + (L + 1)) * Vo us (i + (L + 1)) (us.length - (i + (L + 1))) := Int.mul_le_mul_of_nonneg_left (by omega) (Int.le_of_lt (pw_pos _))
      omega
    · omega
  rw [hz, Int.mul_zero, Int.add_zero] at e e'
  have h6 : pw i * Vo us' i (L + 1) ≤ pw i * (D - 1) := Int.mul_le_mul_of_nonneg_left (by omega) (Int.le_of_lt (pw_pos i))
  have h7 := V_lt h i
  rw [hU, Int.mul_sub, Int.mul_sub, Int.mul_one] at h6
  have e4 := Int.mul_comm (pw i) D
  omega
theorem off_good (U U1 D q P : Int) (hq : U < (q + 1) * D) (h1 : U1 + q * D = U + 0 * P) : U1 = U - q * D ∧ U1 < D := by
  rw [Int.add_mul, Int.one_mul] at hq
  omega
theorem off_back (U U1 U2 D q P cy : Int) (hq2 : q * D ≤ U + D) (h1 : U1 + q * D = U + 1 * P) (hU1 : 0 ≤ U1 ∧ U1 < P) (hU2 : 0 ≤ U2 ∧ U2 < P) (hcy : 0 ≤ cy ∧ cy ≤ 1) (h2 : U2 + cy * P = U1 + D) : U2 = U - (q - 1) * D ∧ U2 < D ∧ U < q * D := by
  rw [Int.sub_mul, Int.one_mul]
  have hc : cy = 0 ∨ cy = 1 := by omega
  rcases hc with rfl | rfl
  · omega
  · omega
theorem q_round (qs : List Int) (k : Nat) (x D M v v' : Int) (hk : k < qs.length) (hz : nth qs k = 0) (h : D * val qs + v = M) (hv : v' = v - x * D * pw k) : D * val (qs.set k x) + v' = M := by
  have e : val (qs.set k x) = val qs + x * pw k := by
    unfold val
    rw [List.length_set, V_set _ _ _ hk _ hk, hz, Int.sub_zero]
  rw [e, Int.mul_add, hv, ← h]
  have : D * (x * pw k) = x * D * pw k := by rw [← Int.mul_assoc, Int.mul_comm D x]
  omega
theorem div_end (m n s vq vu : Nat) (hn : 0 < n) (h : (((n * 2 ^ s : Nat) : Int) * (vq : Int) + (vu : Int)) = ((m * 2 ^ s : Nat) : Int)) (hl : vu < n * 2 ^ s) : vq = m / n ∧ vu / 2 ^ s = m % n := by
  have hp : 0 < 2 ^ s := Nat.pow_pos (by omega)
  have h' : n * 2 ^ s * vq + vu = m * 2 ^ s := by exact_mod_cast h
  have hd : 0 < n * 2 ^ s := Nat.mul_pos hn hp
  have hq : m * 2 ^ s / (n * 2 ^ s) = vq := by
    rw [← h', Nat.mul_add_div hd, Nat.div_eq_of_lt hl, Nat.add_zero]
  have hr : m * 2 ^ s % (n * 2 ^ s) = vu := by
    rw [← h', Nat.mul_add_mod, Nat.mod_eq_of_lt hl]
  rw [Nat.mul_div_mul_right _ _ hp] at hq
  rw [Nat.mul_mod_mul_right] at hr
  exact ⟨hq.symm, by rw [← hr, Nat.mul_div_cancel _ hp]⟩
theorem div_begin (m n s L : Nat) (la : Nat) (hla : (wd m).length = la) (hL1 : 1 ≤ L) (hle : L ≤ la + 1) (hs : s ≤ 31) (ht : 2147483648 * pw (L - 1) ≤ ((n * 2 ^ s : Nat) : Int)) : ((m * 2 ^ s : Nat) : Int) < ((n * 2 ^ s : Nat) : Int) * pw (la + 1 - L) := by
  have h1 := wd_lt_pw m
  rw [hla] at h1
  have h2 : 2147483648 * pw (L - 1) * pw (la + 1 - L) ≤ ((n * 2 ^ s : Nat) : Int) * pw (la + 1 - L) := Int.mul_le_mul_of_nonneg_right ht (Int.le_of_lt (pw_pos _))
  rw [Int.mul_assoc, ← pw_add, show L - 1 + (la + 1 - L) = la by omega] at h2
  have h3 : ((2 ^ s : Nat) : Int) ≤ 2147483648 := by
    have : 2 ^ s ≤ 2 ^ 31 := Nat.pow_le_pow_right (by omega) hs
    omega
  have h0 : 0 < ((2 ^ s : Nat) : Int) := by
    have : 0 < 2 ^ s := Nat.pow_pos (by omega)
    omega
  have h4 : (m : Int) * ((2 ^ s : Nat) : Int) < pw la * ((2 ^ s : Nat) : Int) := Int.mul_lt_mul_of_pos_right h1 h0
  have h5 : pw la * ((2 ^ s : Nat) : Int) ≤ pw la * 2147483648 := Int.mul_le_mul_of_nonneg_left h3 (Int.le_of_lt (pw_pos _))
  rw [Int.natCast_mul]
  omega
theorem norm_words (n s L : Nat) (hn : n ≠ 0) (hL : (wd n).length = L) (hw : 2147483648 ≤ (nth (wd n) (L - 1)).toNat * 2 ^ s) (hw1 : (nth (wd n) (L - 1)).toNat * 2 ^ s < 4294967296) :
    2147483648 * pw (L - 1) ≤ ((n * 2 ^ s : Nat) : Int) ∧ (wd (n * 2 ^ s)).length = L ∧ 2147483648 ≤ nth (wd (n * 2 ^ s)) (L - 1) := by
  have hl0 : L ≠ 0 := fun e => hn (wd_len_zero.1 (by omega))
  obtain ⟨k, rfl⟩ := Nat.exists_eq_succ_of_ne_zero hl0
  have e := val_wd n
  unfold val at e
  rw [hL] at e
  simp only [Nat.succ_eq_add_one, Nat.add_sub_cancel] at *
  rw [V_succ] at e
  have b := nth_wf (wf_wd n) k
  have a0 := V_nonneg (wf_wd n) k
  have a1 := V_lt (wf_wd n) k
  obtain ⟨t, ht⟩ := Int.eq_ofNat_of_zero_le b.1
  rw [ht] at e hw hw1
  simp only [Int.toNat_natCast] at hw hw1
  have hp0 : 0 < ((2 ^ s : Nat) : Int) := by have : 0 < 2 ^ s := Nat.pow_pos (by omega); omega
  have hpk := pw_pos k
  have hN : ((n * 2 ^ s : Nat) : Int) = V (wd n) k * ((2 ^ s : Nat) : Int) + ((t * 2 ^ s : Nat) : Int) * pw k := by
    rw [Int.natCast_mul, ← e, Int.add_mul, Int.natCast_mul, Int.mul_assoc, Int.mul_comm (pw k), ← Int.mul_assoc]
  have h1 : 0 ≤ V (wd n) k * ((2 ^ s : Nat) : Int) := Int.mul_nonneg a0 (by omega)
  have hlo : 2147483648 * pw k ≤ ((n * 2 ^ s : Nat) : Int) := by
    have : 2147483648 * pw k ≤ ((t * 2 ^ s : Nat) : Int) * pw k := Int.mul_le_mul_of_nonneg_right (by omega) (by omega)
    omega
  have hhi : ((n * 2 ^ s : Nat) : Int) < pw (k + 1) := by
    have h2 : V (wd n) k * ((2 ^ s : Nat) : Int) < pw k * ((2 ^ s : Nat) : Int) := Int.mul_lt_mul_of_pos_right a1 hp0
    have h3 : ((t * 2 ^ s : Nat) : Int) + ((2 ^ s : Nat) : Int) ≤ 4294967296 := by
      have hs32 : s < 32 := by
        rcases Nat.lt_or_ge s 32 with h | h
        · exact h
        · have h4 : 2 ^ 32 ≤ 2 ^ s := Nat.pow_le_pow_right (by omega) h
          have h5 : t ≠ 0 := fun e0 => by subst e0; omega
          have h6 : 1 * 2 ^ s ≤ t * 2 ^ s := Nat.mul_le_mul_right _ (by omega)
          omega
      have hd : 2 ^ 32 = 2 ^ (32 - s) * 2 ^ s := by rw [← Nat.pow_add, show 32 - s + s = 32 by omega]
      have h7 : t * 2 ^ s < 2 ^ (32 - s) * 2 ^ s := by omega
      have h8 := Nat.lt_of_mul_lt_mul_right h7
      have h9 : (t + 1) * 2 ^ s ≤ 2 ^ (32 - s) * 2 ^ s := Nat.mul_le_mul_right _ h8
      rw [Nat.add_mul, Nat.one_mul] at h9
      omega
    have h4 : (((t * 2 ^ s : Nat) : Int) + ((2 ^ s : Nat) : Int)) * pw k ≤ 4294967296 * pw k := Int.mul_le_mul_of_nonneg_right h3 (by omega)
    rw [Int.add_mul] at h4
    rw [pw_succ, hN]
    have : pw k * ((2 ^ s : Nat) : Int) = ((2 ^ s : Nat) : Int) * pw k := Int.mul_comm _ _
    omega
  have hlen : (wd (n * 2 ^ s)).length = k + 1 := by
    have h1 := wd_len_le _ _ hhi
    have h2 : k < (wd (n * 2 ^ s)).length := by
      have h3 := wd_lt_pw (n * 2 ^ s)
      exact pw_lt (by omega)
    omega
  refine ⟨hlo, hlen, ?_⟩
  have e2 := val_wd (n * 2 ^ s)
  unfold val at e2
  rw [hlen, V_succ] at e2
  have c1 := V_lt (wf_wd (n * 2 ^ s)) k
  have h10 : 2147483648 * pw k < (nth (wd (n * 2 ^ s)) k + 1) * pw k := by rw [Int.add_mul]; omega
  have := Int.lt_of_mul_lt_mul_right h10 (by omega)
  omega
end Go.Proofs.YtjoonfegjobgbaaGreatDoor
namespace Go.Proofs.YtjoonfegjobgbaaGreatDoor
open Go Go.RowKit
theorem off_word (x b y : Int) (hx : 0 ≤ x ∧ x < 4294967296) (hy : 0 ≤ y ∧ y < 4294967296) (hb : 0 ≤ b ∧ b ≤ 1) :
    IntKind.u64.wrap (IntKind.u64.wrap (x - y) - b) % 4294967296 = (x - y - b) % 4294967296 ∧ IntKind.u64.wrap (IntKind.u64.wrap (x - y) - b) / 9223372036854775808 = owed (x - y - b) := by
  rw [IntKind.wrap_u64, IntKind.wrap_u64]
  unfold owed
  split <;> constructor <;> omega
theorem off_round (us xs vs : List Int) (o k : Nat) (cy bo q t : Int) (ht : t = cy + q * nth vs k) (hk : o + k < us.length) (hx : 0 ≤ nth xs (o + k) ∧ nth xs (o + k) < 4294967296) (hb : 0 ≤ bo ∧ bo ≤ 1) (hv : Vo us o k + q * V vs k = Vo xs o k + (bo + cy) * pw k) :
    Vo (us.set (o + k) ((nth xs (o + k) - t % 4294967296 - bo) % 4294967296)) o (k + 1) + q * V vs (k + 1) = Vo xs o (k + 1) + (owed (nth xs (o + k) - t % 4294967296 - bo) + t / 4294967296) * pw (k + 1) := by
  rw [Vo_set _ _ _ _ hk, V_succ, Vo_succ xs, pw_succ, Int.mul_add]
  have e : (nth xs (o + k) - t % 4294967296 - bo) % 4294967296 = nth xs (o + k) - t % 4294967296 - bo + owed (nth xs (o + k) - t % 4294967296 - bo) * 4294967296 := by unfold owed; split <;> omega
  rw [e]
  generalize owed (nth xs (o + k) - t % 4294967296 - bo) = ow
  have e2 : q * (nth vs k * pw k) = (t - cy) * pw k := by rw [← Int.mul_assoc]; congr 1; omega
  have e3 : t % 4294967296 * pw k + t / 4294967296 * (4294967296 * pw k) = t * pw k := by
    rw [← Int.mul_assoc, ← Int.add_mul]; congr 1; omega
  rw [e2]
  simp only [Int.add_mul, Int.sub_mul, Int.mul_assoc] at hv e3 ⊢
  omega
set_option maxHeartbeats 2000000 in
theorem off_any (B : Option Addr) (xs vs : List Int) (g o C c d base q : Nat) (w : World) (ho : Own w base (some ⟨g, 0, none⟩) C xs) (hb : Rd w B d vs) (hne : ∀ b, B = some b → 0 < vs.length → b.block ≠ g) (hlen : o + (vs.length + 1) ≤ xs.length) (hx : Wf xs) (hv : Wf vs) (hq : q < 4294967296) (hvl : vs.length ≤ 8192) :
    Calls Tryz.prog 181 #[.slice (some ⟨g, o, none⟩) (vs.length + 1) c, .slice B vs.length d, .int .u64 q] w fun e w' => ∃ (us : List Int) (bo : Int), 0 ≤ bo ∧ bo ≤ 1 ∧ e = .returned (.bool (bo != 0)) ∧ us.length = xs.length ∧ Wf us ∧ Vo us o (vs.length + 1) + q * V vs vs.length = Vo xs o (vs.length + 1) + bo * pw (vs.length + 1) ∧ (∀ j, j < o ∨ o + (vs.length + 1) ≤ j → nth us j = nth xs j) ∧ Own w' base (some ⟨g, 0, none⟩) C us ∧ w.grownBy w' (some g) := by
  have HN := Lib.hid hne
  have HB := Lib.hid hb
  have HW := Lib.hid hx
  have HV := Lib.hid hv
  have HO := Lib.hid ho
  have hC := ho.rd.capm
  have hC2 := ho.rd.cap
  have HG := Lib.hid (World.grownBy.refl w (some g))
  have q0 : (0 : Int) ≤ q := by omega
  clear ho hb hne hx hv
  go_enter Tryz.func181, Tryz.ntmps181
  go_wp2_with fail
  go_loopw [7, 8, 13] (fun cc bb i wr => ∃ (k : Nat) (us : List Int) (cy bo : Int), k ≤ vs.length + 1 ∧ Hid (us.length = xs.length) ∧ Hid (Wf us) ∧ 0 ≤ cy ∧ cy ≤ 4294967295 ∧ 0 ≤ bo ∧ bo ≤ 1 ∧ Hid (k = vs.length + 1 → cy = 0) ∧ Hid (Vo us o k + q * V vs k = Vo xs o k + (bo + cy) * pw k) ∧ Hid (∀ j, j < o ∨ o + k ≤ j → nth us j = nth xs j) ∧ cc = .int .u64 cy ∧ bb = .int .u64 bo ∧ i = .int .i64 k ∧ Hid (Own wr base (some ⟨g, 0, none⟩) C us) ∧ Hid (w.grownBy wr (some g))) (fun _ _ i _ => vs.length + 1 - (intOf i).toNat)
  case atStart => exact ⟨0, xs, 0, 0, by omega, rfl, HW.out, by omega, by omega, by omega, by omega, fun _ => rfl, by show _ = _; rw [V_zero, Vo_zero]; omega, fun _ _ => rfl, rfl, rfl, rfl, HO, HG⟩
  case round =>
    clear HO HG
    obtain ⟨k, us, cy, bo, hk, HUL, HU, hc0, hc1, hb0, hb1, HZ, HE, HR, rfl, rfl, rfl, HO, HX⟩ := hrel
    by_cases hkm : k < vs.length + 1
    · have hco := HO.out.cell (o + k) (by have := HUL.out; omega)
      rw [HR.out (o + k) (by omega)] at hco
      have hfo := HO.out.free (o + k)
      have bx := nth_wf HW.out (o + k)
      have by_ := nth_wf HV.out k
      have HRk : ∀ v, Hid (∀ j, j < o ∨ o + (k + 1) ≤ j → nth (us.set (o + k) v) j = nth xs j) := fun v j hj => by rw [nth_set_ne _ _ _ _ (by omega)]; exact HR.out j (by omega)
      by_cases hkn : k < vs.length
      · obtain ⟨b, rfl, hcb⟩ := (HB.out.kept HX.out (fun b hb => by subst hb; intro e; injection e with e; exact HN.out _ rfl (by omega) e)).at_ k hkn
        have pxy := prod_bd (x := (q : Int)) ⟨q0, by omega⟩ by_
        obtain ⟨t, ht⟩ : ∃ t, t = cy + q * nth vs k := ⟨_, rfl⟩
        have tb : 0 ≤ t ∧ t ≤ 18446744069414584320 := by omega
        have hwt : IntKind.u64.wrap ((q : Int) * nth vs k) = (q : Int) * nth vs k := IntWalk.u64_in _ (by omega)
        have hwt2 : IntKind.u64.wrap (cy + (q : Int) * nth vs k) = t := by rw [IntWalk.u64_in _ (by omega), ht]
        have hs := off_word (nth xs (o + k)) bo (t % 4294967296) bx (by omega) ⟨hb0, hb1⟩
        have HS1 := Lib.hid hs.1
        have HS2 := Lib.hid hs.2
        have HF := Lib.hid (off_round us xs vs o k cy bo q t ht (by have := HUL.out; omega) bx ⟨hb0, hb1⟩ HE.out)
        have ow := owed_01 (nth xs (o + k) - t % 4294967296 - bo)
        clear hs ht pxy
        go_wp2_with fail
        go_roundw
        case rel =>
          rw [HS1.out, HS2.out]
          exact ⟨k + 1, _, _, _, by omega, by unfold Hid; rw [List.length_set]; exact HUL.out, wf_set HU.out _ _ (by omega) (by omega), by omega, by omega, ow.1, ow.2, fun e => by omega, HF.out, HRk _, rfl, rfl, by go_num, (HO.out.set (o + k) _).1, grown_trans HX.out (HO.out.set (o + k) _).2⟩
        case measure => simp [intOf]; omega
      · have hnk : nth vs k = 0 := nth_out vs k (by omega)
        have hs := off_word (nth xs (o + k)) bo cy bx (by omega) ⟨hb0, hb1⟩
        have hcm : cy % 4294967296 = cy := by omega
        have hf := off_round us xs vs o k cy bo q cy (by rw [hnk]; omega) (by have := HUL.out; omega) bx ⟨hb0, hb1⟩ HE.out
        rw [hcm] at hf
        have HF := Lib.hid hf
        have HS1 := Lib.hid hs.1
        have HS2 := Lib.hid hs.2
        have ow := owed_01 (nth xs (o + k) - cy - bo)
        clear hs hf hnk hcm
        go_wp2_with fail
        go_roundw
        case rel =>
          rw [HS1.out, HS2.out]
          exact ⟨k + 1, _, _, _, by omega, by unfold Hid; rw [List.length_set]; exact HUL.out, wf_set HU.out _ _ (by omega) (by omega), by omega, by omega, ow.1, ow.2, fun e => by omega, HF.out, HRk _, rfl, rfl, by go_num, (HO.out.set (o + k) _).1, grown_trans HX.out (HO.out.set (o + k) _).2⟩
        case measure => simp [intOf]; omega
    · have hkl : k = vs.length + 1 := by omega
      subst hkl
      have HF := Lib.hid (show Vo us o (vs.length + 1) + q * V vs vs.length = Vo xs o (vs.length + 1) + bo * pw (vs.length + 1) by
        have h := HE.out
        rw [HZ.out rfl, Int.add_zero, V_succ vs, nth_out vs vs.length (Nat.le_refl _), Int.zero_mul, Int.add_zero] at h
        exact h)
      go_wp2_with fail
      go_ret
      exact ⟨us, bo, hb0, hb1, rfl, HUL.out, HU.out, HF.out, HR.out, HO.out, HX.out⟩
theorem back_round (us xs vs : List Int) (o k : Nat) (cy : Int) (hk : o + k < us.length) (hv : Vo us o k + cy * pw k = Vo xs o k + V vs k) :
    Vo (us.set (o + k) ((cy + nth xs (o + k) + nth vs k) % 4294967296)) o (k + 1) + (cy + nth xs (o + k) + nth vs k) / 4294967296 * pw (k + 1) = Vo xs o (k + 1) + V vs (k + 1) := by
  rw [Vo_set _ _ _ _ hk, V_succ, Vo_succ xs, pw_succ]
  generalize hx : nth xs (o + k) = x
  generalize hy : nth vs k = y
  have e3 : (cy + x + y) % 4294967296 * pw k + (cy + x + y) / 4294967296 * (4294967296 * pw k) = (cy + x + y) * pw k := by
    rw [← Int.mul_assoc, ← Int.add_mul]; congr 1; omega
  simp only [Int.add_mul] at hv e3 ⊢
  omega
set_option maxHeartbeats 2000000 in
theorem back_any (B : Option Addr) (xs vs : List Int) (g o C c d base : Nat) (w : World) (ho : Own w base (some ⟨g, 0, none⟩) C xs) (hb : Rd w B d vs) (hne : ∀ b, B = some b → 0 < vs.length → b.block ≠ g) (hlen : o + (vs.length + 1) ≤ xs.length) (hx : Wf xs) (hv : Wf vs) (hvl : vs.length ≤ 8192) :
    Calls Tryz.prog 182 #[.slice (some ⟨g, o, none⟩) (vs.length + 1) c, .slice B vs.length d] w fun e w' => ∃ (us : List Int) (cy : Int), 0 ≤ cy ∧ cy ≤ 1 ∧ e = .returned (.tuple #[]) ∧ us.length = xs.length ∧ Wf us ∧ Vo us o (vs.length + 1) + cy * pw (vs.length + 1) = Vo xs o (vs.length + 1) + V vs vs.length ∧ (∀ j, j < o ∨ o + (vs.length + 1) ≤ j → nth us j = nth xs j) ∧ Own w' base (some ⟨g, 0, none⟩) C us ∧ w.grownBy w' (some g) := by
  have HN := Lib.hid hne
  have HB := Lib.hid hb
  have HW := Lib.hid hx
  have HV := Lib.hid hv
  have HO := Lib.hid ho
  have hC := ho.rd.capm
  have hC2 := ho.rd.cap
  have HG := Lib.hid (World.grownBy.refl w (some g))
  clear ho hb hne hx hv
  go_enter Tryz.func182, Tryz.ntmps182
  go_wp2_with fail
  go_loopw [4, 8] (fun cc i wr => ∃ (k : Nat) (us : List Int) (cy : Int), k ≤ vs.length + 1 ∧ Hid (us.length = xs.length) ∧ Hid (Wf us) ∧ 0 ≤ cy ∧ cy ≤ 1 ∧ Hid (Vo us o k + cy * pw k = Vo xs o k + V vs k) ∧ Hid (∀ j, j < o ∨ o + k ≤ j → nth us j = nth xs j) ∧ cc = .int .u64 cy ∧ i = .int .i64 k ∧ Hid (Own wr base (some ⟨g, 0, none⟩) C us) ∧ Hid (w.grownBy wr (some g))) (fun _ i _ => vs.length + 1 - (intOf i).toNat)
  case atStart => exact ⟨0, xs, 0, by omega, rfl, HW.out, by omega, by omega, by show _ = _; rw [V_zero, Vo_zero]; omega, fun _ _ => rfl, rfl, rfl, HO, HG⟩
  case round =>
    clear HO HG
    obtain ⟨k, us, cy, hk, HUL, HU, hc0, hc1, HE, HR, rfl, rfl, HO, HX⟩ := hrel
    by_cases hkm : k < vs.length + 1
    · have hco := HO.out.cell (o + k) (by have := HUL.out; omega)
      rw [HR.out (o + k) (by omega)] at hco
      have hfo := HO.out.free (o + k)
      have bx := nth_wf HW.out (o + k)
      have by_ := nth_wf HV.out k
      have HRk : ∀ v, Hid (∀ j, j < o ∨ o + (k + 1) ≤ j → nth (us.set (o + k) v) j = nth xs j) := fun v j hj => by rw [nth_set_ne _ _ _ _ (by omega)]; exact HR.out j (by omega)
      have HF := Lib.hid (back_round us xs vs o k cy (by have := HUL.out; omega) HE.out)
      by_cases hkn : k < vs.length
      · obtain ⟨b, rfl, hcb⟩ := (HB.out.kept HX.out (fun b hb => by subst hb; intro e; injection e with e; exact HN.out _ rfl (by omega) e)).at_ k hkn
        go_wp2_with fail
        go_roundw
        case rel =>
          exact ⟨k + 1, _, _, by omega, by unfold Hid; rw [List.length_set]; exact HUL.out, wf_set HU.out _ _ (by omega) (by omega), by omega, by omega, HF.out, HRk _, rfl, by go_num, (HO.out.set (o + k) _).1, grown_trans HX.out (HO.out.set (o + k) _).2⟩
        case measure => simp [intOf]; omega
      · rw [nth_out vs k (by omega), Int.add_zero] at HF
        clear by_
        go_wp2_with fail
        go_roundw
        case rel =>
          exact ⟨k + 1, _, _, by omega, by unfold Hid; rw [List.length_set]; exact HUL.out, wf_set HU.out _ _ (by omega) (by omega), by omega, by omega, HF.out, HRk _, rfl, by go_num, (HO.out.set (o + k) _).1, grown_trans HX.out (HO.out.set (o + k) _).2⟩
        case measure => simp [intOf]; omega
    · have hkl : k = vs.length + 1 := by omega
      subst hkl
      have HF := Lib.hid (show Vo us o (vs.length + 1) + cy * pw (vs.length + 1) = Vo xs o (vs.length + 1) + V vs vs.length by
        have h := HE.out
        rw [V_succ vs, nth_out vs vs.length (Nat.le_refl _), Int.zero_mul, Int.add_zero] at h
        exact h)
      go_wp2_with fail
      go_end0
      exact ⟨us, cy, hc0, hc1, rfl, HUL.out, HU.out, HF.out, HR.out, HO.out, HX.out⟩
theorem add0 (b : Addr) : b.add 0 = b := by obtain ⟨g, o, s⟩ := b; unfold Addr.add; split <;> simp_all
def Two (w : World) (x y : Nat) (e : Ending) (w' : World) : Prop := ∃ A c B d, e = .returned (.tuple #[.slice A (wd x).length c, .slice B (wd y).length d]) ∧ Own w' w.heap.size A c (wd x) ∧ Own w' w.heap.size B d (wd y) ∧ (∀ a b, A = some a → B = some b → a.block ≠ b.block) ∧ Ext w w'
set_option maxHeartbeats 1000000 in
theorem divide_less (A B : Option Addr) (m n c d : Nat) (w : World) (ha : Rd w A c (wd m)) (hb : Rd w B d (wd n)) (hlt : m < n) (lm : (wd m).length ≤ 8192) :
    Calls Tryz.prog 140 #[.slice A (wd m).length c, .slice B (wd n).length d] w (Two w (m / n) (m % n)) := by
  have hd : m / n = 0 := Nat.div_eq_of_lt hlt
  have hr : m % n = m := Nat.mod_eq_of_lt hlt
  rw [hd, hr]
  have HA := Lib.hid ha
  have HB := Lib.hid hb
  have hc : cmp m n < 0 := cmp_lt_iff.2 hlt
  clear ha hb hd hr
  go_enter Tryz.func140, Tryz.ntmps140
  go_wp2_with fail
  refine (compare_any _ _ _ _ _ _ _ HA.out HB.out).mono ?_; rintro e w1 ⟨rfl, hx1⟩
  have HX1 := Lib.hid hx1
  clear hx1
  go_wp2_with fail
  refine (clone_any _ _ _ _ (HA.out.ext HX1.out) (by omega)).mono ?_; rintro e w2 ⟨A2, c2, rfl, hO2, hx2⟩
  have HX2 := Lib.hid (HX1.out.trans hx2)
  have HO2 := Lib.hid (hO2.lower HX1.out.size)
  clear hx2 hO2
  go_wp2_with fail
  go_ret2
  exact ⟨none, 0, A2, c2, by rw [show (wd 0).length = 0 by rw [wd_zero]; rfl]; rfl, by rw [wd_zero]; exact Own.nil _ _, HO2.out, (fun _ _ h => by cases h), HX2.out⟩
set_option maxHeartbeats 1000000 in
theorem divide_one (A B : Option Addr) (m n c d : Nat) (w : World) (ha : Rd w A c (wd m)) (hb : Rd w B d (wd n)) (hge : n ≤ m) (hn : (wd n).length = 1) (lm : (wd m).length ≤ 8192) :
    Calls Tryz.prog 140 #[.slice A (wd m).length c, .slice B (wd n).length d] w (Two w (m / n) (m % n)) := by
  have HA := Lib.hid ha
  have HB := Lib.hid hb
  have hc : ¬ cmp m n < 0 := fun h => by have := cmp_lt_iff.1 h; omega
  have hn0 : n ≠ 0 := fun e => by have := wd_len_zero.2 e; omega
  have hn1 : n < 4294967296 := by have := nat_lt_of_len n 1 (by omega); rw [show pw 1 = 4294967296 from rfl] at this; omega
  have hword : nth (wd n) 0 = n := by rw [wd_pos n hn0, nth_cons_zero]; omega
  have hl1 : (((wd n).length : Int) == 1) = true := by rw [hn]; rfl
  have hp : 0 < (wd n).length := by omega
  obtain ⟨b, rfl, hcb⟩ := hb.at_ 0 hp
  obtain ⟨Q, hQ⟩ : ∃ Q, m / n = Q := ⟨_, rfl⟩
  obtain ⟨R, hR⟩ : ∃ R, m % n = R := ⟨_, rfl⟩
  have hRn : R < n := hR ▸ Nat.mod_lt m (by omega)
  have HQQ := Lib.hid hQ
  have HRR := Lib.hid hR
  rw [hQ, hR]
  clear hQ hR
  rw [hword, add0] at hcb
  clear ha hb hword
  have HN := Lib.hid hn
  clear hn
  go_enter Tryz.func140, Tryz.ntmps140
  go_wp2_with fail
  refine (compare_any _ _ _ _ _ _ _ HA.out HB.out).mono ?_; rintro e w1 ⟨rfl, hx1⟩
  have HX1 := Lib.hid hx1
  have hcb1 := hx1.cell hcb
  clear hx1 hcb
  go_wp2_with fail
  go_region_with (first | (go_at_call 139; refine (clone_any _ _ _ _ (HA.out.ext HX1.out.drew) (by omega)).mono ?_; rintro e w2 ⟨A2, c2, rfl, hO2, hx2⟩; have HX2 := Lib.hid (HX1.out.drew.trans hx2); have HO2 := Lib.hid hO2; have hcb2 := hx2.cell (show w1.drew.cell? _ = _ from hcb1); clear hx2 hO2) | (go_at_call 177; refine (small_any _ _ _ _ _ _ HO2.out (by omega) hn1 (by omega) Q R HQQ.out HRR.out).mono ?_; rintro e w3 ⟨rfl, hO3, hx3⟩; have HX3 := Lib.hid hx3; have HO3 := Lib.hid hO3; clear hx3 hO3))
  all_goals
    have hg : ∀ k, A2.map (·.block) = some k → w.heap.size ≤ k := fun k hk => by
      cases A2 with
      | none => cases hk
      | some a => cases hk; exact Nat.le_trans HX1.out.size HO2.out.block.1
    have HX4 := Lib.hid (HX2.out.grown HX3.out hg)
    clear hg
    go_wp2_with fail
    refine (of_any R _ (by omega)).mono ?_
    rintro e w5 ⟨A5, c5, rfl, hO5, hx5⟩
    have HA5 := Lib.hid (HO3.out.apart hO5 (Nat.le_refl _))
    have HX5 := Lib.hid (HX4.out.trans hx5)
    have HO3' := Lib.hid ((HO3.out.ext hx5).lower HX1.out.size)
    have HO5 := Lib.hid (hO5.lower HX4.out.size)
    clear hO5 hx5
    go_wp2_with fail
    go_ret2
    exact ⟨_, _, _, _, rfl, HO3'.out, HO5.out, HA5.out, HX5.out⟩
theorem V_sub (us : List Int) (o l : Nat) : V ((us.drop o).take l) l = Vo us o l := V_take _ _ _ (Nat.le_refl _)
set_option maxHeartbeats 4000000 in
theorem divide_long (A B : Option Addr) (m n c d : Nat) (w : World) (ha : Rd w A c (wd m)) (hb : Rd w B d (wd n)) (hge : n ≤ m) (hn : 2 ≤ (wd n).length) (lm : (wd m).length ≤ 8192) :
    Calls Tryz.prog 140 #[.slice A (wd m).length c, .slice B (wd n).length d] w (Two w (m / n) (m % n)) := by
  have HA := Lib.hid ha
  have HB := Lib.hid hb
  have hc : ¬ cmp m n < 0 := fun h => by have := cmp_lt_iff.1 h; omega
  have hn0 : n ≠ 0 := fun e => by have := wd_len_zero.2 e; omega
  have hl1 : (((wd n).length : Int) == 1) = false := beq_eq_false_iff_ne.2 (by omega)
  have hlm := wd_len_mono hge
  obtain ⟨K, hK⟩ : ∃ K, (wd n).length = K + 2 := ⟨(wd n).length - 2, by omega⟩
  obtain ⟨b, rfl, hcb⟩ := hb.at_ (K + 1) (by omega)
  obtain ⟨K1, hK1⟩ : ∃ K1, K1 = K + 1 := ⟨_, rfl⟩
  have hi : (((wd n).length : Int) - 1).toNat = K1 := by omega
  have bt := nth_wf (wf_wd n) (K + 1)
  have hnz := wd_last n hn0
  rw [show (wd n).length - 1 = K + 1 by omega] at hnz
  obtain ⟨t, ht⟩ := Int.eq_ofNat_of_zero_le bt.1
  have HT := Lib.hid ht
  rw [ht] at hcb bt hnz
  rw [← hK1] at hcb
  have HK := Lib.hid hK
  have HK1 := Lib.hid hK1
  clear ha hb hK ht hK1
  have ht0 : 0 < t := by omega
  have ht1 : t < 4294967296 := by omega
  clear hnz
  go_enter Tryz.func140, Tryz.ntmps140
  go_wp2_with fail
  refine (compare_any _ _ _ _ _ _ _ HA.out HB.out).mono ?_; rintro e w1 ⟨rfl, hx1⟩
  have HX1 := Lib.hid hx1
  have hcb1 := hx1.cell hcb
  clear hx1 hcb
  go_wp2_with fail
  refine (lz_any t _ ht0 ht1).mono ?_; rintro e w2 ⟨s, hs, rfl, hs1, hs2, rfl⟩
  have HS1 := Lib.hid hs1
  have HS2 := Lib.hid hs2
  clear hs1 hs2
  have hnw := norm_words n s (K + 2) hn0 HK.out (by rw [show K + 2 - 1 = K + 1 from rfl, HT.out]; exact HS1.out) (by rw [show K + 2 - 1 = K + 1 from rfl, HT.out]; exact HS2.out)
  obtain ⟨D, hD⟩ : ∃ D, D = n * 2 ^ s := ⟨_, rfl⟩
  rw [← hD] at hnw
  have HD := Lib.hid hD
  have HNW := Lib.hid hnw
  clear hnw hD
  go_wp2_with fail
  refine (up_any _ _ _ _ _ (HB.out.ext HX1.out) (wf_wd n) hs (by omega)).mono ?_; rintro e w3 ⟨g1, vs0, rfl, hvl, hvw, hvv, hO3, hx3⟩
  have HV0 := Lib.hid (show val vs0 = ((D : Nat) : Int) by rw [hvv, val_wd, HD.out, Int.natCast_mul, Int.natCast_pow]; rfl)
  have HX3 := Lib.hid (HX1.out.trans hx3)
  have HO3 := Lib.hid (hO3.lower HX1.out.size)
  have HVL := Lib.hid hvl
  have HVW := Lib.hid hvw
  clear hvv hx3 hO3 hvl hvw
  go_wp2_with fail
  refine (cut_own _ _ _ _ _ _ HO3.out HVL.out HVW.out _ HV0.out).mono ?_; rintro e w4 ⟨rfl, hO4, rfl⟩
  have HOv := Lib.hid hO4
  clear hO4 HO3 HV0 HVL HVW
  go_wp2_with fail
  refine (up_any _ _ _ _ _ (HA.out.ext HX3.out) (wf_wd m) hs (by omega)).mono ?_; rintro e w5 ⟨g2, us0, rfl, hul, huw, huv, hO5, hx5⟩
  have HU0 := Lib.hid (show val us0 = ((m * 2 ^ s : Nat) : Int) by rw [huv, val_wd, Int.natCast_mul, Int.natCast_pow]; rfl)
  have HAp := Lib.hid (show g2 ≠ g1 from fun e => HOv.out.apart hO5 (Nat.le_refl _) _ _ rfl rfl e.symm)
  have HX5 := Lib.hid (HX3.out.trans hx5)
  have HOu := Lib.hid (hO5.lower HX3.out.size)
  have HOv := Lib.hid (HOv.out.ext hx5)
  have HUL := Lib.hid hul
  have HUW := Lib.hid huw
  clear huv hx5 hO5 hul huw
  have hDl : (wd D).length ≤ (wd m).length + 1 := by have := HNW.out.2.1; have := HK.out; omega
  obtain ⟨Lq, hLq⟩ : ∃ Lq, (wd m).length + 1 - (wd D).length = Lq := ⟨_, rfl⟩
  go_wp2_with (at_make; refine wpList_mk rfl _ _ rfl Lq _ _ rfl rfl (by rw [← hLq]; omega) (by rw [← hLq]; omega) (by omega) ?_; intro w6 hO6 hG6)
  have HOq := Lib.hid hO6
  have HAq := Lib.hid (show g2 ≠ w5.heap.size ∧ g1 ≠ w5.heap.size from ⟨fun e => by have := HOu.out.block.2; simp only at this; omega, fun e => by have := HOv.out.block.2; simp only at this; omega⟩)
  have HX6 := Lib.hid (HX5.out.trans hG6)
  have HQB := Lib.hid HX5.out.size
  have HOu := Lib.hid (HOu.out.ext hG6)
  have HOv := Lib.hid (HOv.out.ext hG6)
  have HLQ := Lib.hid hLq
  clear hO6 hG6 hLq HX5
  generalize hgq : w5.heap.size = gq at *
  clear hgq HX3 HX1 HT HS1 HS2 hcb1 bt
  have hB0 : 0 < (wd D).length := by have := HNW.out.2.1; omega
  have HM := Lib.hid (show (D : Int) < pw (wd D).length from wd_lt_pw D)
  have HBeg := Lib.hid (show ((m * 2 ^ s : Nat) : Int) < (D : Int) * pw Lq by
    have := div_begin m n s (K + 2) (wd m).length rfl (by omega) (by have := HK.out; omega) hs (by rw [← HD.out]; exact HNW.out.1)
    rw [← HD.out, show (wd m).length + 1 - (K + 2) = Lq by have := HLQ.out; have := HNW.out.2.1; omega] at this
    exact this)
  obtain ⟨L, hL⟩ : ∃ L, L = (wd D).length := ⟨_, rfl⟩
  rw [← hL] at HM hB0 hDl HLQ ⊢
  have HL := Lib.hid hL
  have hLK : L = K + 2 := hL.trans HNW.out.2.1
  have HLK := Lib.hid hLK
  have hL2 : 2 ≤ L := by omega
  clear hL hLK
  have hlq : Lq ≤ (wd m).length := by have := HLQ.out; omega
  go_wp2_with fail
  go_loopw [11] (fun i wr => ∃ (k : Nat) (us qs : List Int), k ≤ Lq ∧ Hid (us.length = (wd m).length + 1) ∧ Hid (qs.length = Lq) ∧ Hid (Wf us) ∧ Hid (Wf qs) ∧ Hid ((D : Int) * val qs + val us = ((m * 2 ^ s : Nat) : Int)) ∧ Hid (val us < (D : Int) * pw k) ∧ Hid (∀ j, j < k → nth qs j = 0) ∧ i = .int .i64 ((k : Int) - 1) ∧ Hid (Own wr w.heap.size (some ⟨g2, 0, none⟩) ((wd m).length + 1) us) ∧ Hid (Own wr w.heap.size (some ⟨gq, 0, none⟩) Lq qs) ∧ Hid (Own wr w.heap.size (some ⟨g1, 0, none⟩) ((wd n).length + 1) (wd D)) ∧ Hid (Ext w wr)) (fun i _ => (intOf i + 1).toNat)
  case atStart => exact ⟨Lq, us0, List.replicate Lq 0, by omega, HUL.out, List.length_replicate, HUW.out, wf_zeros _, by show _ = _; rw [show val (List.replicate Lq 0) = 0 from V_zeros _ _, Int.mul_zero, Int.zero_add]; exact HU0.out, by show _ < _; rw [HU0.out]; exact HBeg.out, fun j _ => nth_zeros _ _, rfl, HOu.out, HOq.out.lower HQB.out, HOv.out, HX6.out⟩
  case round =>
    clear HOu HOq HOv HX6 HUL HUW HU0 HBeg
    obtain ⟨k, us, qs, hk, HUL, HQL, HW, HQW, HE, HB', HZ, rfl, HOu, HOq, HOv, HX⟩ := hrel
    cases k with
    | zero =>
      have hq0 := HQW.out.val_nonneg
      have hu0 := HW.out.val_nonneg
      obtain ⟨vq, hvq⟩ := Int.eq_ofNat_of_zero_le hq0
      obtain ⟨vu, hvu⟩ := Int.eq_ofNat_of_zero_le hu0
      have hend := div_end m n s vq vu (by omega) (by have := HE.out; rw [hvq, hvu, HD.out] at this; exact this) (by have := HB'.out; rw [hvu, pw_zero, HD.out] at this; omega)
      have hlu : Vo us 0 L = vu := by
        have h1 := val_split us 0 L (by rw [HUL.out]; omega)
        have h2 := (Vo_bd HW.out (0 + L) (us.length - (0 + L))).1
        have h3 : Vo us (0 + L) (us.length - (0 + L)) = 0 := by
          have h4 := HB'.out
          rw [pw_zero, Int.mul_one] at h4
          have h5 := HM.out
          have h6 := (Vo_bd HW.out 0 L).1
          rw [V_zero, pw_zero] at h1
          rcases Int.lt_or_le 0 (Vo us (0 + L) (us.length - (0 + L))) with h7 | h7
          · have h8 : pw (0 + L) * 1 ≤ pw (0 + L) * Vo us (0 + L) (us.length - (0 + L)) := Int.mul_le_mul_of_nonneg_left (by omega) (Int.le_of_lt (pw_pos _))
            rw [Nat.zero_add] at h8 h1
            omega
          · omega
        rw [h3, V_zero, pw_zero, hvu] at h1
        omega
      have htk : val (us.take L) = vu := by
        have : (us.take L).length = L := by rw [List.length_take, HUL.out]; omega
        unfold val
        rw [this, V_take _ _ _ (Nat.le_refl _)]
        exact hlu
      have HTL := Lib.hid (show (us.take L).length = L by rw [List.length_take, HUL.out]; omega)
      have HTW := Lib.hid (wf_take HW.out L)
      have HTO := Lib.hid (HOu.out.take L)
      have HTV := Lib.hid htk
      have HVQ := Lib.hid hvq
      have HQ := Lib.hid hend.1
      have HR := Lib.hid hend.2
      have hll : (wd vu).length ≤ 8193 := by
        have h1 := tl_all HTW.out
        rw [htk, Int.toNat_natCast] at h1
        rw [← h1, List.length_take, HTL.out]
        omega
      clear hq0 hu0 hvq hvu hend hlu htk
      have hbl : ((L : Int)) ≤ ((wd m).length : Int) + 1 := by omega
      go_wp2_with fail
      have HQO := Lib.hid (HOq.out.ext (Ext.refl wr).drew)
      have HQF : Hid (∀ wx, wr.drew.grownBy wx (some g2) → Own wx w.heap.size (some ⟨gq, 0, none⟩) Lq qs) := fun wx hg => HQO.out.kept hg (fun a ha e => by cases ha; injection e with e; exact HAq.out.1 e.symm)
      go_region_with (first | (go_at_call 183; refine (down_any _ vu s _ _ _ HTO2.out hs hll).mono ?_; rintro e w8 ⟨rfl, ho8, hg8⟩; have HO8 := Lib.hid ho8; have HG8 := Lib.hid hg8; clear ho8 hg8) | (go_at_call 137; with_reducible refine (cut_own (some ⟨gq, 0, none⟩) qs Lq w.heap.size Lq _ (by first | exact HQO.out | exact HQF.out _ HG8.out) HQL.out HQW.out _ HVQ.out).mono ?_; rintro e w7 ⟨rfl, _, rfl⟩) | (go_at_call 137; with_reducible refine (cut_own (some ⟨g2, 0, none⟩) (us.take L) _ w.heap.size L _ (HTO.out.ext (Ext.refl _).drew) HTL.out HTW.out _ HTV.out).mono ?_; rintro e w7 ⟨rfl, hou, rfl⟩; have HTO2 := Lib.hid hou; clear hou))
      all_goals
        have hq8 := HQF.out _ HG8.out
        have hqt := tl_all HQW.out
        have hqo := hq8.take (tl qs qs.length)
        rw [hqt, HVQ.out, Int.toNat_natCast, HQ.out] at hqo
        rw [HR.out] at HO8
        have HX8 := Lib.hid (HX.out.drew.grown HG8.out (fun k hk => by cases hk; exact HOu.out.block.1))
        have HQO8 := Lib.hid hqo
        clear hq8 hqt hqo
        rw [HQ.out, HR.out]
        go_wp2_with fail
        go_ret2
        exact ⟨_, _, _, _, rfl, HQO8.out, HO8.out, (fun a b ha hb => by cases ha; cases hb; exact fun e => HAq.out.1 e.symm), HX8.out⟩
    | succ k =>
      have e1 : (((k + 1 : Nat) : Int) - 1) = (k : Int) := by omega
      rw [e1]
      clear e1
      have hkL : k + (L + 1) ≤ (wd m).length + 1 := by have := HLQ.out; omega
      have hgu := Lib.hid (part_lt us k L D HW.out (by rw [HUL.out]; exact hkL) HB'.out)
      go_wp2_with fail
      rw [show k + L + 1 - k = L + 1 by omega]
      refine (guess_any _ _ _ (wd D) K _ _ wr (HOu.out.sub k (L + 1) _ (by rw [HUL.out]; omega) (by omega) (by omega)) HOv.out.rd (by rw [sub_len _ _ _ (by rw [HUL.out]; omega), HLK.out]) HNW.out.2.1 (wf_take (wf_drop HW.out k) _) (wf_wd D) HNW.out.2.2 ?h1 (by have := HLK.out; omega) L HLK.out).mono ?_
      case h1 =>
        rw [show K + 3 = L + 1 by have := HLK.out; omega, V_sub, show K + 2 = L from HLK.out.symm, V_out _ _ (by rw [← HL.out]; exact Nat.le_refl _), val_wd]
        exact hgu.out
      rintro e wg ⟨q, hq, rfl, hq1, hq2, hxg⟩
      rw [show K + 3 = L + 1 by have := HLK.out; omega, V_sub, show K + 2 = L from HLK.out.symm, V_out _ L (by rw [← HL.out]; exact Nat.le_refl _), val_wd] at hq1 hq2
      have HQ1 := Lib.hid hq1
      have HQ2 := Lib.hid hq2
      have HOu1 := Lib.hid (HOu.out.ext hxg)
      have HOq1 := Lib.hid (HOq.out.ext hxg)
      have HOv1 := Lib.hid (HOv.out.ext hxg)
      have HX1 := Lib.hid (HX.out.trans hxg)
      clear hq1 hq2 hxg HOu HOq HOv HX
      go_wp2_with fail
      have hoff := off_any (some ⟨g1, 0, none⟩) us (wd D) g2 k _ ((wd m).length + 1 - k) _ _ q wg HOu1.out HOv1.out.rd (fun b hb _ => by cases hb; exact fun e => HAp.out e.symm) (by rw [HUL.out, ← HL.out]; omega) HW.out (wf_wd D) hq (by rw [← HL.out]; omega)
      rw [← HL.out] at hoff
      refine hoff.mono ?_
      clear hoff
      rintro e wo ⟨us1, bo, hb0, hb1, rfl, hul1, hw1, hv1, hs1, ho1, hg1⟩
      rw [V_out _ L (by rw [← HL.out]; exact Nat.le_refl _), val_wd] at hv1
      have HOq2 := Lib.hid (HOq1.out.kept hg1 (fun a ha e => by cases ha; injection e with e; exact HAq.out.1 e.symm))
      have HOv2 := Lib.hid (HOv1.out.kept hg1 (fun a ha e => by cases ha; injection e with e; exact HAp.out e.symm))
      have HX2 := Lib.hid (HX1.out.grown hg1 (fun k hk => by cases hk; exact HOu1.out.block.1))
      have HOu2 := Lib.hid ho1
      clear hg1 ho1 HOu1 HOq1 HOv1 HX1
      have hco := HOq2.out.cell k (by rw [HQL.out]; omega)
      have hfo := HOq2.out.free k
      rw [HZ.out k (by omega)] at hco
      have hlk := Lib.hid (show nth qs k = 0 from HZ.out k (by omega))
      have hbo : bo = 0 ∨ bo = 1 := by omega
      have hbd := Vo_bd hw1 k (L + 1)
      rcases hbo with rfl | rfl
      · have hgd := off_good _ _ _ _ _ HQ1.out hv1
        have hpo := part_off us us1 k L D q HW.out (by rw [HUL.out]; omega) hul1 HM.out HB'.out hs1 hgd.1 hgd.2
        have HUL2 := Lib.hid (hul1.trans HUL.out)
        have HW2 := Lib.hid hw1
        have HB2 := Lib.hid hpo.2
        have HE2 := Lib.hid (q_round qs k q D _ _ _ (by rw [HQL.out]; omega) hlk.out HE.out hpo.1)
        obtain ⟨us2, hus2⟩ : ∃ us2, us2 = us1 := ⟨_, rfl⟩
        rw [← hus2] at HUL2 HW2 HB2 HE2 HOu2
        clear hgd hpo hul1 hw1 hv1 hs1 hbd hus2 hb0 hb1
        go_wp2_with fail
        go_roundw
        case rel => exact ⟨k, us2, qs.set k (q : Int), by omega, HUL2.out, by unfold Hid; rw [List.length_set]; exact HQL.out, HW2.out, wf_set HQW.out _ _ (by omega) (by omega), HE2.out, HB2.out, fun j hj => by rw [nth_set_ne _ _ _ _ (by omega)]; exact HZ.out j (by omega), rfl, (HOu2.out.kept (HOq2.out.set k _).2 (fun a ha e => by cases ha; injection e with e; exact HAq.out.1 e)), (HOq2.out.set k _).1, (HOv2.out.kept (HOq2.out.set k _).2 (fun a ha e => by cases ha; injection e with e; exact HAq.out.2 e)), HX2.out.setCell HQB.out _⟩
        case measure => simp [intOf]
      · have HV1 := Lib.hid hv1
        have HW1 := Lib.hid hw1
        have HUL1 := Lib.hid hul1
        have HS1 := Lib.hid hs1
        have hbd1 := Lib.hid hbd
        clear hv1 hw1 hul1 hs1 hbd hco hfo hb0 hb1
        go_wp2_with fail
        have hback := back_any (some ⟨g1, 0, none⟩) us1 (wd D) g2 k _ ((wd m).length + 1 - k) _ _ wo HOu2.out HOv2.out.rd (fun b hb _ => by cases hb; exact fun e => HAp.out e.symm) (by rw [HUL1.out, HUL.out, ← HL.out]; omega) HW1.out (wf_wd D) (by rw [← HL.out]; omega)
        rw [← HL.out] at hback
        refine hback.mono ?_
        clear hback
        rintro e wb ⟨us2, cy, hc0, hc1, rfl, hul2, hw2, hv2, hs2, ho2, hg2⟩
        rw [V_out _ L (by rw [← HL.out]; exact Nat.le_refl _), val_wd] at hv2
        have HOq3 := Lib.hid (HOq2.out.kept hg2 (fun a ha e => by cases ha; injection e with e; exact HAq.out.1 e.symm))
        have HOv3 := Lib.hid (HOv2.out.kept hg2 (fun a ha e => by cases ha; injection e with e; exact HAp.out e.symm))
        have HX3 := Lib.hid (HX2.out.grown hg2 (fun k hk => by cases hk; exact HOu2.out.block.1))
        have HOu3 := Lib.hid ho2
        clear hg2 ho2 HOu2 HOq2 HOv2 HX2
        have hco := HOq3.out.cell k (by rw [HQL.out]; omega)
        have hfo := HOq3.out.free k
        rw [HZ.out k (by omega)] at hco
        have hgd := off_back _ _ _ _ _ _ _ HQ2.out HV1.out hbd1.out (Vo_bd hw2 k (L + 1)) ⟨hc0, hc1⟩ hv2
        have hpo := part_off us us2 k L D ((q : Int) - 1) HW.out (by rw [HUL.out]; omega) (hul2.trans HUL1.out) HM.out HB'.out (fun j hj => (hs2 j hj).trans (HS1.out j hj)) hgd.1 hgd.2.1
        have HUL2 := Lib.hid ((hul2.trans HUL1.out).trans HUL.out)
        have HW2 := Lib.hid hw2
        have HB2 := Lib.hid hpo.2
        have HE2 := Lib.hid (q_round qs k ((q : Int) - 1) D _ _ _ (by rw [HQL.out]; omega) hlk.out HE.out hpo.1)
        have hq1 : 1 ≤ (q : Int) := by
          have h1 := (Vo_bd HW.out k (L + 1)).1
          have h2 := hgd.2.2
          have h3 : q ≠ 0 := fun e => by subst e; simp at h2; omega
          omega
        clear hgd hpo hul2 hw2 hv2 hs2 hc0 hc1
        go_wp2_with fail
        go_roundw
        case rel => exact ⟨k, us2, qs.set k ((q : Int) - 1), by omega, HUL2.out, by unfold Hid; rw [List.length_set]; exact HQL.out, HW2.out, wf_set HQW.out _ _ (by omega) (by omega), HE2.out, HB2.out, fun j hj => by rw [nth_set_ne _ _ _ _ (by omega)]; exact HZ.out j (by omega), rfl, (HOu3.out.kept (HOq3.out.set k _).2 (fun a ha e => by cases ha; injection e with e; exact HAq.out.1 e)), (HOq3.out.set k _).1, (HOv3.out.kept (HOq3.out.set k _).2 (fun a ha e => by cases ha; injection e with e; exact HAq.out.2 e)), HX3.out.setCell HQB.out _⟩
        case measure => simp [intOf]
theorem divide_any (A B : Option Addr) (m n c d : Nat) (w : World) (ha : Rd w A c (wd m)) (hb : Rd w B d (wd n)) (hn : n ≠ 0) (lm : (wd m).length ≤ 8192) :
    Calls Tryz.prog 140 #[.slice A (wd m).length c, .slice B (wd n).length d] w (Two w (m / n) (m % n)) := by
  have hl : (wd n).length ≠ 0 := fun e => hn (wd_len_zero.1 e)
  by_cases hlt : m < n
  · exact divide_less A B m n c d w ha hb hlt lm
  · by_cases h1 : (wd n).length = 1
    · exact divide_one A B m n c d w ha hb (by omega) h1 lm
    · exact divide_long A B m n c d w ha hb (by omega) (by omega) lm
def Three (w : World) (x y : Nat) (e : Ending) (w' : World) : Prop := ∃ A c B d, e = .returned (.tuple #[.slice A (wd x).length c, .slice B (wd y).length d, .int .i64 0]) ∧ Own w' w.heap.size A c (wd x) ∧ Own w' w.heap.size B d (wd y) ∧ (∀ a b, A = some a → B = some b → a.block ≠ b.block) ∧ Ext w w'
set_option maxHeartbeats 1000000 in
theorem divMod_any (A B : Option Addr) (m n c d : Nat) (w : World) (ha : Rd w A c (wd m)) (hb : Rd w B d (wd n)) (hn : n ≠ 0) (lm : (wd m).length ≤ 8192) (ln : (wd n).length ≤ 8192) :
    Calls Tryz.prog 88 #[.slice A (wd m).length c, .slice B (wd n).length d] w (Three w (m / n) (m % n)) := by
  have HA := Lib.hid ha
  have HB := Lib.hid hb
  have hl : (wd n).length ≠ 0 := fun e => hn (wd_len_zero.1 e)
  have hl1 : (((wd n).length : Int) == 0) = false := beq_eq_false_iff_ne.2 (by omega)
  clear ha hb
  go_enter Tryz.func88, Tryz.ntmps88
  go_wp2_with fail
  refine (checked_ok _ _ _ _ _ _ _ HA.out HB.out (by omega) (by omega)).mono ?_; rintro e w' ⟨rfl, rfl⟩
  go_wp2_with fail
  refine (divide_any _ _ _ _ _ _ _ HA.out HB.out hn lm).mono ?_; rintro e w1 ⟨A1, c1, B1, d1, rfl, h1, h2, h3, h4⟩
  have H1 := Lib.hid h1
  have H2 := Lib.hid h2
  have H3 := Lib.hid h3
  have H4 := Lib.hid h4
  clear h1 h2 h3 h4
  go_wp2_with fail
  go_ret3
  exact ⟨_, _, _, _, rfl, H1.out, H2.out, H3.out, H4.out⟩
theorem wd_two (n : Nat) (h : (wd n).length ≤ 2) : n < 18446744073709551616 := by
  have h1 := nat_lt_of_len n 2 h
  have h2 : pw 2 = 18446744073709551616 := rfl
  omega
theorem wd_two' (n : Nat) (h : n < 18446744073709551616) : (wd n).length ≤ 2 := by
  apply wd_len_le
  have h2 : pw 2 = 18446744073709551616 := rfl
  omega
set_option maxHeartbeats 1000000 in
theorem uint64_any (A : Option Addr) (n c : Nat) (w : World) (ha : Rd w A c (wd n)) (hn : (wd n).length ≤ 2) :
    Calls Tryz.prog 141 #[.slice A (wd n).length c] w fun e w' => e = .returned (.tuple #[.int .u64 n, .bool true]) ∧ w = w' := by
  have HA := Lib.hid ha
  have HT := Lib.hid (tl_wd n)
  clear ha
  go_enter Tryz.func141, Tryz.ntmps141
  go_wp2_with fail
  refine (cut_any _ _ _ _ HA.out).mono ?_; rintro e w' ⟨rfl, rfl⟩
  rw [HT.out]
  go_wp2_with fail
  go_loop [4, 14] (fun x i => ∃ k : Nat, k ≤ (wd n).length ∧ x = .int .u64 (V (wd n) k) ∧ i = .int .i64 k) (fun _ i => (wd n).length - (intOf i).toNat)
  case atStart => exact ⟨0, by omega, by rw [V_zero], rfl⟩
  case round =>
    obtain ⟨k, hk, rfl, rfl⟩ := hrel
    by_cases hkn : k < (wd n).length
    · obtain ⟨a, rfl, hca⟩ := HA.out.at_ k hkn
      have bx := nth_wf (wf_wd n) k
      have HV := Lib.hid (V_succ (wd n) k)
      have hk01 : k = 0 ∨ k = 1 := by omega
      rcases hk01 with rfl | rfl
      · have hor : bits .or .u64 0 (nth (wd n) 0) = nth (wd n) 0 := by
          have := or_word 0 (nth (wd n) 0) (by omega) bx
          simpa using this
        rw [V_zero]
        rw [add0] at hca
        go_wp2_with fail
        go_round
        case rel => exact ⟨1, by omega, by rw [HV.out, V_zero, pw_zero]; go_num, by go_num⟩
        case measure => simp [intOf]; omega
      · have hb := V_lt (wf_wd n) 1
        have hb0 := V_nonneg (wf_wd n) 1
        rw [show pw 1 = 4294967296 from rfl] at hb HV
        have hor := or_high (V (wd n) 1) (nth (wd n) 1) ⟨hb0, hb⟩ bx
        obtain ⟨v, hv⟩ : ∃ v, v = V (wd n) 1 := ⟨_, rfl⟩
        rw [← hv] at hor hb hb0 HV ⊢
        clear hv
        rw [show a.add 1 = ⟨a.block, a.off + 1, none⟩ from rfl] at hca
        go_wp2_with fail
        go_round
        case rel => exact ⟨2, by omega, by rw [HV.out], by go_num⟩
        case measure => simp [intOf]; omega
    · have HE := Lib.hid (show V (wd n) k = n by rw [V_out _ _ (by omega), val_wd])
      go_wp2_with fail
      go_ret2
      exact ⟨by rw [← HE.out]; rfl, rfl⟩
theorem gcd_step (p q : Nat) : Nat.gcd q (p % q) = Nat.gcd p q := by rw [Nat.gcd_comm p q, Nat.gcd_rec q p, Nat.gcd_comm]
def One (w : World) (x : Nat) (e : Ending) (w' : World) : Prop := ∃ A c, e = .returned (.tuple #[.slice A (wd x).length c, .int .i64 0]) ∧ Own w' w.heap.size A c (wd x) ∧ Ext w w'
set_option maxHeartbeats 2000000 in
theorem gcd_any (A B : Option Addr) (m n c d : Nat) (w : World) (ha : Rd w A c (wd m)) (hb : Rd w B d (wd n)) (lm : (wd m).length ≤ 8192) (ln : (wd n).length ≤ 8192) :
    Calls Tryz.prog 87 #[.slice A (wd m).length c, .slice B (wd n).length d] w (One w (Nat.gcd m n)) := by
  have HA := Lib.hid ha
  have HB := Lib.hid hb
  clear ha hb
  go_enter Tryz.func87, Tryz.ntmps87
  go_wp2_with fail
  refine (checked_ok _ _ _ _ _ _ _ HA.out HB.out lm ln).mono ?_; rintro e w' ⟨rfl, rfl⟩
  go_wp2_with fail
  refine (clone_any _ _ _ _ HA.out (by omega)).mono ?_; rintro e w1 ⟨A1, c1, rfl, h1, hx1⟩
  have H1 := Lib.hid h1
  have HX1 := Lib.hid hx1
  clear h1 hx1
  go_wp2_with fail
  refine (clone_any _ _ _ _ (HB.out.ext HX1.out) (by omega)).mono ?_; rintro e w2 ⟨A2, c2, rfl, h2, hx2⟩
  have H2 := Lib.hid (h2.lower HX1.out.size)
  have H1 := Lib.hid (H1.out.ext hx2)
  have HX2 := Lib.hid (HX1.out.trans hx2)
  clear h2 hx2
  go_wp2_with fail
  go_loopg [7, 8] n (fun q x y wr => ∃ (p : Nat) (P Q : Option Addr) (cp cq : Nat), x = .slice P (wd p).length cp ∧ y = .slice Q (wd q).length cq ∧ Hid (Nat.gcd p q = Nat.gcd m n) ∧ (wd p).length ≤ 8192 ∧ (wd q).length ≤ 8192 ∧ Hid (Own wr w.heap.size P cp (wd p)) ∧ Hid (Own wr w.heap.size Q cq (wd q)) ∧ Hid (Ext w wr))
  case atStart => exact ⟨m, A1, A2, c1, c2, rfl, rfl, rfl, lm, ln, H1.out, H2.out, HX2.out⟩
  case round =>
    clear H1 H2 HX1 HX2
    obtain ⟨p, P, Q, cp, cq, rfl, rfl, hg, lp, lq, HP, HQ, HX⟩ := hrel
    obtain ⟨q, rfl⟩ : ∃ q, q = gk := ⟨_, rfl⟩
    have hgc := Lib.hid (gcd_step p q)
    by_cases h2 : 2 < (wd q).length
    · have hq0 : q ≠ 0 := fun e => by have := wd_len_zero.2 e; omega
      have hml : p % q < q := Nat.mod_lt p (by omega)
      have hml2 := wd_len_mono (show p % q ≤ q by omega)
      go_wp2_with fail
      refine (divide_any _ _ _ _ _ _ _ HP.out.rd HQ.out.rd hq0 lp).mono ?_; rintro e w3 ⟨A3, c3, B3, d3, rfl, h1, h2, h3, h4⟩
      have HQ3 := Lib.hid (HQ.out.ext h4)
      have HR3 := Lib.hid (h2.lower HX.out.size)
      have HX3 := Lib.hid (HX.out.trans h4)
      obtain ⟨r, hr⟩ : ∃ r, r = p % q := ⟨_, rfl⟩
      rw [← hr] at hml hml2 hgc HR3 ⊢
      clear h1 h2 h3 h4 hr
      go_wp2_with fail
      go_roundg r
      case measure => exact hml
      case rel => exact ⟨q, Q, B3, cq, d3, rfl, rfl, hgc.out.trans hg.out, lq, by omega, HQ3.out, HR3.out, HX3.out⟩
    · by_cases h0 : (wd q).length = 0
      · have hq0 : q = 0 := wd_len_zero.1 h0
        have HE := Lib.hid (show p = Nat.gcd m n by rw [← hg.out, hq0, Nat.gcd_zero_right])
        have hbe : (((wd q).length : Int) == 0) = true := beq_iff_eq.2 (by omega)
        clear hq0 h0
        go_wp2_with fail
        go_ret2
        exact ⟨P, cp, by rw [← HE.out]; rfl, by rw [← HE.out]; exact HP.out, HX.out⟩
      · have hq0 : q ≠ 0 := fun e => h0 (wd_len_zero.2 e)
        have hbe : (((wd q).length : Int) == 0) = false := beq_eq_false_iff_ne.2 (by omega)
        have hml : p % q < q := Nat.mod_lt p (by omega)
        have hml2 := wd_len_mono (show p % q ≤ q by omega)
        go_wp2_with fail
        refine (divide_any _ _ _ _ _ _ _ HP.out.rd HQ.out.rd hq0 lp).mono ?_; rintro e w3 ⟨A3, c3, B3, d3, rfl, k1, k2, k3, k4⟩
        have HQ3 := Lib.hid (HQ.out.ext k4)
        have HR3 := Lib.hid (k2.lower HX.out.size)
        have HX3 := Lib.hid (HX.out.trans k4)
        obtain ⟨r, hr⟩ : ∃ r, r = p % q := ⟨_, rfl⟩
        rw [← hr] at hml hml2 hgc HR3 ⊢
        clear k1 k2 k3 k4 hr h0
        go_wp2_with fail
        refine (uint64_any _ _ _ _ HQ3.out.rd (by omega)).mono ?_; rintro e w' ⟨rfl, rfl⟩
        go_wp2_with fail
        refine (uint64_any _ _ _ _ HR3.out.rd (by omega)).mono ?_; rintro e w' ⟨rfl, rfl⟩
        have bq := wd_two q (by omega)
        have br := wd_two r (by omega)
        have hgq := Lib.hid (hgc.out.trans hg.out)
        go_wp2_with fail
        go_loopg [13, 15] r (fun y a b wr => ∃ x : Nat, a = .int .u64 x ∧ b = .int .u64 y ∧ x < 18446744073709551616 ∧ y < 18446744073709551616 ∧ Hid (Nat.gcd x y = Nat.gcd m n) ∧ Hid (Ext w wr))
        case atStart => exact ⟨q, rfl, rfl, bq, br, hgq.out, HX3.out⟩
        case round =>
          clear HX3 HR3 HQ3 hgq
          obtain ⟨x, rfl, rfl, bx, by_, hg2, HX4⟩ := hrel
          obtain ⟨y, rfl⟩ : ∃ y, y = gk := ⟨_, rfl⟩
          by_cases hy : y = 0
          · have HE := Lib.hid (show x = Nat.gcd m n by rw [← hg2.out, hy, Nat.gcd_zero_right])
            have hb0 : ((y : Int) != 0) = false := by rw [bne_eq_false_iff_eq]; omega
            clear hy
            go_wp2_with fail
            refine (of_any x _ bx).mono ?_; rintro e w5 ⟨A5, c5, rfl, h5, hx5⟩
            have H5 := Lib.hid (h5.lower HX4.out.size)
            have HX5 := Lib.hid (HX4.out.trans hx5)
            clear h5 hx5
            go_wp2_with fail
            go_ret2
            exact ⟨A5, c5, by rw [← HE.out]; rfl, by rw [← HE.out]; exact H5.out, HX5.out⟩
          · have hb0 : ((y : Int) != 0) = true := by rw [bne_iff_ne]; omega
            have hbe0 : ((y : Int) == 0) = false := beq_eq_false_iff_ne.2 (by omega)
            have hmy : x % y < y := Nat.mod_lt x (by omega)
            have hgs := Lib.hid ((gcd_step x y).trans hg2.out)
            have HC := Lib.hid (show ((x % y : Nat) : Int) = (x : Int) % (y : Int) from Int.natCast_emod x y)
            clear hy
            go_wp2_with fail
            go_quiet (fail)
            go_wp2_with fail
            go_roundg (x % y)
            case measure => exact hmy
            case rel => exact ⟨y, rfl, by rw [HC.out], by_, by omega, hgs.out, HX4.out.drewN _⟩
end Go.Proofs.YtjoonfegjobgbaaGreatDoor
