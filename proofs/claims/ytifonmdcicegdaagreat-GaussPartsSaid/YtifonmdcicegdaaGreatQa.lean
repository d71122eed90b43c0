/- Texts of this claim, joined: P1 M1 N1 N2 N3 N4. -/
import Derived.Test.YtifonmdcicegdaaGreatProg
import Derived.WalkKit
import Derived.WalkSpells
import Derived.WalkLawsBesides
import Derived.BigQuiet
import Derived.Deep.QuietTactic
import Derived.Deep.LoopGhost
import Derived.Deep.DeepCutAuto
import Derived.Deep.RegionWith
import Derived.Lib.Hide
import Derived.IntWalk
import Derived.WalkSmall
/- Plain lists of words of 32 bits and the numbers that they say: no program in sight. -/
namespace Go.Proofs.YtifonmdcicegdaaGreat

/-- the word at a place; 0 behind the end -/
def nth (xs : List Int) (j : Nat) : Int := xs.getD j 0
/-- every word is one -/
def Wf (xs : List Int) : Prop := ∀ x ∈ xs, 0 ≤ x ∧ x < 4294967296
/-- how many words are left of the first n, without noughts at the end -/
def tl (xs : List Int) : Nat → Nat
  | 0 => 0
  | n + 1 => if nth xs n = 0 then tl xs n else n + 1
/-- what the place n weighs -/
def pw (n : Nat) : Int := 4294967296 ^ n
/-- what the first n words say -/
def V (xs : List Int) : Nat → Int
  | 0 => 0
  | n + 1 => V xs n + nth xs n * pw n
/-- what all words say -/
def val (xs : List Int) : Int := V xs xs.length
/-- a number's words, the lowest first -/
def wd (n : Nat) : List Int := if h : n = 0 then [] else ((n % 4294967296 : Nat) : Int) :: wd (n / 4294967296)
termination_by n
decreasing_by exact Nat.div_lt_self (by omega) (by omega)

theorem tl_zero (xs : List Int) (k : Nat) (h : nth xs k = 0) : tl xs (k + 1) = tl xs k := by
  show (if _ then _ else _) = _; rw [if_pos h]
theorem tl_here (xs : List Int) (k : Nat) (h : nth xs k ≠ 0) : tl xs (k + 1) = k + 1 := by
  show (if _ then _ else _) = _; rw [if_neg h]
theorem tl_le (xs : List Int) : ∀ n, tl xs n ≤ n
  | 0 => Nat.le_refl _
  | n + 1 => by unfold tl; split; exact Nat.le_succ_of_le (tl_le xs n); exact Nat.le_refl _

theorem nth_cons_zero (x : Int) (xs : List Int) : nth (x :: xs) 0 = x := rfl
theorem nth_cons_succ (x : Int) (xs : List Int) (j : Nat) : nth (x :: xs) (j + 1) = nth xs j := rfl
theorem nth_nil (j : Nat) : nth [] j = 0 := by simp [nth]
theorem nth_out (xs : List Int) (j : Nat) (h : xs.length ≤ j) : nth xs j = 0 := by simp [nth, List.getD_eq_getElem?_getD, List.getElem?_eq_none h]
theorem nth_lt (xs : List Int) (j : Nat) (h : j < xs.length) : nth xs j = xs[j] := by simp [nth, List.getD_eq_getElem?_getD, List.getElem?_eq_getElem h]
theorem nth_wf {xs : List Int} (h : Wf xs) (j : Nat) : 0 ≤ nth xs j ∧ nth xs j < 4294967296 := by
  by_cases hj : j < xs.length
  · rw [nth_lt xs j hj]; exact h _ (List.getElem_mem hj)
  · rw [nth_out xs j (by omega)]; omega
theorem nth_set_self (xs : List Int) (j : Nat) (v : Int) (h : j < xs.length) : nth (xs.set j v) j = v := by
  rw [nth_lt _ _ (by simpa using h)]; simp
theorem nth_set_ne (xs : List Int) (j k : Nat) (v : Int) (h : j ≠ k) : nth (xs.set j v) k = nth xs k := by
  simp [nth, List.getD_eq_getElem?_getD, h]
theorem nth_take (xs : List Int) (n j : Nat) (h : j < n) : nth (xs.take n) j = nth xs j := by
  simp [nth, List.getD_eq_getElem?_getD, h]
theorem nth_drop (xs : List Int) (n j : Nat) : nth (xs.drop n) j = nth xs (n + j) := by
  simp [nth, List.getD_eq_getElem?_getD, List.getElem?_drop]
theorem nth_append_left (xs ys : List Int) (j : Nat) (h : j < xs.length) : nth (xs ++ ys) j = nth xs j := by
  simp [nth, List.getD_eq_getElem?_getD, List.getElem?_append_left h]
theorem nth_append_right (xs ys : List Int) (j : Nat) : nth (xs ++ ys) (xs.length + j) = nth ys j := by
  simp [nth, List.getD_eq_getElem?_getD, List.getElem?_append_right]
theorem nth_zeros (n j : Nat) : nth (List.replicate n (0 : Int)) j = 0 := by
  simp only [nth, List.getD_eq_getElem?_getD, List.getElem?_replicate]; split <;> rfl
theorem wf_set {xs : List Int} (h : Wf xs) (j : Nat) (v : Int) (h0 : 0 ≤ v) (h1 : v < 4294967296) : Wf (xs.set j v) := by
  intro x hx
  rcases List.mem_or_eq_of_mem_set hx with hx | rfl
  · exact h x hx
  · exact ⟨h0, h1⟩
theorem wf_zeros (n : Nat) : Wf (List.replicate n (0 : Int)) := by
  intro x hx; rw [List.mem_replicate] at hx; omega
theorem wf_take {xs : List Int} (h : Wf xs) (n : Nat) : Wf (xs.take n) := fun x hx => h x (List.mem_of_mem_take hx)
theorem wf_drop {xs : List Int} (h : Wf xs) (n : Nat) : Wf (xs.drop n) := fun x hx => h x (List.mem_of_mem_drop hx)
theorem wf_append {xs ys : List Int} (h : Wf xs) (k : Wf ys) : Wf (xs ++ ys) := fun x hx => (List.mem_append.1 hx).elim (h x) (k x)
theorem wf_nil : Wf [] := fun x hx => by cases hx
theorem ext_nth {xs ys : List Int} (hl : xs.length = ys.length) (h : ∀ j, j < xs.length → nth xs j = nth ys j) : xs = ys := by
  apply List.ext_getElem hl
  intro j h1 h2
  have := h j h1
  rwa [nth_lt _ _ h1, nth_lt _ _ h2] at this

theorem pw_zero : pw 0 = 1 := rfl
theorem pw_succ (n : Nat) : pw (n + 1) = 4294967296 * pw n := by unfold pw; rw [Int.pow_succ, Int.mul_comm]
theorem pw_pos (n : Nat) : 0 < pw n := Int.pow_pos (by omega)
theorem pw_add (m n : Nat) : pw (m + n) = pw m * pw n := by unfold pw; rw [Int.pow_add]
theorem pw_mono {m n : Nat} (h : m ≤ n) : pw m ≤ pw n := by
  obtain ⟨d, rfl⟩ := Nat.le.dest h
  rw [pw_add]
  have h1 := pw_pos m
  have h2 := pw_pos d
  calc pw m = pw m * 1 := (Int.mul_one _).symm
    _ ≤ pw m * pw d := Int.mul_le_mul_of_nonneg_left (by omega) (by omega)

theorem V_zero (xs : List Int) : V xs 0 = 0 := rfl
theorem V_succ (xs : List Int) (n : Nat) : V xs (n + 1) = V xs n + nth xs n * pw n := rfl
theorem V_congr {xs ys : List Int} : ∀ n, (∀ j, j < n → nth xs j = nth ys j) → V xs n = V ys n
  | 0, _ => rfl
  | n + 1, h => by rw [V_succ, V_succ, V_congr n (fun j hj => h j (by omega)), h n (by omega)]
theorem V_zeros (m : Nat) : ∀ n, V (List.replicate m (0 : Int)) n = 0
  | 0 => rfl
  | n + 1 => by rw [V_succ, V_zeros m n, nth_zeros]; omega
theorem V_nonneg {xs : List Int} (h : Wf xs) : ∀ n, 0 ≤ V xs n
  | 0 => Int.le_refl _
  | n + 1 => by
    rw [V_succ]
    have := V_nonneg h n
    have := Int.mul_nonneg (nth_wf h n).1 (Int.le_of_lt (pw_pos n))
    omega
theorem V_lt {xs : List Int} (h : Wf xs) : ∀ n, V xs n < pw n
  | 0 => by show (0 : Int) < 1; omega
  | n + 1 => by
    rw [V_succ, pw_succ]
    have h1 := V_lt h n
    have h2 : nth xs n * pw n ≤ 4294967295 * pw n := Int.mul_le_mul_of_nonneg_right (by have := (nth_wf h n).2; omega) (Int.le_of_lt (pw_pos n))
    omega
theorem V_out (xs : List Int) (n : Nat) (h : xs.length ≤ n) : V xs n = val xs := by
  obtain ⟨d, rfl⟩ := Nat.le.dest h
  induction d with
  | zero => rfl
  | succ d ih =>
    show V xs (xs.length + d + 1) = _
    rw [V_succ, ih (by omega), nth_out _ _ (by omega)]
    omega
theorem V_set_ge (xs : List Int) (j n : Nat) (v : Int) (h : n ≤ j) : V (xs.set j v) n = V xs n :=
  V_congr n (fun i hi => nth_set_ne xs j i v (by omega))
theorem V_set (xs : List Int) (j : Nat) (v : Int) (hj : j < xs.length) : ∀ n, j < n → V (xs.set j v) n = V xs n + (v - nth xs j) * pw j
  | 0, h => by omega
  | n + 1, h => by
    rw [V_succ, V_succ]
    by_cases e : j = n
    · subst e
      rw [V_set_ge _ _ _ _ (Nat.le_refl _), nth_set_self _ _ _ hj, Int.sub_mul]
      omega
    · rw [V_set xs j v hj n (by omega), nth_set_ne _ _ _ _ e]
      omega
theorem V_take (xs : List Int) (n m : Nat) (h : m ≤ n) : V (xs.take n) m = V xs m := V_congr m (fun j hj => nth_take xs n j (by omega))
/-- the words from n on weigh pw n -/
theorem V_drop (xs : List Int) (n : Nat) : ∀ m, V xs (n + m) = V xs n + pw n * V (xs.drop n) m
  | 0 => by rw [V_zero, Int.mul_zero]; simp
  | m + 1 => by
    show V xs (n + m + 1) = _
    rw [V_succ, V_drop xs n m, V_succ, nth_drop, pw_add, Int.mul_add]
    have : nth xs (n + m) * (pw n * pw m) = pw n * (nth xs (n + m) * pw m) := by
      rw [← Int.mul_assoc, Int.mul_comm (nth xs (n+m)) (pw n), Int.mul_assoc]
    omega
theorem V_cons (x : Int) (xs : List Int) (n : Nat) : V (x :: xs) (n + 1) = x + 4294967296 * V xs n := by
  have := V_drop (x :: xs) 1 n
  rw [Nat.add_comm 1 n] at this
  rw [this]
  show V (x :: xs) 0 + nth (x :: xs) 0 * pw 0 + pw 1 * V xs n = _
  have e : pw 1 = 4294967296 := rfl
  rw [V_zero, nth_cons_zero, pw_zero, e]
  omega
theorem V_tl (xs : List Int) : ∀ n, V xs (tl xs n) = V xs n
  | 0 => rfl
  | n + 1 => by
    by_cases h : nth xs n = 0
    · rw [tl_zero xs n h, V_tl xs n, V_succ, h]; omega
    · rw [tl_here xs n h]
theorem tl_last (xs : List Int) : ∀ n, tl xs n ≠ 0 → nth xs (tl xs n - 1) ≠ 0
  | 0, h => absurd rfl h
  | n + 1, h => by
    by_cases hz : nth xs n = 0
    · rw [tl_zero xs n hz] at h ⊢; exact tl_last xs n h
    · rw [tl_here xs n hz]; simpa using hz

theorem wd_zero : wd 0 = [] := by unfold wd; simp
theorem wd_pos (n : Nat) (h : n ≠ 0) : wd n = ((n % 4294967296 : Nat) : Int) :: wd (n / 4294967296) := by
  conv => lhs; unfold wd
  rw [dif_neg h]
theorem wf_wd (n : Nat) : Wf (wd n) := by
  induction n using Nat.strongRecOn with
  | _ n ih =>
    by_cases h : n = 0
    · subst h; rw [wd_zero]; exact wf_nil
    · rw [wd_pos n h]
      intro x hx
      rcases List.mem_cons.1 hx with rfl | hx
      · omega
      · exact ih (n / 4294967296) (Nat.div_lt_self (by omega) (by omega)) x hx
theorem val_wd (n : Nat) : val (wd n) = n := by
  induction n using Nat.strongRecOn with
  | _ n ih =>
    by_cases h : n = 0
    · subst h; rw [wd_zero]; rfl
    · have := ih (n / 4294967296) (Nat.div_lt_self (by omega) (by omega))
      rw [wd_pos n h]
      show V _ (_ + 1) = _
      rw [V_cons]
      show _ + 4294967296 * val (wd (n / 4294967296)) = _
      rw [this]
      omega
theorem wd_eq_nil {n : Nat} (h : wd n = []) : n = 0 := by
  have := val_wd n
  rw [h] at this
  exact (Int.ofNat.inj this).symm
theorem wd_len_zero {n : Nat} : (wd n).length = 0 ↔ n = 0 :=
  ⟨fun h => wd_eq_nil (List.eq_nil_of_length_eq_zero h), fun h => by subst h; rw [wd_zero]; rfl⟩
theorem wd_inj {m n : Nat} (h : wd m = wd n) : m = n := by
  have h1 := val_wd m
  rw [h, val_wd n] at h1
  exact (Int.ofNat.inj h1).symm
/-- the last word of a number is not 0 -/
theorem wd_last (n : Nat) (h : n ≠ 0) : nth (wd n) ((wd n).length - 1) ≠ 0 := by
  induction n using Nat.strongRecOn with
  | _ n ih =>
    rw [wd_pos n h]
    by_cases h2 : n / 4294967296 = 0
    · rw [h2, wd_zero]
      show ((n % 4294967296 : Nat) : Int) ≠ 0
      omega
    · have := ih (n / 4294967296) (Nat.div_lt_self (by omega) (by omega)) h2
      have hl : (wd (n / 4294967296)).length ≠ 0 := fun e => h2 (wd_len_zero.1 e)
      obtain ⟨k, hk⟩ := Nat.exists_eq_succ_of_ne_zero hl
      simp only [List.length_cons, hk, Nat.succ_eq_add_one, Nat.add_sub_cancel] at this ⊢
      rw [nth_cons_succ]
      exact this
/-- words without a nought at the end are those of what they say -/
theorem wd_val {xs : List Int} (h : Wf xs) (hn : xs ≠ [] → nth xs (xs.length - 1) ≠ 0) : wd (val xs).toNat = xs := by
  induction xs with
  | nil => show wd 0 = []; exact wd_zero
  | cons x xs ih =>
    have hx := h x (List.mem_cons_self ..)
    have hw : Wf xs := fun y hy => h y (List.mem_cons_of_mem _ hy)
    have hv : val (x :: xs) = x + 4294967296 * val xs := V_cons x xs xs.length
    have hnn := V_nonneg hw xs.length
    have hnv : 0 ≤ val xs := hnn
    have hpos : (val (x :: xs)).toNat ≠ 0 := by
      intro e
      have hz : x + 4294967296 * val xs = 0 := by omega
      cases xs with
      | nil =>
        have := hn (by simp)
        rw [show (([x] : List Int).length - 1) = 0 from rfl, nth_cons_zero] at this
        have e0 : val ([] : List Int) = 0 := rfl
        omega
      | cons y ys =>
        have h0 : val (y :: ys) = 0 := by omega
        have hw2 := hn (by simp)
        have hlast : nth (y :: ys) ((y :: ys).length - 1) ≠ 0 := by
          simpa [nth_cons_succ] using hw2
        have hpl := V_succ (y :: ys) ((y :: ys).length - 1)
        have e1 : (y :: ys).length - 1 + 1 = (y :: ys).length := by simp
        rw [e1] at hpl
        have a := V_nonneg hw ((y :: ys).length - 1)
        have b := nth_wf hw ((y :: ys).length - 1)
        have c := Int.mul_pos (show 0 < nth (y :: ys) ((y :: ys).length - 1) by omega) (pw_pos ((y :: ys).length - 1))
        have : val (y :: ys) = V (y :: ys) (y :: ys).length := rfl
        omega
    rw [wd_pos _ hpos]
    have hq : (val (x :: xs)).toNat / 4294967296 = (val xs).toNat := by omega
    have hr : (((val (x :: xs)).toNat % 4294967296 : Nat) : Int) = x := by omega
    rw [hq, hr]
    rw [ih hw ?_]
    intro hne
    have := hn (by simp)
    obtain ⟨k, hk⟩ := Nat.exists_eq_succ_of_ne_zero (fun e => hne (List.eq_nil_of_length_eq_zero e) : xs.length ≠ 0)
    simp only [List.length_cons, hk, Nat.succ_eq_add_one, Nat.add_sub_cancel] at this ⊢
    rwa [nth_cons_succ] at this
/-- words cut at their end are those of what they say -/
theorem take_tl {xs : List Int} (h : Wf xs) (n : Nat) (hn : n ≤ xs.length) : xs.take (tl xs n) = wd (V xs n).toNat := by
  have ht := tl_le xs n
  have hl : (xs.take (tl xs n)).length = tl xs n := by rw [List.length_take]; omega
  rw [← V_tl xs n, ← V_take xs (tl xs n) (tl xs n) (Nat.le_refl _)]
  have := wd_val (wf_take h (tl xs n)) (fun hne => by
    have h0 : tl xs n ≠ 0 := fun e => hne (by rw [e]; rfl)
    rw [hl, nth_take _ _ _ (by omega)]
    exact tl_last xs n h0)
  unfold val at this
  rw [hl] at this
  exact this.symm
theorem tl_all {xs : List Int} (h : Wf xs) : xs.take (tl xs xs.length) = wd (val xs).toNat := take_tl h _ (Nat.le_refl _)
theorem tl_wd (n : Nat) : tl (wd n) (wd n).length = (wd n).length := by
  have h := tl_all (wf_wd n)
  rw [val_wd] at h
  have h2 := congrArg List.length h
  rw [List.length_take] at h2
  have := tl_le (wd n) (wd n).length
  simp at h2
  omega
theorem tl_wd' (n k : Nat) (h : k = (wd n).length) : tl (wd n) k = k := by subst h; exact tl_wd n
theorem wd_lt_pw (n : Nat) : (n : Int) < pw (wd n).length := by
  have := V_lt (wf_wd n) (wd n).length
  have e := val_wd n
  unfold val at e
  omega
theorem pw_le_wd (n : Nat) (h : n ≠ 0) : pw ((wd n).length - 1) ≤ n := by
  have e := val_wd n
  unfold val at e
  have hl : (wd n).length ≠ 0 := fun e => h (wd_len_zero.1 e)
  obtain ⟨k, hk⟩ := Nat.exists_eq_succ_of_ne_zero hl
  have hz := wd_last n h
  rw [hk] at e hz ⊢
  simp only [Nat.succ_eq_add_one, Nat.add_sub_cancel] at *
  rw [V_succ] at e
  have a := V_nonneg (wf_wd n) k
  have b := nth_wf (wf_wd n) k
  have c : 1 * pw k ≤ nth (wd n) k * pw k := Int.mul_le_mul_of_nonneg_right (by omega) (Int.le_of_lt (pw_pos k))
  omega
theorem pw_lt {m n : Nat} (h : pw m < pw n) : m < n := by
  by_cases hc : m < n
  · exact hc
  · have := pw_mono (show n ≤ m by omega); omega
theorem wd_len_le (n k : Nat) (h : (n : Int) < pw k) : (wd n).length ≤ k := by
  by_cases h0 : n = 0
  · subst h0; rw [wd_zero]; exact Nat.zero_le _
  · have := pw_le_wd n h0
    have := pw_lt (show pw ((wd n).length - 1) < pw k by omega)
    omega
theorem wd_len_mono {m n : Nat} (h : m ≤ n) : (wd m).length ≤ (wd n).length := wd_len_le m _ (by have := wd_lt_pw n; omega)
theorem wd_len_lt {m n : Nat} (h : (wd m).length < (wd n).length) : m < n := by
  by_cases hc : m < n
  · exact hc
  · have := wd_len_mono (show n ≤ m by omega); omega
theorem nat_lt_of_len (n k : Nat) (h : (wd n).length ≤ k) : (n : Int) < pw k := by
  have := wd_lt_pw n
  have := pw_mono h
  omega
theorem wd_len_add (m n : Nat) : (wd (m + n)).length ≤ max (wd m).length (wd n).length + 1 := by
  apply wd_len_le
  rw [pw_succ]
  have h1 := nat_lt_of_len m _ (Nat.le_max_left (wd m).length (wd n).length)
  have h2 := nat_lt_of_len n _ (Nat.le_max_right (wd m).length (wd n).length)
  omega
theorem wd_len_mul (m n : Nat) : (wd (m * n)).length ≤ (wd m).length + (wd n).length := by
  apply wd_len_le
  rw [pw_add, Int.natCast_mul]
  have h1 := wd_lt_pw m
  have h2 := wd_lt_pw n
  have h3 := pw_pos (wd m).length
  calc (m : Int) * n ≤ pw (wd m).length * n := Int.mul_le_mul_of_nonneg_right (by omega) (by omega)
    _ < pw (wd m).length * pw (wd n).length := Int.mul_lt_mul_of_pos_left h2 h3

/-- nat.Check's answer -/
def chk (xs : List Int) : Int := if 8192 < xs.length then 3 else if xs ≠ [] ∧ nth xs (xs.length - 1) = 0 then 11 else 0
theorem chk_wd (n : Nat) (h : (wd n).length ≤ 8192) : chk (wd n) = 0 := by
  unfold chk
  rw [if_neg (by omega), if_neg]
  rintro ⟨h1, h2⟩
  exact wd_last n (fun e => h1 (by rw [e, wd_zero])) h2

/-- the first error of two -/
def chk2 (xs ys : List Int) : Int := if chk xs = 0 then chk ys else chk xs

/-- -1, 0, 1: below, the same, above -/
def cmp (m n : Nat) : Int := if m < n then -1 else if n < m then 1 else 0
theorem cmp_lt {m n : Nat} (h : m < n) : cmp m n = -1 := if_pos h
theorem cmp_gt {m n : Nat} (h : n < m) : cmp m n = 1 := by unfold cmp; rw [if_neg (by omega), if_pos h]
theorem cmp_eq {m n : Nat} (h : m = n) : cmp m n = 0 := by unfold cmp; rw [if_neg (by omega), if_neg (by omega)]
theorem cmp_lt_iff {m n : Nat} : cmp m n < 0 ↔ m < n := by unfold cmp; split <;> (try split) <;> omega

end Go.Proofs.YtifonmdcicegdaaGreat

/- What is said of memory: a slice of words that is read; a row of the call's own; nothing that was there has turned. -/
namespace Go.Proofs.YtifonmdcicegdaaGreat
open Go Go.RowKit

/-- Nothing that was there has turned. -/
def Ext (w w' : World) : Prop := Below w.heap.size w w'
theorem Ext.refl (w : World) : Ext w w := Below.refl _ _
theorem Ext.size {w w' : World} (h : Ext w w') : w.heap.size ≤ w'.heap.size := Below.size h
theorem Ext.trans {a b c : World} (h : Ext a b) (k : Ext b c) : Ext a c := Below.trans h (Below.mono k h.size)
theorem Ext.alloc {a w : World} (h : Ext a w) (o : Obj) : Ext a (w.alloc o) := Below.alloc h (Below.size h) o
theorem Ext.drew {a w : World} (h : Ext a w) : Ext a w.drew := Below.drew h
theorem Ext.drewN {a w : World} (h : Ext a w) (n : Nat) : Ext a (w.drewN n) := below_drewN h n
theorem Ext.setCell {a w : World} (h : Ext a w) {p : Addr} (hp : a.heap.size ≤ p.block) (u : Value) : Ext a (w.setCell p u) := Below.setCell h hp u
theorem Ext.grown {a w w' : World} {row : Option Nat} (h : Ext a w) (hg : w.grownBy w' row) (hr : ∀ k, row = some k → a.heap.size ≤ k) : Ext a w' := Below.grown h hg (Below.size h) hr
theorem Ext.grownNone {a w w' : World} (h : Ext a w) (hg : w.grownBy w' none) : Ext a w' := h.grown hg (fun _ e => by cases e)
theorem Ext.by_ {w w' : World} (h : Ext w w') (row : Option Nat) : w.grownBy w' row := ⟨h.os, h.tape, h.output, Below.size h, fun k hk _ => h.block k hk⟩
theorem Ext.cell {w w' : World} (h : Ext w w') {p : Addr} {v : Value} (hc : w.cell? p = some v) : w'.cell? p = some v := (Below.cell h (World.block_lt_of_cell? w p hc)).trans hc
theorem Ext.frozen {w w' : World} (h : Ext w w') {p : Addr} {v : Value} (hc : w.cell? p = some v) : w'.frozen? p = w.frozen? p := Below.frozen h (World.block_lt_of_cell? w p hc)

theorem grown_trans {a b c : World} {row : Option Nat} (h : a.grownBy b row) (k : b.grownBy c row) : a.grownBy c row :=
  ⟨k.os.trans h.os, k.tape.trans h.tape, k.output.trans h.output, Nat.le_trans h.size k.size, fun i hi hr => (k.block i (Nat.lt_of_lt_of_le hi h.size) hr).trans (h.block i hi hr)⟩
theorem grown_alloc {a b : World} {row : Option Nat} (h : a.grownBy b row) (o : Obj) : a.grownBy (b.alloc o) row := grown_trans h (World.grownBy_alloc b o row)
theorem grown_drewN {a b : World} {row : Option Nat} (h : a.grownBy b row) (n : Nat) : a.grownBy (b.drewN n) row := ⟨h.os, h.tape, h.output, h.size, h.block⟩
theorem grown_ext {a b c : World} {row : Option Nat} (h : a.grownBy b row) (k : Ext b c) : a.grownBy c row := grown_trans h (k.by_ row)

/-- words as cells -/
def nums (xs : List Int) : List Value := xs.map (Value.int .u32)
theorem nums_length (xs : List Int) : (nums xs).length = xs.length := by simp [nums]
theorem nums_at (xs : List Int) (j : Nat) (h : j < xs.length) : (nums xs)[j]? = some (.int .u32 (nth xs j)) := by
  simp [nums, List.getElem?_map, List.getElem?_eq_getElem h, nth_lt xs j h]
theorem nums_set (xs : List Int) (j : Nat) (v : Int) : (nums xs).set j (.int .u32 v) = nums (xs.set j v) := by simp [nums, List.map_set]

/-- A slice of words that is read: at A, with room for c. -/
structure Rd (w : World) (A : Option Addr) (c : Nat) (xs : List Int) : Prop where
  cap : xs.length ≤ c
  capm : c ≤ 9223372036854775807
  none_ : A = none → c = 0
  at_ : ∀ j, j < xs.length → ∃ a, A = some a ∧ w.cell? (a.add j) = some (.int .u32 (nth xs j))
theorem Rd.lim {w : World} {A : Option Addr} {c : Nat} {xs : List Int} (h : Rd w A c xs) : xs.length ≤ 9223372036854775807 := Nat.le_trans h.cap h.capm
theorem Rd.ext {w w' : World} {A : Option Addr} {c : Nat} {xs : List Int} (h : Rd w A c xs) (e : Ext w w') : Rd w' A c xs :=
  ⟨h.cap, h.capm, h.none_, fun j hj => let ⟨a, ha, hc⟩ := h.at_ j hj; ⟨a, ha, e.cell hc⟩⟩
theorem Rd.take {w : World} {A : Option Addr} {c : Nat} {xs : List Int} (h : Rd w A c xs) (n : Nat) : Rd w A c (xs.take n) :=
  ⟨by have := h.cap; rw [List.length_take]; omega, h.capm, h.none_, fun j hj => by
    rw [List.length_take] at hj
    obtain ⟨a, ha, hc⟩ := h.at_ j (by omega)
    exact ⟨a, ha, by rw [nth_take xs n j (by omega)]; exact hc⟩⟩
theorem Rd.kept {w w' : World} {A : Option Addr} {c : Nat} {xs : List Int} (h : Rd w A c xs) {row : Option Nat} (e : w.grownBy w' row) (hne : ∀ a, A = some a → some a.block ≠ row) : Rd w' A c xs :=
  ⟨h.cap, h.capm, h.none_, fun j hj => by
    obtain ⟨a, ha, hc⟩ := h.at_ j hj
    have hb : (a.add j).block = a.block := by unfold Addr.add; split <;> rfl
    exact ⟨a, ha, e.cell hc (by rw [hb]; exact hne a ha)⟩⟩
theorem Rd.nil (w : World) : Rd w none 0 [] := ⟨Nat.le_refl _, by omega, fun _ => rfl, fun _ hj => absurd hj (Nat.not_lt_zero _)⟩
theorem Rd.some_ {w : World} {A : Option Addr} {c : Nat} {xs : List Int} (h : Rd w A c xs) (hp : 0 < xs.length) : ∃ a, A = some a := let ⟨a, ha, _⟩ := h.at_ 0 hp; ⟨a, ha⟩
theorem Rd.cell {w : World} {a : Addr} {c : Nat} {xs : List Int} (h : Rd w (some a) c xs) (j : Nat) (hj : j < xs.length) : w.cell? (a.add j) = some (.int .u32 (nth xs j)) := by
  obtain ⟨a', ha, hc⟩ := h.at_ j hj
  cases ha
  exact hc

/-- A row of the call's own, from the block base on: the words are its first ones; c: room. -/
def Own (w : World) (base : Nat) (A : Option Addr) (c : Nat) (xs : List Int) : Prop := w.ownsRow base 144 1 (.slice A xs.length c) xs.length (nums xs)

theorem Own.nil (w : World) (base : Nat) : Own w base none 0 [] := World.ownsRow_nil w base _ 1
theorem Own.cases {w : World} {base : Nat} {A : Option Addr} {c : Nat} {xs : List Int} (h : Own w base A c xs) :
    (A = none ∧ c = 0 ∧ xs = []) ∨ ∃ g cur, A = some ⟨g, 0, none⟩ ∧ base ≤ g ∧ w.heap[g]? = some (.cells cur 144 (0, 0)) ∧ xs.length ≤ c ∧ c ≤ 9223372036854775807 ∧ cur.size = c ∧ cur.toList.take xs.length = nums xs := by
  rcases h.2 with ⟨h1, h2⟩ | ⟨g, cap, cur, he, h1, h2, h3, h4, h5, h6⟩
  · injection h1 with e1 e2 e3
    exact .inl ⟨e1, e3, List.eq_nil_of_length_eq_zero h2⟩
  · injection he with e1 e2 e3
    subst e1
    subst e3
    simp only [Nat.mul_one] at h5 h6
    simp only [maxLen] at h4
    exact .inr ⟨g, cur, rfl, h1, h2, h3, by omega, h5, h6⟩
theorem Own.mk {w : World} {base g c : Nat} {xs : List Int} {cur : Array Value} (h1 : base ≤ g) (h2 : w.heap[g]? = some (.cells cur 144 (0, 0))) (h3 : xs.length ≤ c) (h4 : c ≤ 9223372036854775807) (h5 : cur.size = c) (h6 : cur.toList.take xs.length = nums xs) : Own w base (some ⟨g, 0, none⟩) c xs :=
  ⟨by simp [nums], .inr ⟨g, c, cur, rfl, h1, h2, h3, by unfold maxLen; omega, by simpa using h5, by simpa using h6⟩⟩
theorem Own.form {w : World} {base : Nat} {A : Option Addr} {c : Nat} {xs : List Int} (h : Own w base A c xs) : A = none ∨ ∃ g, A = some ⟨g, 0, none⟩ ∧ base ≤ g ∧ g < w.heap.size := by
  rcases h.cases with ⟨h1, _⟩ | ⟨g, cur, h1, h2, h3, _⟩
  · exact .inl h1
  · exact .inr ⟨g, h1, h2, (Array.getElem?_eq_some_iff.1 h3).1⟩
theorem Own.block {w : World} {base : Nat} {a : Addr} {c : Nat} {xs : List Int} (h : Own w base (some a) c xs) : base ≤ a.block ∧ a.block < w.heap.size := by
  rcases h.form with h1 | ⟨g, h1, h2, h3⟩
  · cases h1
  · cases h1; exact ⟨h2, h3⟩
theorem Own.rd {w : World} {base : Nat} {A : Option Addr} {c : Nat} {xs : List Int} (h : Own w base A c xs) : Rd w A c xs := by
  rcases h.cases with ⟨rfl, rfl, rfl⟩ | ⟨g, cur, rfl, h1, h2, h3, h4, h5, h6⟩
  · exact Rd.nil w
  · refine ⟨h3, h4, (fun e => by cases e), fun j hj => ⟨_, rfl, ?_⟩⟩
    exact World.ownsRow.cells h (g := g) rfl j _ (nums_at xs j hj)
theorem Own.lower {w : World} {base base' : Nat} {A : Option Addr} {c : Nat} {xs : List Int} (h : Own w base A c xs) (hb : base' ≤ base) : Own w base' A c xs := by
  rcases h.cases with ⟨rfl, rfl, rfl⟩ | ⟨g, cur, rfl, h1, h2, h3, h4, h5, h6⟩
  · exact Own.nil w _
  · exact Own.mk (by omega) h2 h3 h4 h5 h6
theorem Own.kept {w w' : World} {base : Nat} {A : Option Addr} {c : Nat} {xs : List Int} (h : Own w base A c xs) {row : Option Nat} (e : w.grownBy w' row) (hne : ∀ a, A = some a → some a.block ≠ row) : Own w' base A c xs :=
  World.ownsRow.kept h e (by
    cases A with
    | none => exact .inl rfl
    | some a => exact .inr (hne a rfl))
theorem Own.ext {w w' : World} {base : Nat} {A : Option Addr} {c : Nat} {xs : List Int} (h : Own w base A c xs) (e : Ext w w') : Own w' base A c xs :=
  h.kept (e.by_ none) (fun _ _ => by simp)
theorem Own.drewN {w : World} {base : Nat} {A : Option Addr} {c : Nat} {xs : List Int} (h : Own w base A c xs) (n : Nat) : Own (w.drewN n) base A c xs := h.ext ((Ext.refl w).drewN n)
/-- fewer of the same row -/
theorem Own.take {w : World} {base : Nat} {A : Option Addr} {c : Nat} {xs : List Int} (h : Own w base A c xs) (n : Nat) : Own w base A c (xs.take n) := by
  rcases h.cases with ⟨rfl, rfl, rfl⟩ | ⟨g, cur, rfl, h1, h2, h3, h4, h5, h6⟩
  · rw [List.take_nil]; exact Own.nil w _
  · refine Own.mk h1 h2 (by rw [List.length_take]; omega) h4 h5 ?_
    have e : nums (xs.take n) = (nums xs).take n := by simp [nums, List.map_take]
    rw [e, ← h6, List.take_take, List.length_take]
/-- a word is stored -/
theorem Own.set {w : World} {base g c : Nat} {xs : List Int} (h : Own w base (some ⟨g, 0, none⟩) c xs) (j : Nat) (v : Int) :
    Own (w.setCell ⟨g, j, none⟩ (.int .u32 v)) base (some ⟨g, 0, none⟩) c (xs.set j v) ∧ w.grownBy (w.setCell ⟨g, j, none⟩ (.int .u32 v)) (some g) := by
  have := World.ownsRow.stored h j (.int .u32 v)
  unfold Own
  rw [List.length_set, ← nums_set]
  exact this
theorem Own.cell {w : World} {base g c : Nat} {xs : List Int} (h : Own w base (some ⟨g, 0, none⟩) c xs) (j : Nat) (hj : j < xs.length) : w.cell? ⟨g, j, none⟩ = some (.int .u32 (nth xs j)) := by
  rw [World.ownsRow.cellAt h j (by omega)]
  exact nums_at xs j hj
theorem Own.free {w : World} {base g c : Nat} {xs : List Int} (h : Own w base (some ⟨g, 0, none⟩) c xs) (j : Nat) : w.frozen? ⟨g, j, none⟩ = false := World.ownsRow.frozenAt h j
theorem Own.fresh {w : World} {base : Nat} {A : Option Addr} {c : Nat} {xs : List Int} (h : Own w base A c xs) : ∀ a, A = some a → base ≤ a.block := by
  intro a ha; subst ha; exact h.block.1
/-- a store below the row -/
theorem Own.setBelow {w : World} {base : Nat} {A : Option Addr} {c : Nat} {xs : List Int} (h : Own w base A c xs) {p : Addr} (hp : p.block < base) (u : Value) : Own (w.setCell p u) base A c xs := ownsRow_setCell_below h hp u
/-- of two rows the one made later is another one -/
theorem Own.apart {w w' : World} {base base' : Nat} {A B : Option Addr} {c d : Nat} {xs ys : List Int} (h : Own w base A c xs) (k : Own w' base' B d ys) (hb : w.heap.size ≤ base') : ∀ a b, A = some a → B = some b → a.block ≠ b.block := by
  intro a b ha hb'
  subst ha
  subst hb'
  have := h.block
  have := k.block
  omega

theorem Rd.lt {w : World} {a : Addr} {c : Nat} {xs : List Int} (h : Rd w (some a) c xs) (hp : 0 < xs.length) : a.block < w.heap.size := by
  have := World.block_lt_of_cell? w _ (h.cell 0 hp)
  have hb : (a.add 0).block = a.block := by unfold Addr.add; split <;> rfl
  rwa [hb] at this
/-- a row that is new lies apart from what is read -/
theorem Own.apartRd {w w' : World} {base : Nat} {A B : Option Addr} {c d : Nat} {xs ys : List Int} (h : Own w' base A c xs) (k : Rd w B d ys) (hb : w.heap.size ≤ base) : ∀ a b, A = some a → B = some b → 0 < ys.length → a.block ≠ b.block := by
  intro a b ha hb' hp
  subst ha
  subst hb'
  have := h.block
  have := k.lt hp
  omega

theorem info_u32 : (Tryz.prog.info? 144).map (fun i => (i.zero, i.size, i.bytes)) = some (some (.int .u32 0), 1, 4) := by kernel_rfl
theorem add_plain (g o j : Nat) : (⟨g, o, none⟩ : Addr).add j = ⟨g, o + j, none⟩ := by unfold Addr.add; split <;> simp_all
theorem add_plain0 (g j : Nat) : (⟨g, 0, none⟩ : Addr).add j = ⟨g, j, none⟩ := by rw [add_plain, Nat.zero_add]
/-- a stretch of a row of the call's own is read -/
theorem Own.sub {w : World} {base g C : Nat} {us : List Int} (h : Own w base (some ⟨g, 0, none⟩) C us) (o l c : Nat) (hl : o + l ≤ us.length) (hc : l ≤ c) (hcm : c ≤ 9223372036854775807) : Rd w (some ⟨g, o, none⟩) c ((us.drop o).take l) := by
  have hlen : ((us.drop o).take l).length = l := by rw [List.length_take, List.length_drop]; omega
  refine ⟨by omega, hcm, (fun e => by cases e), fun j hj => ⟨_, rfl, ?_⟩⟩
  rw [add_plain, nth_take _ _ _ (by omega), nth_drop]
  exact h.cell (o + j) (by omega)
theorem sub_len (us : List Int) (o l : Nat) (hl : o + l ≤ us.length) : ((us.drop o).take l).length = l := by rw [List.length_take, List.length_drop]; omega
theorem nums_zeros (n : Nat) : (madeCells (Value.int .u32 0).cells (n * 1)).toList = nums (List.replicate n 0) := by
  show (madeCells #[Value.int .u32 0] (n * 1)).toList = _
  rw [toList_madeCells_one, Nat.mul_one]
  simp [nums]

theorem Own.zeros {w w' : World} {base n : Nat} (h : w'.ownsRow base 144 1 (.slice (some ⟨w.heap.size, 0, none⟩) n n) n (madeCells (Value.int .u32 0).cells (n * 1)).toList) : Own w' base (some ⟨w.heap.size, 0, none⟩) n (List.replicate n 0) := by
  rw [nums_zeros] at h
  unfold Own
  rw [List.length_replicate]
  exact h
theorem Own.of_row {w : World} {base n : Nat} {v : Value} {xs : List Int} (h : w.ownsRow base 144 1 v n (nums xs)) : ∃ A c, v = .slice A xs.length c ∧ Own w base A c xs := by
  have hl : xs.length = n := by have := h.1; simp [nums] at this; exact this
  subst hl
  rcases h.2 with ⟨rfl, h2⟩ | ⟨g, cap, cur, rfl, _⟩
  · exact ⟨none, 0, by rw [h2], by unfold Own; rw [h2] at h ⊢; exact h⟩
  · exact ⟨_, cap, rfl, h⟩
theorem nums_append (xs ys : List Int) : nums (xs ++ ys) = nums xs ++ nums ys := by simp [nums]
theorem nums_one (xs : List Int) : ∀ u ∈ nums xs, u.oneCell' = true := by
  intro u hu
  obtain ⟨x, _, rfl⟩ := List.mem_map.1 hu
  rfl
/-- append of words to words of the call's own -/
theorem wpList_app {w : World} {ops : Array Oper} {rest : List Oper} {o : Oper} {a : Act} {Q : Exit → Act → World → Prop} (hgd : o.guard = none) (s x : Operand)
    (ho : o.op = .call { callee := .builtin .append, args := #[s, x], argTypes := #[22, 22] })
    (base : Nat) (A : Option Addr) (c : Nat) (xs : List Int) (n : Nat) (hn : xs.length = n) (hs : a.eval s = .slice A n c) (hO : Own w base A c xs)
    (B : Option Addr) (d : Nat) (ys : List Int) (m : Nat) (hm : ys.length = m) (hx : a.eval x = .slice B m d) (hR : Rd w B d ys)
    (hlen : n + m ≤ 35184372088832) (hbase : base ≤ w.heap.size)
    (h : ∀ A' c' w', Own w' base A' c' (xs ++ ys) → w.grownBy w' (A.map (·.block)) → wpList Tryz.prog ops Q rest (a.put o.dst (.slice A' (n + m) c')) w') : wpList Tryz.prog ops Q (o :: rest) a w := by
  obtain ⟨i0, hi, hz0, hz1, hz2⟩ := info_parts info_u32
  subst hn
  subst hm
  have hrow : (Value.slice A xs.length c).ownBlock = A.map (·.block) := by cases A <;> rfl
  cases B with
  | none =>
    obtain rfl : d = 0 := hR.none_ rfl
    obtain rfl : ys = [] := List.eq_nil_of_length_eq_zero (Nat.le_zero.1 hR.cap)
    refine wpList_plain hgd fun K hK => ?_
    unfold Oper.wp execOp
    have hr := run_append_owned_none (P := Tryz.prog) w base 22 o.type 144 i0 1 Tryz.underlying22 hi _ _ _ hO
    simp only [ho, resolve, invoke, builtin, Sem.run_bind, Sem.run_pure, Result.andThen_ok, List.map_toArray, List.map_cons, List.map_nil, hs, hx, List.length_nil, hr]
    exact hK _ _ (h A c w (by rw [List.append_nil]; exact hO) (World.grownBy.refl w _))
  | some b =>
    refine wpList_append_own w hgd s x 22 ho base 144 i0 (.int .u32 0) 1 4 Tryz.underlying22 hi hz0 hz1 hz2 rfl (by decide) _ _ _ hs hO b ys.length d (nums ys) hx (by rw [nums_length, Nat.mul_one])
      (fun j u hu => by
        have hj : j < ys.length := by
          have := (List.getElem?_eq_some_iff.1 hu).1
          rwa [nums_length] at this
        rw [nums_at ys j hj] at hu
        cases hu
        exact hR.cell j hj) (nums_one ys) (by unfold maxLen; omega) (by omega) hbase ?_
    intro v' w' h2 h3 _
    rw [← nums_append] at h2
    obtain ⟨A', c', rfl, hO'⟩ := Own.of_row h2
    rw [hrow] at h3
    have := h A' c' w' hO' h3
    rwa [← List.length_append] at this
/-- make of words -/
theorem wpList_mk {w : World} {ops : Array Oper} {rest : List Oper} {o : Oper} {a : Act} {Q : Exit → Act → World → Prop} (hgd : o.guard = none) (l k : Operand)
    (ho : o.op = Op.makeSlice 22 l k) (n : Nat) (L C : Int) (hl : a.eval l = .int .i64 L) (hc : a.eval k = .int .i64 C) (hL : L = (n : Int)) (hC : C = (n : Int)) (hn : n ≤ 70368744177664)
    (h : ∀ w', Own w' w.heap.size (some ⟨w.heap.size, 0, none⟩) n (List.replicate n 0) → Ext w w' → wpList Tryz.prog ops Q rest (a.put o.dst (.slice (some ⟨w.heap.size, 0, none⟩) n n)) w') : wpList Tryz.prog ops Q (o :: rest) a w := by
  obtain ⟨i0, hi, hz0, hz1, hz2⟩ := info_parts info_u32
  refine wpList_make_full w hgd l k _ ho w.heap.size 144 i0 (.int .u32 0) 1 Tryz.underlying22 hi hz0 hz1 .i64 .i64 L C n hl hc hL hC (by rw [hz2]; omega) (by unfold maxLen; omega) (Nat.le_refl _) ?_
  intro w' hO hg
  exact h w' (Own.zeros hO) ((Ext.refl w).grownNone hg)
/-- words that are written out -/
theorem Own.lit (w : World) (cs : Array Value) (xs : List Int) (h : cs.toList = nums xs) (hm : xs.length ≤ 9223372036854775807) : Own (w.alloc (.cells cs 144)) w.heap.size (some ⟨w.heap.size, 0, none⟩) xs.length xs := by
  have hs : cs.size = xs.length := by rw [← Array.length_toList, h, nums_length]
  refine Own.mk (Nat.le_refl _) (heap_alloc_new w _) (Nat.le_refl _) hm hs ?_
  rw [h, List.take_of_length_le (by rw [nums_length]; exact Nat.le_refl _)]

end Go.Proofs.YtifonmdcicegdaaGreat

/- nat's functions that only look, and those that cut noughts off. -/
namespace Go.Proofs.YtifonmdcicegdaaGreat
open Go Go.RowKit

set_option maxHeartbeats 400000 in
theorem cut_any (A : Option Addr) (xs : List Int) (c : Nat) (w : World) (h : Rd w A c xs) :
    Calls Tryz.prog 233 #[.slice A xs.length c] w fun e w' => e = .returned (.slice A (tl xs xs.length) c) ∧ w = w' := by
  have hl := h.lim
  have hc := h.cap
  have HA := Lib.hid h.at_
  clear h
  go_enter Tryz.func233, Tryz.ntmps233
  go_wp2
  go_loop [3] (fun i => ∃ k : Nat, k ≤ xs.length ∧ tl xs k = tl xs xs.length ∧ i = .int .i64 k) (fun i => (intOf i).toNat)
  case atStart => exact ⟨xs.length, by omega, rfl, rfl⟩
  case round =>
    obtain ⟨k, hk, hj, rfl⟩ := hrel
    cases k with
    | zero =>
      have HJ := Lib.hid hj
      clear hj
      go_wp2
      go_ret
      exact ⟨by rw [← HJ.out]; rfl, rfl⟩
    | succ k =>
      obtain ⟨a, rfl, hcell⟩ := HA.out k (by omega)
      by_cases hz : nth xs k = 0
      · have HJ := Lib.hid ((tl_zero xs k hz).symm.trans hj)
        clear hj
        rw [hz] at hcell
        clear hz
        go_wp2
        go_round
        case rel => exact ⟨k, by omega, HJ.out, by go_num⟩
        case measure => simp [intOf]
      · have HJ := Lib.hid ((tl_here xs k hz).symm.trans hj)
        clear hj
        have hz' : (nth xs k == 0) = false := by simpa using hz
        clear hz
        go_wp2
        go_ret
        exact ⟨by rw [← HJ.out]; rfl, rfl⟩

set_option maxHeartbeats 400000 in
theorem check_any (A : Option Addr) (xs : List Int) (c : Nat) (w : World) (h : Rd w A c xs) :
    Calls Tryz.prog 154 #[.slice A xs.length c] w fun e w' => e = .returned (.int .i64 (chk xs)) ∧ w = w' := by
  have hl := h.lim
  have hc := h.cap
  have HA := Lib.hid h.at_
  clear h
  by_cases h1 : 8192 < xs.length
  · have HE := Lib.hid (show chk xs = 3 by unfold chk; rw [if_pos h1])
    go_enter Tryz.func154, Tryz.ntmps154
    go_wp2
    go_ret
    exact ⟨by rw [HE.out]; rfl, rfl⟩
  · by_cases h0 : xs.length = 0
    · have HE := Lib.hid (show chk xs = 0 by unfold chk; rw [if_neg h1, if_neg]; rintro ⟨h2, _⟩; exact h2 (List.eq_nil_of_length_eq_zero h0))
      have hn : ((xs.length : Int) > 0) = False := by rw [h0]; simp
      have hn' : ¬ (0 < xs.length) := by omega
      clear h0
      go_enter Tryz.func154, Tryz.ntmps154
      go_wp2
      go_ret
      exact ⟨by rw [HE.out]; rfl, rfl⟩
    · obtain ⟨k, hk⟩ := Nat.exists_eq_succ_of_ne_zero h0
      obtain ⟨a, rfl, hcell⟩ := HA.out k (by omega)
      have hp : 0 < xs.length := by omega
      have hi : ((xs.length : Int) - 1).toNat = k := by omega
      by_cases hz : nth xs k = 0
      · have HE := Lib.hid (show chk xs = 11 by
          unfold chk; rw [if_neg h1, if_pos ⟨fun e => by simp [e] at hp, by rw [hk]; exact hz⟩])
        rw [hz] at hcell
        clear hz hk h0
        go_enter Tryz.func154, Tryz.ntmps154
        go_wp2
        go_ret
        exact ⟨by rw [HE.out]; rfl, rfl⟩
      · have HE := Lib.hid (show chk xs = 0 by
          unfold chk; rw [if_neg h1, if_neg]; rintro ⟨_, h2⟩; rw [hk] at h2; exact hz h2)
        have hz' : (nth xs k == 0) = false := by simpa using hz
        clear hz hk h0
        go_enter Tryz.func154, Tryz.ntmps154
        go_wp2
        go_ret
        exact ⟨by rw [HE.out]; rfl, rfl⟩

set_option maxHeartbeats 400000 in
theorem checked_any (A B : Option Addr) (xs ys : List Int) (c d : Nat) (w : World) (h : Rd w A c xs) (k : Rd w B d ys) :
    Calls Tryz.prog 234 #[.slice A xs.length c, .slice B ys.length d] w fun e w' => e = .returned (.int .i64 (chk2 xs ys)) ∧ w = w' := by
  have H := Lib.hid h
  have K := Lib.hid k
  clear h k
  by_cases hz : chk xs = 0
  · have HE := Lib.hid (show chk2 xs ys = chk ys from if_pos hz)
    have Hz := Lib.hid hz
    clear hz
    go_enter Tryz.func234, Tryz.ntmps234
    go_wp2_with fail
    refine (check_any _ _ _ _ H.out).mono ?_; rintro e w' ⟨rfl, rfl⟩
    rw [Hz.out]
    go_wp2_with fail
    refine (check_any _ _ _ _ K.out).mono ?_; rintro e w' ⟨rfl, rfl⟩
    go_wp2_with fail
    go_ret
    exact ⟨by rw [HE.out]; rfl, rfl⟩
  · have HE := Lib.hid (show chk2 xs ys = chk xs from if_neg hz)
    have hz' : (chk xs != 0) = true := by simpa using hz
    clear hz
    go_enter Tryz.func234, Tryz.ntmps234
    go_wp2_with fail
    refine (check_any _ _ _ _ H.out).mono ?_; rintro e w' ⟨rfl, rfl⟩
    go_wp2_with fail
    go_ret
    exact ⟨by rw [HE.out]; rfl, rfl⟩

/-- two numbers that may be are let by -/
theorem checked_ok (A B : Option Addr) (m n : Nat) (c d : Nat) (w : World) (h : Rd w A c (wd m)) (k : Rd w B d (wd n)) (hm : (wd m).length ≤ 8192) (hn : (wd n).length ≤ 8192) :
    Calls Tryz.prog 234 #[.slice A (wd m).length c, .slice B (wd n).length d] w fun e w' => e = .returned (.int .i64 0) ∧ w = w' := by
  have := checked_any A B _ _ c d w h k
  rw [show chk2 (wd m) (wd n) = 0 by unfold chk2; rw [chk_wd m hm, chk_wd n hn]; rfl] at this
  exact this

/-- noughts at the end are cut off a row of the call's own -/
theorem cut_own (A : Option Addr) (xs : List Int) (c base l : Nat) (w : World) (h : Own w base A c xs) (hl : xs.length = l) (hw : Wf xs) (n : Nat) (hv : val xs = n) :
    Calls Tryz.prog 233 #[.slice A l c] w fun e w' => e = .returned (.slice A (wd n).length c) ∧ Own w base A c (wd n) ∧ w = w' := by
  have ht : xs.take (tl xs xs.length) = wd n := by rw [tl_all hw, hv]; rfl
  have ht2 : tl xs xs.length = (wd n).length := by
    rw [← ht, List.length_take]; have := tl_le xs xs.length; omega
  have HO : Own w base A c (wd n) := by rw [← ht]; exact h.take _
  subst hl
  refine (cut_any _ _ _ _ h.rd).mono ?_
  rintro e w' ⟨rfl, rfl⟩
  exact ⟨by rw [ht2], HO, rfl⟩

set_option maxHeartbeats 400000 in
theorem told_ok (A : Option Addr) (xs : List Int) (c base l : Nat) (w : World) (h : Own w base A c xs) (hl : xs.length = l) (hw : Wf xs) (n : Nat) (hv : val xs = n) (hn : (wd n).length ≤ 8192) :
    Calls Tryz.prog 236 #[.slice A l c] w fun e w' => e = .returned (.tuple #[.slice A (wd n).length c, .int .i64 0]) ∧ Own w base A c (wd n) ∧ w = w' := by
  have H := Lib.hid (cut_own A xs c base l w h hl hw n hv)
  clear h hw hv hl
  go_enter Tryz.func236, Tryz.ntmps236
  go_wp2_with fail
  refine H.out.mono ?_; rintro e w' ⟨rfl, HO, rfl⟩
  have HO2 := Lib.hid HO
  clear HO
  go_wp2_with fail
  go_ret2
  exact ⟨rfl, HO2.out, rfl⟩

end Go.Proofs.YtifonmdcicegdaaGreat

/- nat.Compare, nat.Add. -/
namespace Go.Proofs.YtifonmdcicegdaaGreat
open Go Go.RowKit

theorem V_below {xs ys : List Int} (hx : Wf xs) (hy : Wf ys) (k : Nat) (h : nth xs k < nth ys k) : V xs (k + 1) < V ys (k + 1) := by
  rw [V_succ, V_succ]
  have a := V_lt hx k
  have b := V_nonneg hy k
  have c : (nth xs k + 1) * pw k ≤ nth ys k * pw k := Int.mul_le_mul_of_nonneg_right (by omega) (Int.le_of_lt (pw_pos k))
  rw [Int.add_mul] at c
  omega

set_option maxHeartbeats 1000000 in
theorem compare_any (A B : Option Addr) (m n : Nat) (c d : Nat) (w : World) (ha : Rd w A c (wd m)) (hb : Rd w B d (wd n)) :
    Calls Tryz.prog 146 #[.slice A (wd m).length c, .slice B (wd n).length d] w fun e w' => e = .returned (.int .i64 (cmp m n)) ∧ Ext w w' := by
  have la := ha.lim
  have lb := hb.lim
  have HA := Lib.hid ha
  have HB := Lib.hid hb
  have Hm := Lib.hid (tl_wd m)
  have Hn := Lib.hid (tl_wd n)
  clear ha hb
  by_cases hne : (wd m).length = (wd n).length
  · have HNE := Lib.hid hne
    have hbe : (((wd m).length : Int) != ((wd n).length : Int)) = false := by simp [hne]
    clear hne
    go_enter Tryz.func146, Tryz.ntmps146
    go_wp2_with fail
    refine (cut_any _ _ _ _ HA.out).mono ?_; rintro e w' ⟨rfl, rfl⟩
    rw [Hm.out]
    go_wp2_with fail
    refine (cut_any _ _ _ _ HB.out).mono ?_; rintro e w' ⟨rfl, rfl⟩
    rw [Hn.out]
    go_wp2_with fail
    go_loopw [5] (fun i wr => ∃ k : Nat, k ≤ (wd m).length ∧ Hid (V (wd m) k + V (wd n) (wd m).length = V (wd n) k + V (wd m) (wd m).length) ∧ i = .int .i64 ((k : Int) - 1) ∧ Hid (Ext w wr)) (fun i _ => (intOf i + 1).toNat)
    case atStart => exact ⟨(wd m).length, by omega, by show _ = _; omega, rfl, Ext.refl _⟩
    case round =>
      obtain ⟨k, hk, hv, rfl, HX⟩ := hrel
      cases k with
      | zero =>
        have HE := Lib.hid (show cmp m n = 0 by
          apply cmp_eq
          have h1 := val_wd m
          have h2 := val_wd n
          have h3 := hv.out
          unfold val at h1 h2
          rw [← HNE.out] at h2
          rw [V_zero, V_zero] at h3
          omega)
        go_wp2_with fail
        go_ret
        exact ⟨by rw [HE.out]; rfl, HX.out⟩
      | succ k =>
        have e1 : (((k + 1 : Nat) : Int) - 1) = (k : Int) := by omega
        rw [e1]
        clear e1
        obtain ⟨a, rfl, hca⟩ := (HA.out.ext HX.out).at_ k (by omega)
        obtain ⟨b, rfl, hcb⟩ := (HB.out.ext HX.out).at_ k (by have := HNE.out; omega)
        have hkn : k < (wd n).length := by have := HNE.out; omega
        by_cases h1 : nth (wd m) k < nth (wd n) k
        · have HE := Lib.hid (show cmp m n = -1 by
            apply cmp_lt
            have h2 := V_below (wf_wd m) (wf_wd n) k h1
            have h3 := hv.out
            have h4 := val_wd m
            have h5 := val_wd n
            unfold val at h4 h5
            rw [← HNE.out] at h5
            omega)
          go_wp2_with fail
          go_quiet (fail)
          go_wp2_with fail
          go_ret
          exact ⟨by rw [HE.out]; rfl, HX.out.drewN _⟩
        · by_cases h2 : nth (wd n) k < nth (wd m) k
          · have HE := Lib.hid (show cmp m n = 1 by
              apply cmp_gt
              have h2 := V_below (wf_wd n) (wf_wd m) k h2
              have h3 := hv.out
              have h4 := val_wd m
              have h5 := val_wd n
              unfold val at h4 h5
              rw [← HNE.out] at h5
              omega)
            go_wp2_with fail
            go_quiet (fail)
            go_wp2_with fail
            go_quiet (fail)
            go_wp2_with fail
            go_ret
            exact ⟨by rw [HE.out]; rfl, (HX.out.drewN _).drewN _⟩
          · have HV := Lib.hid (show V (wd m) k + V (wd n) (wd m).length = V (wd n) k + V (wd m) (wd m).length by
              have h3 := hv.out
              rw [V_succ, V_succ, show nth (wd m) k = nth (wd n) k by omega] at h3
              omega)
            go_wp2_with fail
            go_quiet (fail)
            go_wp2_with fail
            go_quiet (fail)
            go_wp2_with fail
            go_roundw
            case rel => exact ⟨k, by omega, HV.out, by go_num, HX.out.drewN _⟩
            case measure => simp [intOf]
  · have hbe : (((wd m).length : Int) != ((wd n).length : Int)) = true := by simp; omega
    by_cases hlt : (wd m).length < (wd n).length
    · have HE := Lib.hid (cmp_lt (wd_len_lt hlt))
      clear hne
      go_enter Tryz.func146, Tryz.ntmps146
      go_wp2_with fail
      refine (cut_any _ _ _ _ HA.out).mono ?_; rintro e w' ⟨rfl, rfl⟩
      rw [Hm.out]
      go_wp2_with fail
      refine (cut_any _ _ _ _ HB.out).mono ?_; rintro e w' ⟨rfl, rfl⟩
      rw [Hn.out]
      go_wp2_with fail
      go_ret
      exact ⟨by rw [HE.out]; rfl, Ext.refl _⟩
    · have HE := Lib.hid (cmp_gt (wd_len_lt (show (wd n).length < (wd m).length by omega)))
      clear hne
      go_enter Tryz.func146, Tryz.ntmps146
      go_wp2_with fail
      refine (cut_any _ _ _ _ HA.out).mono ?_; rintro e w' ⟨rfl, rfl⟩
      rw [Hm.out]
      go_wp2_with fail
      refine (cut_any _ _ _ _ HB.out).mono ?_; rintro e w' ⟨rfl, rfl⟩
      rw [Hn.out]
      go_wp2_with fail
      go_ret
      exact ⟨by rw [HE.out]; rfl, Ext.refl _⟩

end Go.Proofs.YtifonmdcicegdaaGreat

/- nat.Add -/
namespace Go.Proofs.YtifonmdcicegdaaGreat
open Go Go.RowKit

/-- a round of a sum: the word and the carry -/
theorem add_step (us : List Int) (k : Nat) (t : Int) (hk : k < us.length) :
    V (us.set k (t % 4294967296)) (k + 1) + t / 4294967296 * pw (k + 1) = V us k + t * pw k := by
  rw [V_succ, V_set_ge _ _ _ _ (Nat.le_refl _), nth_set_self _ _ _ hk, pw_succ]
  have h : t * pw k = (t % 4294967296) * pw k + (t / 4294967296) * (4294967296 * pw k) := by
    rw [← Int.mul_assoc, ← Int.add_mul]
    congr 1
    omega
  omega
theorem add_round (us xs ys : List Int) (k : Nat) (t : Int) (hk : k < us.length) (hv : V us k + t * pw k = V xs k + V ys k) :
    V (us.set k ((t + nth xs k + nth ys k) % 4294967296)) (k + 1) + (t + nth xs k + nth ys k) / 4294967296 * pw (k + 1) = V xs (k + 1) + V ys (k + 1) := by
  rw [add_step us k _ hk, V_succ, V_succ, Int.add_mul, Int.add_mul]
  omega
theorem add_end (us : List Int) (p q l : Nat) (t : Int) (hp : (wd p).length = l) (hq : (wd q).length ≤ l) (hul : us.length = l + 1) (hv : V us l + t * pw l = V (wd p) l + V (wd q) l) :
    val (us.set l t) = ((p + q : Nat) : Int) := by
  have e1 := val_wd p
  have e2 := val_wd q
  rw [← V_out _ l (by omega)] at e1 e2
  unfold val
  rw [List.length_set, hul, V_succ, V_set_ge _ _ _ _ (Nat.le_refl _), nth_set_self _ _ _ (by omega)]
  omega

set_option maxHeartbeats 1000000 in
theorem add_any (A B : Option Addr) (m n : Nat) (c d : Nat) (w : World) (ha : Rd w A c (wd m)) (hb : Rd w B d (wd n)) (lm : (wd m).length ≤ 8191) (ln : (wd n).length ≤ 8191) :
    Calls Tryz.prog 149 #[.slice A (wd m).length c, .slice B (wd n).length d] w fun e w' => ∃ A' c', e = .returned (.tuple #[.slice A' (wd (m + n)).length c', .int .i64 0]) ∧ Own w' w.heap.size A' c' (wd (m + n)) ∧ Ext w w' := by
  have HA := Lib.hid ha
  have HB := Lib.hid hb
  clear ha hb
  have hls : (wd (m + n)).length ≤ 8192 := by have := wd_len_add m n; omega
  by_cases hlt : (wd m).length < (wd n).length
  case' pos =>
    rw [Nat.add_comm] at hls ⊢
    obtain ⟨p, rfl⟩ : ∃ p, p = n := ⟨_, rfl⟩
    obtain ⟨q, rfl⟩ : ∃ q, q = m := ⟨_, rfl⟩
    have HP := HB
    have HQ := HA
    have hqp : (wd q).length ≤ (wd p).length := by omega
    have lp : (wd p).length ≤ 8191 := ln
  case' neg =>
    obtain ⟨p, rfl⟩ : ∃ p, p = m := ⟨_, rfl⟩
    obtain ⟨q, rfl⟩ : ∃ q, q = n := ⟨_, rfl⟩
    have HP := HA
    have HQ := HB
    have hqp : (wd q).length ≤ (wd p).length := by omega
    have lp : (wd p).length ≤ 8191 := lm
  all_goals
    go_enter Tryz.func149, Tryz.ntmps149
    go_wp2_with fail
    refine (checked_ok _ _ _ _ _ _ _ HA.out HB.out (by omega) (by omega)).mono ?_; rintro e w' ⟨rfl, rfl⟩
    clear HA HB
    go_wp2_with (at_make; refine wpList_mk rfl _ _ rfl ((wd p).length + 1) _ _ rfl rfl (by omega) (by omega) (by omega) ?_; intro w1 hO hG)
    have HO := Lib.hid hO
    have HG := Lib.hid hG
    clear hO hG hlt
    go_loopw [8, 30] (fun cy i wr => ∃ (k : Nat) (us : List Int) (t : Int), k ≤ (wd p).length ∧ us.length = (wd p).length + 1 ∧ Hid (Wf us) ∧ 0 ≤ t ∧ t ≤ 1 ∧ Hid (V us k + t * pw k = V (wd p) k + V (wd q) k) ∧ cy = .int .u64 t ∧ i = .int .i64 k ∧ Hid (Own wr w.heap.size (some ⟨w.heap.size, 0, none⟩) ((wd p).length + 1) us) ∧ Hid (Ext w wr)) (fun _ i _ => (wd p).length - (intOf i).toNat)
    case atStart => exact ⟨0, _, 0, by omega, List.length_replicate, wf_zeros _, by omega, by omega, by show _ = _; simp [V_zero], rfl, rfl, HO, HG⟩
    case round =>
      clear HO HG
      obtain ⟨k, us, t, hk, hul, hw, ht0, ht1, hv, rfl, rfl, HO, HX⟩ := hrel
      have HUL := Lib.hid hul
      clear hul
      by_cases hkm : k < (wd p).length
      · obtain ⟨a, rfl, hca⟩ := (HP.out.ext HX.out).at_ k hkm
        have hco := HO.out.cell k (by have := HUL.out; omega)
        have hfo := HO.out.free k
        have ba := nth_wf (wf_wd p) k
        have bb := nth_wf (wf_wd q) k
        have HV := Lib.hid (add_round us (wd p) (wd q) k t (by have := HUL.out; omega) hv.out)
        by_cases hkn : k < (wd q).length
        · obtain ⟨b, rfl, hcb⟩ := (HQ.out.ext HX.out).at_ k hkn
          obtain ⟨x, hx⟩ : ∃ x, x = nth (wd p) k := ⟨_, rfl⟩
          obtain ⟨y, hy⟩ : ∃ y, y = nth (wd q) k := ⟨_, rfl⟩
          rw [← hx] at hca ba HV
          rw [← hy] at bb hcb HV
          clear hx hy
          go_wp2_with fail
          go_roundw
          case rel => exact ⟨k + 1, _, _, by omega, by rw [List.length_set]; exact HUL.out, wf_set hw.out _ _ (by omega) (by omega), by omega, by omega, HV.out, rfl, by go_num, (HO.out.set k _).1, HX.out.setCell (Nat.le_refl _) _⟩
          case measure => simp [intOf]; omega
        · rw [nth_out (wd q) k (by omega), Int.add_zero] at HV
          obtain ⟨x, hx⟩ : ∃ x, x = nth (wd p) k := ⟨_, rfl⟩
          rw [← hx] at hca ba HV
          clear hx bb
          go_wp2_with fail
          go_roundw
          case rel => exact ⟨k + 1, _, _, by omega, by rw [List.length_set]; exact HUL.out, wf_set hw.out _ _ (by omega) (by omega), by omega, by omega, HV.out, rfl, by go_num, (HO.out.set k _).1, HX.out.setCell (Nat.le_refl _) _⟩
          case measure => simp [intOf]; omega
      · have hkl : k = (wd p).length := by omega
        have HE := Lib.hid (add_end us p q (wd p).length t rfl hqp HUL.out (by rw [← hkl]; exact hv.out))
        have hco := HO.out.cell (wd p).length (by have := HUL.out; omega)
        have hfo := HO.out.free (wd p).length
        have HO2 := Lib.hid (HO.out.set (wd p).length t).1
        have HX2 := Lib.hid (HX.out.setCell (p := ⟨w.heap.size, (wd p).length, none⟩) (Nat.le_refl _) (.int .u32 t))
        have hlen : (us.set (wd p).length t).length = (wd p).length + 1 := by rw [List.length_set]; exact HUL.out
        have HL := Lib.hid hlen
        clear hkl hlen
        go_wp2_with fail
        refine (told_ok _ _ _ _ _ _ HO2.out HL.out (wf_set hw.out _ _ (by omega) (by omega)) _ HE.out hls).mono ?_; rintro e w' ⟨rfl, HO3, rfl⟩
        have HO4 := Lib.hid HO3
        clear HO3
        go_wp2_with fail
        go_ret2
        exact ⟨_, _, rfl, HO4.out, HX2.out⟩

end Go.Proofs.YtifonmdcicegdaaGreat

/- slices.Clone, nat.Of. -/
namespace Go.Proofs.YtifonmdcicegdaaGreat
open Go Go.RowKit

set_option maxHeartbeats 400000 in
theorem clone_any (A : Option Addr) (xs : List Int) (c : Nat) (w : World) (h : Rd w A c xs) (hl : xs.length ≤ 35184372088832) :
    Calls Tryz.prog 241 #[.slice A xs.length c] w fun e w' => ∃ A' c', e = .returned (.slice A' xs.length c') ∧ Own w' w.heap.size A' c' xs ∧ Ext w w' := by
  have heq := fun (wx : World) (B : Option Addr) (n k : Nat) => Lib.run_eql_slice_nil (P := Tryz.prog) wx 22 144 B n k 0 0 Tryz.underlying22
  cases A with
  | none =>
    obtain rfl : c = 0 := h.none_ rfl
    obtain rfl : xs = [] := List.eq_nil_of_length_eq_zero (Nat.le_zero.1 h.cap)
    clear h
    go_enter Tryz.func241, Tryz.ntmps241
    go_wp2
    go_ret
    exact ⟨none, 0, rfl, Own.nil _ _, Ext.refl _⟩
  | some a =>
    have H := Lib.hid h
    clear h
    go_enter Tryz.func241, Tryz.ntmps241
    go_wp2_with (at_builtin; refine wpList_app rfl _ _ rfl w.heap.size (some ⟨w.heap.size, 0, none⟩) 0 [] 0 rfl rfl (Own.lit w #[] [] rfl (by simp)) _ _ xs xs.length rfl rfl (H.out.ext ((Ext.refl w).alloc _)) (by simpa using hl) (by simp) ?_; intro A' c' w1 hO hg)
    have HO := Lib.hid hO
    have HX : Hid (Ext w w1) := ((Ext.refl w).alloc _).grown hg (fun k hk => by cases hk; exact Nat.le_refl _)
    clear hO hg heq
    go_wp2_with fail
    go_ret
    exact ⟨A', c', by simp, HO.out, HX.out⟩

theorem of_words (x : Nat) : val [(x : Int) % 4294967296, (x : Int) / 4294967296] = x := by
  show V _ 2 = _
  rw [V_cons, V_cons, V_zero]
  omega
theorem wf_of (x : Nat) (h : x < 18446744073709551616) : Wf [(x : Int) % 4294967296, (x : Int) / 4294967296] := by
  intro z hz
  simp only [List.mem_cons, List.not_mem_nil, or_false] at hz
  omega

set_option maxHeartbeats 400000 in
theorem of_any (x : Nat) (w : World) (hx : x < 18446744073709551616) :
    Calls Tryz.prog 243 #[.int .u64 x] w fun e w' => ∃ A' c', e = .returned (.slice A' (wd x).length c') ∧ Own w' w.heap.size A' c' (wd x) ∧ Ext w w' := by
  have ho := Own.lit w #[.int .u32 ((x : Int) % 4294967296), .int .u32 ((x : Int) / 4294967296)] [(x : Int) % 4294967296, (x : Int) / 4294967296] rfl (by simp)
  have ht := tl_all (wf_of x hx)
  rw [of_words, Int.toNat_natCast] at ht
  have HL := Lib.hid (show tl [(x : Int) % 4294967296, (x : Int) / 4294967296] 2 = (wd x).length by
    have e := congrArg List.length ht
    rw [List.length_take] at e
    have e2 : [(x : Int) % 4294967296, (x : Int) / 4294967296].length = 2 := rfl
    rw [e2] at e
    have := tl_le [(x : Int) % 4294967296, (x : Int) / 4294967296] 2
    omega)
  have hc := cut_any _ _ _ _ ho.rd
  have HO2 := ho.take (tl [(x : Int) % 4294967296, (x : Int) / 4294967296] [(x : Int) % 4294967296, (x : Int) / 4294967296].length)
  rw [ht] at HO2
  have HC := Lib.hid hc
  have HO := Lib.hid HO2
  have h1 : (x : Int) ≤ 18446744073709551615 := by omega
  clear ho hc HO2 ht
  go_enter Tryz.func243, Tryz.ntmps243
  go_wp2_with fail
  refine HC.out.mono ?_; rintro e w' ⟨rfl, rfl⟩
  go_wp2_with fail
  go_ret
  exact ⟨_, _, by rw [← HL.out]; rfl, HO.out, (Ext.refl w).alloc _⟩

end Go.Proofs.YtifonmdcicegdaaGreat

