/- Texts of this claim, joined: P1 A1. -/
import Derived.Calls
import Derived.Orders
set_option linter.unusedVariables false
set_option linter.unusedSimpArgs false
set_option maxRecDepth 100000
namespace Go.Proofs.YtjoonfegjobgbaaGreatDoor
def nth (xs : List Int) (j : Nat) : Int := xs.getD j 0
def Wf (xs : List Int) : Prop := ∀ x ∈ xs, 0 ≤ x ∧ x < 4294967296
def tl (xs : List Int) : Nat → Nat
  | 0 => 0
  | n + 1 => if nth xs n = 0 then tl xs n else n + 1
def pw (n : Nat) : Int := 4294967296 ^ n
def V (xs : List Int) : Nat → Int
  | 0 => 0
  | n + 1 => V xs n + nth xs n * pw n
def val (xs : List Int) : Int := V xs xs.length
def wd (n : Nat) : List Int := if h : n = 0 then [] else ((n % 4294967296 : Nat) : Int) :: wd (n / 4294967296)
  termination_by n
  decreasing_by exact Nat.div_lt_self (by omega) (by omega)
theorem tl_zero (xs : List Int) (k : Nat) (h : nth xs k = 0) : tl xs (k + 1) = tl xs k := by
  show (if _ then _ else _) = _; rw [if_pos h]
theorem tl_here (xs : List Int) (k : Nat) (h : nth xs k ≠ 0) : tl xs (k + 1) = k + 1 := by
  show (if _ then _ else _) = _; rw [if_neg h]
theorem tl_le (xs : List Int) : ∀ n, tl xs n ≤ n
  | 0 => Nat.le_refl _
  | n + 1 => by unfold tl; split; exact Nat.le_succ_of_le (tl_le xs n); exact Nat.le_refl _
theorem nth_cons_zero (x : Int) (xs : List Int) : nth (x :: xs) 0 = x := rfl
theorem nth_cons_succ (x : Int) (xs : List Int) (j : Nat) : nth (x :: xs) (j + 1) = nth xs j := rfl
theorem nth_out (xs : List Int) (j : Nat) (h : xs.length ≤ j) : nth xs j = 0 := by simp [nth, List.getD_eq_getElem?_getD, List.getElem?_eq_none h]
theorem nth_lt (xs : List Int) (j : Nat) (h : j < xs.length) : nth xs j = xs[j] := by simp [nth, List.getD_eq_getElem?_getD, List.getElem?_eq_getElem h]
theorem nth_wf {xs : List Int} (h : Wf xs) (j : Nat) : 0 ≤ nth xs j ∧ nth xs j < 4294967296 := by
  by_cases hj : j < xs.length
  · rw [nth_lt xs j hj]; exact h _ (List.getElem_mem hj)
  · rw [nth_out xs j (by omega)]; omega
theorem nth_set_self (xs : List Int) (j : Nat) (v : Int) (h : j < xs.length) : nth (xs.set j v) j = v := by
  rw [nth_lt _ _ (by simpa using h)]; simp
theorem nth_set_ne (xs : List Int) (j k : Nat) (v : Int) (h : j ≠ k) : nth (xs.set j v) k = nth xs k := by
  simp [nth, List.getD_eq_getElem?_getD, h]
theorem nth_take (xs : List Int) (n j : Nat) (h : j < n) : nth (xs.take n) j = nth xs j := by
  simp [nth, List.getD_eq_getElem?_getD, h]
theorem nth_drop (xs : List Int) (n j : Nat) : nth (xs.drop n) j = nth xs (n + j) := by
  simp [nth, List.getD_eq_getElem?_getD, List.getElem?_drop]
theorem nth_append_left (xs ys : List Int) (j : Nat) (h : j < xs.length) : nth (xs ++ ys) j = nth xs j := by
  simp [nth, List.getD_eq_getElem?_getD, List.getElem?_append_left h]
theorem nth_append_right (xs ys : List Int) (j : Nat) : nth (xs ++ ys) (xs.length + j) = nth ys j := by
  simp [nth, List.getD_eq_getElem?_getD, List.getElem?_append_right]
theorem nth_zeros (n j : Nat) : nth (List.replicate n (0 : Int)) j = 0 := by
  simp only [nth, List.getD_eq_getElem?_getD, List.getElem?_replicate]; split <;> rfl
theorem wf_set {xs : List Int} (h : Wf xs) (j : Nat) (v : Int) (h0 : 0 ≤ v) (h1 : v < 4294967296) : Wf (xs.set j v) := by
  intro x hx
  rcases List.mem_or_eq_of_mem_set hx with hx | rfl
  · exact h x hx
  · exact ⟨h0, h1⟩
theorem wf_zeros (n : Nat) : Wf (List.replicate n (0 : Int)) := by
  intro x hx; rw [List.mem_replicate] at hx; omega
theorem wf_take {xs : List Int} (h : Wf xs) (n : Nat) : Wf (xs.take n) := fun x hx => h x (List.mem_of_mem_take hx)
theorem wf_drop {xs : List Int} (h : Wf xs) (n : Nat) : Wf (xs.drop n) := fun x hx => h x (List.mem_of_mem_drop hx)
theorem wf_append {xs ys : List Int} (h : Wf xs) (k : Wf ys) : Wf (xs ++ ys) := fun x hx => (List.mem_append.1 hx).elim (h x) (k x)
theorem wf_nil : Wf [] := fun x hx => by cases hx
theorem pw_zero : pw 0 = 1 := rfl
theorem pw_succ (n : Nat) : pw (n + 1) = 4294967296 * pw n := by unfold pw; rw [Int.pow_succ, Int.mul_comm]
theorem pw_pos (n : Nat) : 0 < pw n := Int.pow_pos (by omega)
theorem pw_add (m n : Nat) : pw (m + n) = pw m * pw n := by unfold pw; rw [Int.pow_add]
theorem pw_mono {m n : Nat} (h : m ≤ n) : pw m ≤ pw n := by
  obtain ⟨d, rfl⟩ := Nat.le.dest h
  rw [pw_add]
  have h1 := pw_pos m
  have h2 := pw_pos d
  calc pw m = pw m * 1 := (Int.mul_one _).symm
    _ ≤ pw m * pw d := Int.mul_le_mul_of_nonneg_left (by omega) (by omega)
theorem V_zero (xs : List Int) : V xs 0 = 0 := rfl
theorem V_succ (xs : List Int) (n : Nat) : V xs (n + 1) = V xs n + nth xs n * pw n := rfl
theorem V_congr {xs ys : List Int} : ∀ n, (∀ j, j < n → nth xs j = nth ys j) → V xs n = V ys n
  | 0, _ => rfl
  | n + 1, h => by rw [V_succ, V_succ, V_congr n (fun j hj => h j (by omega)), h n (by omega)]
theorem V_zeros (m : Nat) : ∀ n, V (List.replicate m (0 : Int)) n = 0
  | 0 => rfl
  | n + 1 => by rw [V_succ, V_zeros m n, nth_zeros]; omega
theorem V_nonneg {xs : List Int} (h : Wf xs) : ∀ n, 0 ≤ V xs n
  | 0 => Int.le_refl _
  | n + 1 => by
    rw [V_succ]
    have := V_nonneg h n
    have := Int.mul_nonneg (nth_wf h n).1 (Int.le_of_lt (pw_pos n))
    omega
theorem V_lt {xs : List Int} (h : Wf xs) : ∀ n, V xs n < pw n
  | 0 => by show (0 : Int) < 1; omega
  | n + 1 => by
    rw [V_succ, pw_succ]
    have h1 := V_lt h n
    have h2 : nth xs n * pw n ≤ 4294967295 * pw n := Int.mul_le_mul_of_nonneg_right (by have := (nth_wf h n).2; omega) (Int.le_of_lt (pw_pos n))
    omega
theorem V_out (xs : List Int) (n : Nat) (h : xs.length ≤ n) : V xs n = val xs := by
  obtain ⟨d, rfl⟩ := Nat.le.dest h
  induction d with
  | zero => rfl
  | succ d ih =>
    show V xs (xs.length + d + 1) = _
    rw [V_succ, ih (by omega), nth_out _ _ (by omega)]
    omega
theorem V_set_ge (xs : List Int) (j n : Nat) (v : Int) (h : n ≤ j) : V (xs.set j v) n = V xs n :=
  V_congr n (fun i hi => nth_set_ne xs j i v (by omega))
theorem V_set (xs : List Int) (j : Nat) (v : Int) (hj : j < xs.length) : ∀ n, j < n → V (xs.set j v) n = V xs n + (v - nth xs j) * pw j
  | 0, h => by omega
  | n + 1, h => by
    rw [V_succ, V_succ]
    by_cases e : j = n
    · subst e
      rw [V_set_ge _ _ _ _ (Nat.le_refl _), nth_set_self _ _ _ hj, Int.sub_mul]
      omega
    · rw [V_set xs j v hj n (by omega), nth_set_ne _ _ _ _ e]
      omega
theorem V_take (xs : List Int) (n m : Nat) (h : m ≤ n) : V (xs.take n) m = V xs m := V_congr m (fun j hj => nth_take xs n j (by omega))
theorem V_drop (xs : List Int) (n : Nat) : ∀ m, V xs (n + m) = V xs n + pw n * V (xs.drop n) m
  | 0 => by rw [V_zero, Int.mul_zero]; simp
  | m + 1 => by
    show V xs (n + m + 1) = _
    rw [V_succ, V_drop xs n m, V_succ, nth_drop, pw_add, Int.mul_add]
    have : nth xs (n + m) * (pw n * pw m) = pw n * (nth xs (n + m) * pw m) := by
      rw [← Int.mul_assoc, Int.mul_comm (nth xs (n+m)) (pw n), Int.mul_assoc]
    omega
theorem V_cons (x : Int) (xs : List Int) (n : Nat) : V (x :: xs) (n + 1) = x + 4294967296 * V xs n := by
  have := V_drop (x :: xs) 1 n
  rw [Nat.add_comm 1 n] at this
  rw [this]
  show V (x :: xs) 0 + nth (x :: xs) 0 * pw 0 + pw 1 * V xs n = _
  have e : pw 1 = 4294967296 := rfl
  rw [V_zero, nth_cons_zero, pw_zero, e]
  omega
theorem V_tl (xs : List Int) : ∀ n, V xs (tl xs n) = V xs n
  | 0 => rfl
  | n + 1 => by
    by_cases h : nth xs n = 0
    · rw [tl_zero xs n h, V_tl xs n, V_succ, h]; omega
    · rw [tl_here xs n h]
theorem tl_last (xs : List Int) : ∀ n, tl xs n ≠ 0 → nth xs (tl xs n - 1) ≠ 0
  | 0, h => absurd rfl h
  | n + 1, h => by
    by_cases hz : nth xs n = 0
    · rw [tl_zero xs n hz] at h ⊢; exact tl_last xs n h
    · rw [tl_here xs n hz]; simpa using hz
theorem wd_zero : wd 0 = [] := by unfold wd; simp
theorem wd_pos (n : Nat) (h : n ≠ 0) : wd n = ((n % 4294967296 : Nat) : Int) :: wd (n / 4294967296) := by
  conv => lhs; unfold wd
  rw [dif_neg h]
theorem wf_wd (n : Nat) : Wf (wd n) := by
  induction n using Nat.strongRecOn with
  | _ n ih =>
    by_cases h : n = 0
    · subst h; rw [wd_zero]; exact wf_nil
    · rw [wd_pos n h]
      intro x hx
      rcases List.mem_cons.1 hx with rfl | hx
      · omega
      · exact ih (n / 4294967296) (Nat.div_lt_self (by omega) (by omega)) x hx
theorem val_wd (n : Nat) : val (wd n) = n := by
  induction n using Nat.strongRecOn with
  | _ n ih =>
    by_cases h : n = 0
    · subst h; rw [wd_zero]; rfl
    · have := ih (n / 4294967296) (Nat.div_lt_self (by omega) (by omega))
      rw [wd_pos n h]
      show V _ (_ + 1) = _
      rw [V_cons]
      show _ + 4294967296 * val (wd (n / 4294967296)) = _
      rw [this]
      omega
theorem wd_eq_nil {n : Nat} (h : wd n = []) : n = 0 := by
  have := val_wd n
  rw [h] at this
  exact (Int.ofNat.inj this).symm
theorem wd_len_zero {n : Nat} : (wd n).length = 0 ↔ n = 0 :=
  ⟨fun h => wd_eq_nil (List.eq_nil_of_length_eq_zero h), fun h => by subst h; rw [wd_zero]; rfl⟩
theorem wd_last (n : Nat) (h : n ≠ 0) : nth (wd n) ((wd n).length - 1) ≠ 0 := by
  induction n using Nat.strongRecOn with
  | _ n ih =>
    rw [wd_pos n h]
    by_cases h2 : n / 4294967296 = 0
    · rw [h2, wd_zero]
      show ((n % 4294967296 : Nat) : Int) ≠ 0
      omega
    · have := ih (n / 4294967296) (Nat.div_lt_self (by omega) (by omega)) h2
      have hl : (wd (n / 4294967296)).length ≠ 0 := fun e => h2 (wd_len_zero.1 e)
      obtain ⟨k, hk⟩ := Nat.exists_eq_succ_of_ne_zero hl
      simp only [List.length_cons, hk, Nat.succ_eq_add_one, Nat.add_sub_cancel] at this ⊢
      rw [nth_cons_succ]
      exact this
theorem wd_val {xs : List Int} (h : Wf xs) (hn : xs ≠ [] → nth xs (xs.length - 1) ≠ 0) : wd (val xs).toNat = xs := by
  induction xs with
  | nil => show wd 0 = []; exact wd_zero
  | cons x xs ih =>
    have hx := h x (List.mem_cons_self ..)
    have hw : Wf xs := fun y hy => h y (List.mem_cons_of_mem _ hy)
    have hv : val (x :: xs) = x + 4294967296 * val xs := V_cons x xs xs.length
    have hnn := V_nonneg hw xs.length
    have hnv : 0 ≤ val xs := hnn
    have hpos : (val (x :: xs)).toNat ≠ 0 := by
      intro e
      have hz : x + 4294967296 * val xs = 0 := by omega
      cases xs with
      | nil =>
        have := hn (by simp)
        rw [show (([x] : List Int).length - 1) = 0 from rfl, nth_cons_zero] at this
        have e0 : val ([] : List Int) = 0 := rfl
        omega
      | cons y ys =>
        have h0 : val (y :: ys) = 0 := by omega
        have hw2 := hn (by simp)
        have hlast : nth (y :: ys) ((y :: ys).length - 1) ≠ 0 := by
          simpa [nth_cons_succ] using hw2
        have hpl := V_succ (y :: ys) ((y :: ys).length - 1)
        have e1 : (y :: ys).length - 1 + 1 = (y :: ys).length := by simp
        rw [e1] at hpl
        have a := V_nonneg hw ((y :: ys).length - 1)
        have b := nth_wf hw ((y :: ys).length - 1)
        have c := Int.mul_pos (show 0 < nth (y :: ys) ((y :: ys).length - 1) by omega) (pw_pos ((y :: ys).length - 1))
        have : val (y :: ys) = V (y :: ys) (y :: ys).length := rfl
        omega
    rw [wd_pos _ hpos]
    have hq : (val (x :: xs)).toNat / 4294967296 = (val xs).toNat := by omega
    have hr : (((val (x :: xs)).toNat % 4294967296 : Nat) : Int) = x := by omega
    rw [hq, hr]
    rw [ih hw ?_]
    intro hne
    have := hn (by simp)
    obtain ⟨k, hk⟩ := Nat.exists_eq_succ_of_ne_zero (fun e => hne (List.eq_nil_of_length_eq_zero e) : xs.length ≠ 0)
    simp only [List.length_cons, hk, Nat.succ_eq_add_one, Nat.add_sub_cancel] at this ⊢
    rwa [nth_cons_succ] at this
theorem take_tl {xs : List Int} (h : Wf xs) (n : Nat) (hn : n ≤ xs.length) : xs.take (tl xs n) = wd (V xs n).toNat := by
  have ht := tl_le xs n
  have hl : (xs.take (tl xs n)).length = tl xs n := by rw [List.length_take]; omega
  rw [← V_tl xs n, ← V_take xs (tl xs n) (tl xs n) (Nat.le_refl _)]
  have := wd_val (wf_take h (tl xs n)) (fun hne => by
    have h0 : tl xs n ≠ 0 := fun e => hne (by rw [e]; rfl)
    rw [hl, nth_take _ _ _ (by omega)]
    exact tl_last xs n h0)
  unfold val at this
  rw [hl] at this
  exact this.symm
theorem tl_all {xs : List Int} (h : Wf xs) : xs.take (tl xs xs.length) = wd (val xs).toNat := take_tl h _ (Nat.le_refl _)
theorem tl_wd (n : Nat) : tl (wd n) (wd n).length = (wd n).length := by
  have h := tl_all (wf_wd n)
  rw [val_wd] at h
  have h2 := congrArg List.length h
  rw [List.length_take] at h2
  have := tl_le (wd n) (wd n).length
  simp at h2
  omega
theorem wd_lt_pw (n : Nat) : (n : Int) < pw (wd n).length := by
  have := V_lt (wf_wd n) (wd n).length
  have e := val_wd n
  unfold val at e
  omega
theorem pw_le_wd (n : Nat) (h : n ≠ 0) : pw ((wd n).length - 1) ≤ n := by
  have e := val_wd n
  unfold val at e
  have hl : (wd n).length ≠ 0 := fun e => h (wd_len_zero.1 e)
  obtain ⟨k, hk⟩ := Nat.exists_eq_succ_of_ne_zero hl
  have hz := wd_last n h
  rw [hk] at e hz ⊢
  simp only [Nat.succ_eq_add_one, Nat.add_sub_cancel] at *
  rw [V_succ] at e
  have a := V_nonneg (wf_wd n) k
  have b := nth_wf (wf_wd n) k
  have c : 1 * pw k ≤ nth (wd n) k * pw k := Int.mul_le_mul_of_nonneg_right (by omega) (Int.le_of_lt (pw_pos k))
  omega
theorem pw_lt {m n : Nat} (h : pw m < pw n) : m < n := by
  by_cases hc : m < n
  · exact hc
  · have := pw_mono (show n ≤ m by omega); omega
theorem wd_len_le (n k : Nat) (h : (n : Int) < pw k) : (wd n).length ≤ k := by
  by_cases h0 : n = 0
  · subst h0; rw [wd_zero]; exact Nat.zero_le _
  · have := pw_le_wd n h0
    have := pw_lt (show pw ((wd n).length - 1) < pw k by omega)
    omega
theorem wd_len_mono {m n : Nat} (h : m ≤ n) : (wd m).length ≤ (wd n).length := wd_len_le m _ (by have := wd_lt_pw n; omega)
theorem wd_len_lt {m n : Nat} (h : (wd m).length < (wd n).length) : m < n := by
  by_cases hc : m < n
  · exact hc
  · have := wd_len_mono (show n ≤ m by omega); omega
theorem nat_lt_of_len (n k : Nat) (h : (wd n).length ≤ k) : (n : Int) < pw k := by
  have := wd_lt_pw n
  have := pw_mono h
  omega
theorem wd_len_add (m n : Nat) : (wd (m + n)).length ≤ max (wd m).length (wd n).length + 1 := by
  apply wd_len_le
  rw [pw_succ]
  have h1 := nat_lt_of_len m _ (Nat.le_max_left (wd m).length (wd n).length)
  have h2 := nat_lt_of_len n _ (Nat.le_max_right (wd m).length (wd n).length)
  omega
theorem wd_len_mul (m n : Nat) : (wd (m * n)).length ≤ (wd m).length + (wd n).length := by
  apply wd_len_le
  rw [pw_add, Int.natCast_mul]
  have h1 := wd_lt_pw m
  have h2 := wd_lt_pw n
  have h3 := pw_pos (wd m).length
  calc (m : Int) * n ≤ pw (wd m).length * n := Int.mul_le_mul_of_nonneg_right (by omega) (by omega)
    _ < pw (wd m).length * pw (wd n).length := Int.mul_lt_mul_of_pos_left h2 h3
def chk (xs : List Int) : Int := if 8192 < xs.length then 3 else if xs ≠ [] ∧ nth xs (xs.length - 1) = 0 then 11 else 0
theorem chk_wd (n : Nat) (h : (wd n).length ≤ 8192) : chk (wd n) = 0 := by
  unfold chk
  rw [if_neg (by omega), if_neg]
  rintro ⟨h1, h2⟩
  exact wd_last n (fun e => h1 (by rw [e, wd_zero])) h2
def chk2 (xs ys : List Int) : Int := if chk xs = 0 then chk ys else chk xs
def cmp (m n : Nat) : Int := if m < n then -1 else if n < m then 1 else 0
theorem cmp_lt {m n : Nat} (h : m < n) : cmp m n = -1 := if_pos h
theorem cmp_gt {m n : Nat} (h : n < m) : cmp m n = 1 := by unfold cmp; rw [if_neg (by omega), if_pos h]
theorem cmp_eq {m n : Nat} (h : m = n) : cmp m n = 0 := by unfold cmp; rw [if_neg (by omega), if_neg (by omega)]
theorem cmp_lt_iff {m n : Nat} : cmp m n < 0 ↔ m < n := by unfold cmp; split <;> (try split) <;> omega
end Go.Proofs.YtjoonfegjobgbaaGreatDoor
namespace Go.Proofs.YtjoonfegjobgbaaGreatDoor
open Go
inductive Ty where
  | bo | it (k : IntKind) | st | sl (t : Ty) | pt (t : Ty) | fn | pr (a b : Ty) | un | lt (t : Ty) | lf (t : Ty) | oq
  deriving DecidableEq
abbrev El : Ty → Type
  | .bo => Bool
  | .it _ => Int
  | .st => ByteArray
  | .sl t => List (El t)
  | .pt t => El t
  | .fn => Unit
  | .pr a b => El a × El b
  | .un => Unit
  | .lt t => List (El t)
  | .lf t => List (El t)
  | .oq => Value
def mk3 : List Int := [2882343476, 2882343477, 2882343478]
def dfl : (t : Ty) → El t
  | .bo => false
  | .it _ => (0 : Int)
  | .st => ByteArray.empty
  | .sl _ => []
  | .pt t => dfl t
  | .fn => ()
  | .pr a b => (dfl a, dfl b)
  | .un => ()
  | .lt _ => []
  | .lf _ => []
  | .oq => Value.slice none 0 0
def Ty.size : Ty → Nat
  | .pr a b => a.size + b.size
  | .un => 0
  | _ => 1
def Ty.agg : Ty → Bool
  | .pr _ _ => true
  | .un => true
  | _ => false
def Ty.nop : Ty → Bool
  | .pt _ => false
  | .fn => false
  | .pr a b => a.nop && b.nop
  | .sl t => t.nop
  | .lt t => t.nop
  | .lf t => t.nop
  | _ => true
def Ty.flat : Ty → Bool
  | .bo => true
  | .it _ => true
  | .st => true
  | .un => true
  | .oq => true
  | .pr a b => a.flat && b.flat
  | _ => false
def Ty.one : Ty → Bool
  | .bo => true
  | .it _ => true
  | .st => true
  | _ => false
def Ty.scal : Ty → Bool
  | .pr a b => a.one && (match b with
    | .un => true
    | b => b.scal)
  | _ => false
def eqV : (t : Ty) → El t → El t → Bool
  | .bo, a, b => a == b
  | .it _, a, b => (show Int from a) == (show Int from b)
  | .st, a, b => a.toList == b.toList
  | .pr a b, x, y => eqV a x.1 y.1 && (match b with
    | .un => true
    | b => eqV b x.2 y.2)
  | _, _, _ => true
def unl : Ty → Ty
  | .sl t => .sl (unl t)
  | .lt t => .sl (unl t)
  | .lf t => .sl (unl t)
  | .pr a b => .pr (unl a) (unl b)
  | t => t
abbrev ti : Ty := .it .i64
abbrev tW32 : Ty := .sl (.it .u32)
abbrev tR : Ty := .pr .bo (.pr tW32 (.pr tW32 .un))
abbrev tG : Ty := .pr tR (.pr tR .un)
abbrev tRot : Ty := .pr (.it .i32) (.pr (.it .i32) .un)
abbrev tTide : Ty := .pr .st (.pr tRot (.pr tG .un))
abbrev tPort : Ty := .pr .st (.pr tR (.pr (.sl tTide) .un))
abbrev tWater : Ty := .pr ti (.pr ti (.pr .bo (.pr tR .un)))
abbrev tRound : Ty := .pr tG (.pr tG .un)
abbrev tRQ : Ty := .pr .bo (.pr .oq (.pr .oq .un))
abbrev tGQ : Ty := .pr tRQ (.pr tRQ .un)
abbrev tRule : Ty := .pr .st (.pr .st (.pr tRot (.pr tG .un)))
abbrev tWhole : Ty := .pr .bo (.pr tW32 .un)
def eidS (t : Ty) : Nat :=
  if unl t = .it .u32 then 46
 else if unl t = .it .i64 then 3
 else if unl t = tR then 24
 else if unl t = tG then 50
 else if unl t = tRot then 59
 else if unl t = tTide then 75
 else if unl t = tRQ then 24
 else if unl t = tGQ then 50
  else 0
def marksU : (u : Ty) → List (El u) := fun u =>
  if h : u = .it .u32 then h ▸ mk3
  else if h : u = tTide then h ▸ (List.replicate 3 ((⟨#[98, 101, 104, 105, 110, 100]⟩, (0, 0, ()), dfl tG, ()) : El tTide))
  else if h : u = tG then h ▸ (List.replicate 3 (((true, [], [], ()), dfl tR, ()) : El tG))
  else if h : u = tWater then h ▸ (List.replicate 3 ((-7, 0, false, dfl tR, ()) : El tWater))
  else if h : u = tRound then h ▸ (List.replicate 3 ((((true, [], [], ()), dfl tR, ()), dfl tG, ()) : El tRound))
  else []
def mkv (t : Ty) : List (El (unl t)) := marksU (unl t)
def mkU (u : Ty) : Bool := decide (u = tTide) || decide (u = tG) || decide (u = tWater) || decide (u = tRound)
def unE : (t : Ty) → El t → El (unl t)
  | .sl t, l => List.map (unE t) l
  | .lt (.it _), l => l
  | .lt t, l => List.map (unE t) l
  | .lf t, l => List.map (unE t) l ++ mkv t
  | .pr a b, x => (unE a x.1, unE b x.2)
  | .bo, x => x
  | .it _, x => x
  | .st, x => x
  | .pt _, x => x
  | .fn, x => x
  | .un, x => x
  | .oq, x => x
def unL : (t : Ty) → List (El t) → List (El (unl t))
  | .it _, l => l
  | t, l => List.map (unE t) l
def vcs : (t : Ty) → El t → List Value
  | .bo, x => [.bool x]
  | .it k, x => [.int k x]
  | .st, x => [.string x]
  | .sl _, _ => [.slice none 0 0]
  | .pr a b, x => vcs a x.1 ++ vcs b x.2
  | .un, _ => []
  | .oq, x => [x]
  | _, _ => []
def mks (m : Nat) (t : Ty) : List (List Value) := match m with
  | 0 => []
  | 4 => (mkv t).map (vcs (unl t))
  | m => ((mkv t).take m).map (vcs (unl t))
def vis (m : Nat) (t : Ty) : Nat := match m with
  | 0 => 0
  | 4 => 0
  | m => ((mkv t).take m).length
def seen (m : Nat) (t : Ty) (l : List (El t)) : List (El (unl t)) := match m with
  | 0 => unL t l
  | 4 => unL t l
  | m => unL t l ++ (mkv t).take m
def Ty.fld : Ty → Nat → Option (Nat × Ty)
  | .pr a _, 0 => some (0, a)
  | .pr a b, n + 1 => match b.fld n with
    | some (o, t) => some (a.size + o, t)
    | none => none
  | _, _ => none
inductive Ce where
  | bad | ud | tt | ff
  | sc (v : Value)
  | nl
  | sl (t : Ty) (l : List (El t))
  | lt (t : Ty) (l : List (El t))
  | lf (t : Ty) (l : List (El t))
  | oq (v : Value)
  | ow (i : Nat)
  | os (i s a n : Nat)
  | pv (i off : Nat)
  | pr (i : Nat) (t : Ty) (j off : Nat)
  | fv (f : Nat) (l : List Nat)
inductive AV where
  | c (x : Ce)
  | pe (cs : List Ce)
  | ag (cs : List Ce)
  | tu (vs : List (Bool × List Ce))
inductive Ob where
  | var (cs : List Ce)
  | ty (e : Nat) (t : Ty) (l : List (El t)) (m : Nat)
  | ce (e : Nat) (t : Ty) (es : List (List Ce))
  | fz (t : Ty) (l : List (El t)) (m : Nat)
  | dp (e : Nat) (t : Ty) (l : List (El t)) (m : Nat)
  | dead
def cel : (t : Ty) → El t → List Ce
  | .bo, x => [.sc (.bool x)]
  | .it k, x => [.sc (.int k x)]
  | .st, x => [.sc (.string x)]
  | .sl t, l => [.sl t l]
  | .pt _, _ => [.bad]
  | .fn, _ => [.bad]
  | .pr a b, x => cel a x.1 ++ cel b x.2
  | .un, _ => []
  | .lt t, l => [.lt t l]
  | .lf t, l => [.lf t l]
  | .oq, x => [.oq x]
def zer : Ty → List Ce
  | .bo => [.ff]
  | .it k => [.sc (.int k 0)]
  | .st => [.sc (.string ByteArray.empty)]
  | .sl _ => [.nl]
  | .pt _ => [.sc (.pointer none)]
  | .fn => [.sc .nilFunc]
  | .pr a b => zer a ++ zer b
  | .un => []
  | .lt _ => [.nl]
  | .lf _ => [.nl]
  | .oq => [.nl]
def look.{u} {α : Type u} : List (Nat × α) → Nat → Option α
  | [], _ => none
  | (k, v) :: l, n => bif Nat.beq k n then some v else look l n
abbrev Els : List Ty → Type
  | [] => Unit
  | t :: ts => El t × Els ts
def mapO {α β : Type} (f : α → Option β) : List α → Option (List β)
  | [] => some []
  | x :: xs => match f x, mapO f xs with
    | some y, some ys => some (y :: ys)
    | _, _ => none
def AV.cells : AV → Option (List Ce)
  | .c .ud => none
  | .c x => some [x]
  | .ag cs => some cs
  | _ => none
def AV.cellsAs (agg : Bool) : AV → Option (List Ce)
  | .c .ud => none
  | .c x => bif agg then none else some [x]
  | .ag cs => bif agg then some cs else none
  | _ => none
def mkA (agg : Bool) (cs : List Ce) : Option AV :=
  bif agg then some (.ag cs) else match cs with
    | [x] => some (.c x)
    | _ => none
def inK (k : IntKind) (n : Int) : Bool := decide (k.min ≤ n) && decide (n ≤ k.max)
def cstC : Value → Option Ce
  | .bool true => some .tt
  | .bool false => some .ff
  | .int k n => bif inK k n then some (.sc (.int k n)) else none
  | .string s => if s.size ≤ 9223372036854775807 then some (.sc (.string s)) else none
  | .slice none 0 0 => some .nl
  | .pointer none => some (.sc (.pointer none))
  | .nilFunc => some (.sc .nilFunc)
  | _ => none
def cst : Value → Option AV
  | .agg vs => (mapO cstC vs.toList).map .ag
  | v => (cstC v).map .c
def ev (tm : Nat → Option AV) : Operand → Option AV
  | .tmp t => tm t
  | .const v => cst v
  | _ => none
structure Ef where
  v : AV
  ob : List (Nat × Ob) := []
  k : Nat := 0
abbrev Store := Nat → Option Ob
inductive Gf : Type 1 where
  | e (E : Ef)
  | g (R : Type) (val : R) (k : R → Ef)
abbrev Prim := List AV → Store → Nat → Option (Option Prop × Gf)
structure Cfg : Type 1 where
  N : Nat
  hp : Bool
  ty : List (Nat × (Ty × Nat))
  pr : List (Nat × Prim)
  dp : List (Nat × Ty) := []
  un : List (Nat × Nat) := []
  ho : Bool := false
  cx : Nat := 0
  mj : List Nat := []
abbrev Cfg.at (C : Cfg) (m : Nat) : Cfg := { C with cx := m }
def Cfg.t (C : Cfg) (t : Nat) : Option Ty := (look C.ty t).map (·.1)
def Cfg.el (C : Cfg) (t : Nat) : Option (Nat × Ty) := match look C.ty t with
  | some (.sl e, i) => some (i, e)
  | _ => none
def cast_ (t u : Ty) (l : List (El t)) : Option (List (El u)) := if h : t = u then some (h ▸ l) else none
def toB : List Ce → Option Bool
  | [.tt] => some true
  | [.ff] => some false
  | [.sc (.bool x)] => some x
  | _ => none
def toI (k : IntKind) : List Ce → Option Int
  | [.sc (.int k' n)] => if k' = k then some n else none
  | _ => none
def toS : List Ce → Option ByteArray
  | [.sc (.string x)] => some x
  | _ => none
def cvL (u t : Ty) (l : List (El u)) : Option (List (El t)) := if u = t then cast_ u t l else cast_ (unl u) t (unL u l)
def cvM (m : Nat) (u t : Ty) (l : List (El u)) : Option (List (El t)) := match m with
  | 0 => cvL u t l
  | 4 => cvL u t l
  | m => cast_ (unl u) t (seen m u l)
def sub_ {α : Type} (a n : Nat) (l : List α) : List α := (l.drop a).take n
def toL (O : Store) (t : Ty) (f : List Ce → Option (El t)) : List Ce → Option (List (El t))
  | [.nl] => some []
  | [.sl u l] => cast_ u t l
  | [.lt u l] => cast_ (unl u) t (unL u l)
  | [.lf u l] => cast_ (unl u) t (unL u l ++ mkv u)
  | [.ow i] => match O i with
    | some (.ty _ u l m) => cvM m u t l
    | some (.fz u l m) => cvM m u t l
    | some (.dp _ u l m) => cvM m u t l
    | some (.ce _ _ es) => mapO f es
    | _ => none
  | [.os i s a n] => match O i with
    | some (.ty _ u l m) => if Nat.beq s u.size = true then (cvM m u t l).map (sub_ a n) else none
    | some (.fz u l m) => if Nat.beq s u.size = true then (cvM m u t l).map (sub_ a n) else none
    | some (.dp _ u l m) => if Nat.beq s u.size = true then (cvM m u t l).map (sub_ a n) else none
    | _ => none
  | _ => none
def toLt (O : Store) (t : Ty) : List Ce → Option (List (El t))
  | [.lt u l] => cast_ u t l
  | [.ow i] => match O i with
    | some (.ty _ u l 4) => cast_ u t l
    | some (.fz u l 4) => cast_ u t l
    | some (.dp _ u l 4) => cast_ u t l
    | _ => none
  | _ => none
def toLf (O : Store) (t : Ty) : List Ce → Option (List (El t))
  | [.lf u l] => cast_ u t l
  | [.ow i] => match O i with
    | some (.fz u l 3) => cast_ u t l
    | some (.dp _ u l 3) => cast_ u t l
    | _ => none
  | _ => none
def toQ : List Ce → Option Value
  | [.oq v] => some v
  | [.nl] => some (.slice none 0 0)
  | _ => none
def toU : List Ce → Option Unit
  | [] => some ()
  | _ => none
def toE (O : Store) : (t : Ty) → List Ce → Option (El t)
  | .bo, cs => toB cs
  | .it k, cs => toI k cs
  | .st, cs => toS cs
  | .sl t, cs => toL O t (toE O t) cs
  | .pr a b, cs => match toE O a (cs.take a.size), toE O b (cs.drop a.size) with
    | some x, some y => some (x, y)
    | _, _ => none
  | .un, cs => toU cs
  | .lt t, cs => toLt O t cs
  | .lf t, cs => toLf O t cs
  | .oq, cs => toQ cs
  | .pt _, _ => none
  | .fn, _ => none
def toEs (O : Store) : (ts : List Ty) → List AV → Option (Els ts)
  | [], [] => some ()
  | t :: ts, a :: az => match a.cellsAs t.agg with
    | some cs => match toE O t cs, toEs O ts az with
      | some x, some y => some (x, y)
      | _, _ => none
    | none => none
  | _, _ => none
structure Im where
  cs : List Ce
  ob : List (Nat × Ob)
  n : Nat
def imE (fresh : Bool) : (t : Ty) → El t → Nat → Im
  | .bo, x, n => ⟨[.sc (.bool x)], [], n⟩
  | .it k, x, n => ⟨[.sc (.int k x)], [], n⟩
  | .st, x, n => ⟨[.sc (.string x)], [], n⟩
  | .sl t, l, n => bif fresh then ⟨[.ow n], [(n, bif t.flat then .ty (eidS t) t l 0 else .dp (eidS t) t l 0)], n + 1⟩ else ⟨[.sl t l], [], n⟩
  | .pt t, x, n => ⟨[.pv n 0], [(n, .var (cel t x))], n + 1⟩
  | .fn, _, n => ⟨[.bad], [], n⟩
  | .pr a b, x, n => match imE fresh a x.1 n with
    | ⟨cs, ob, m⟩ => match imE fresh b x.2 m with
      | ⟨cs', ob', m'⟩ => ⟨cs ++ cs', ob ++ ob', m'⟩
  | .un, _, n => ⟨[], [], n⟩
  | .lt t, l, n => bif fresh then ⟨[.ow n], [(n, bif t.flat then .ty (eidS t) t l 4 else .dp (eidS t) t l 4)], n + 1⟩ else ⟨[.lt t l], [], n⟩
  | .lf t, l, n => bif fresh then ⟨[.ow n], [(n, .dp (eidS t) t l 3)], n + 1⟩ else ⟨[.lf t l], [], n⟩
  | .oq, x, n => ⟨[.oq x], [], n⟩
structure Ims where
  vs : List (Bool × List Ce)
  ob : List (Nat × Ob)
  n : Nat
def imEs (fresh : Bool) : (ts : List Ty) → Els ts → Nat → Ims
  | [], _, n => ⟨[], [], n⟩
  | t :: ts, x, n => match imE fresh t x.1 n with
    | ⟨cs, ob, m⟩ => match imEs fresh ts x.2 m with
      | ⟨vs, ob', m'⟩ => ⟨(t.agg, cs) :: vs, ob ++ ob', m'⟩
def frzI (O : Store) (i : Nat) : Option (List (Nat × Ob)) := match O i with
  | some (.ty _ t l m) => some [(i, .fz t l m)]
  | some (.dp _ t l m) => some [(i, .fz t l m)]
  | some (.fz _ _ _) => some []
  | _ => none
def frzC (O : Store) : Ce → Option (List (Nat × Ob))
  | .ow i => frzI O i
  | .os i _ _ _ => frzI O i
  | _ => some []
def frzCs (O : Store) : List Ce → Option (List (Nat × Ob))
  | [] => some []
  | x :: xs => match frzC O x, frzCs O xs with
    | some l, some m => some (l ++ m)
    | _, _ => none
def frz (O : Store) : List AV → Option (List (Nat × Ob))
  | [] => some []
  | a :: az => match a.cells.bind (frzCs O), frz O az with
    | some l, some m => some (l ++ m)
    | _, _ => none
def onlyFz (O : Store) (fz : List (Nat × Ob)) : Store := fun i => match look fz i with
  | some o => some o
  | none => match O i with
    | some (.fz t l m) => some (.fz t l m)
    | _ => none
structure Spec where
  q : Ty
  ps : List Ty
  rs : List Ty
  fresh : Bool
  pre : El q → Els ps → Option Prop
  post : El q → Els ps → El q × Els rs
def Spec.ptr (S : Spec) : Bool := match S.q with
  | .un => false
  | _ => true
def tupA : List (Bool × List Ce) → AV
  | [(false, [x])] => .c x
  | [(true, cs)] => .ag cs
  | vs => .tu vs
def Spec.ef (S : Spec) (n : Nat) (pre : List (Nat × Ob)) (y : El S.q → List (Nat × Ob)) (r : El S.q × Els S.rs) : Ef :=
  match imEs S.fresh S.rs r.2 n with
  | ⟨vs, ob, m⟩ => ⟨tupA vs, y r.1 ++ ob ++ pre, m - n⟩
def Spec.prim0 (S : Spec) : Prim := fun az O n =>
  match (bif S.fresh then some [] else frz O az) with
  | some fz => match toEs (bif S.fresh then O else onlyFz O fz) S.ps az with
    | some x => some (S.pre (dfl S.q) x, .g (El S.q × Els S.rs) (S.post (dfl S.q) x) (Spec.ef S n fz fun _ => []))
    | none => none
  | none => none
def Spec.primP (S : Spec) : Prim := fun az O n =>
  match az with
  | .c (.pv i 0) :: az => bif S.fresh && !S.q.flat then none else match O i with
    | some (.var cs) => match (bif S.fresh then some [] else frz O az) with
      | some fz => match toE (fun _ => none) S.q cs, toEs (bif S.fresh then O else onlyFz O fz) S.ps az with
        | some y, some x => some (S.pre y x, .g (El S.q × Els S.rs) (S.post y x) (Spec.ef S n fz fun y => [(i, .var (cel S.q y))]))
        | _, _ => none
      | none => none
    | _ => none
  | _ => none
def Spec.prim (S : Spec) : Prim := bif S.ptr then S.primP else S.prim0
def binS (op : BinOp) : Ce → Ce → Option (Option Prop × Ce)
  | .sc (.int k a), .sc (.int k' b) =>
    match op with
    | .shl | .shr => none
    | _ => if k ≠ k' then none else
      match op with
      | .add => if k = .i64 then some (some (-9223372036854775808 ≤ a + b ∧ a + b ≤ 9223372036854775807), .sc (.int k (a + b))) else some (none, .sc (.int k (k.wrap (a + b))))
      | .sub => if k = .i64 then some (some (-9223372036854775808 ≤ a - b ∧ a - b ≤ 9223372036854775807), .sc (.int k (a - b))) else some (none, .sc (.int k (k.wrap (a - b))))
      | .mul => if k = .i64 then some (some (-9223372036854775808 ≤ a * b ∧ a * b ≤ 9223372036854775807), .sc (.int k (a * b))) else some (none, .sc (.int k (k.wrap (a * b))))
      | .quo => some (some (0 ≤ a ∧ 0 < b), .sc (.int k (a / b)))
      | .rem => some (some (b ≠ 0), .sc (.int k (a.tmod b)))
      | .eql => some (none, .sc (.bool (a == b)))
      | .neq => some (none, .sc (.bool (a != b)))
      | .lss => some (none, .sc (.bool (a < b)))
      | .leq => some (none, .sc (.bool (a ≤ b)))
      | .gtr => some (none, .sc (.bool (a > b)))
      | .geq => some (none, .sc (.bool (a ≥ b)))
      | .and => some (none, .sc (.int k (k.wrap (BitVec.ofInt k.bits a &&& BitVec.ofInt k.bits b).toNat)))
      | .or => some (none, .sc (.int k (k.wrap (BitVec.ofInt k.bits a ||| BitVec.ofInt k.bits b).toNat)))
      | .xor => some (none, .sc (.int k (k.wrap (BitVec.ofInt k.bits a ^^^ BitVec.ofInt k.bits b).toNat)))
      | _ => none
  | .sc (.string a), .sc (.string b) =>
    match op with
    | .add => some (some (a.size + b.size ≤ 9223372036854775807), .sc (.string (a ++ b)))
    | .eql => some (none, .sc (.bool (a.toList == b.toList)))
    | .neq => some (none, .sc (.bool (!(a.toList == b.toList))))
    | _ => none
  | _, _ => none
def shiftS (op : BinOp) : Ce → Ce → Option (Option Prop × Ce)
  | .sc (.int k a), .sc (.int _ b) =>
    match op with
    | .shl => some (some (0 ≤ b), .sc (.int k (k.wrap (a * 2 ^ min b.toNat k.bits))))
    | .shr => some (some (0 ≤ b), .sc (.int k (a.fdiv (2 ^ min b.toNat k.bits))))
    | _ => none
  | _, _ => none
def boolOf : Ce → Option Bool
  | .tt => some true
  | .ff => some false
  | .sc (.bool b) => some b
  | _ => none
def binB (op : BinOp) (x y : Ce) : Option (Option Prop × Ce) :=
  match boolOf x, boolOf y with
  | some a, some b => match op with
    | .eql => some (none, .sc (.bool (a == b)))
    | .neq => some (none, .sc (.bool (!(a == b))))
    | _ => none
  | _, _ => none
def unS (op : UnOp) : Ce → Option (Option Prop × Ce)
  | .sc (.int k n) => match op with
    | .neg => if k = .i64 then some (some (-9223372036854775808 ≤ -n ∧ -n ≤ 9223372036854775807), .sc (.int k (-n))) else some (none, .sc (.int k (k.wrap (0 - n))))
    | _ => none
  | .sc (.bool b) => match op with
    | .not => some (none, .sc (.bool (!b)))
    | _ => none
  | .tt => match op with
    | .not => some (none, .ff)
    | _ => none
  | .ff => match op with
    | .not => some (none, .tt)
    | _ => none
  | _ => none
def overC (cs : List Ce) (off : Nat) (xs : List Ce) : List Ce := cs.take off ++ xs ++ cs.drop (off + xs.length)
def subC (cs : List Ce) (off n : Nat) : Option (List Ce) := bif Nat.ble (off + n) cs.length then some ((cs.drop off).take n) else none
def noUd (cs : List Ce) : Bool := cs.all fun x => match x with
  | .ud => false
  | _ => true
def plainC : Ce → Bool
  | .tt | .ff | .nl | .sl _ _ | .lt _ _ | .oq _ => true
  | .sc (.bool _) | .sc (.int _ _) | .sc (.string _) => true
  | _ => false
def lenM (m : Nat) (u : Ty) (l : List (El u)) : Int := match m with
  | 0 => l.length
  | 4 => l.length
  | m => l.length + vis m u
def val1 (x : Ce) : Option (Option Prop × Gf) := some (none, .e { v := .c x })
def eff (c : Option Prop) (E : Ef) : Option Prop × Gf := (c, .e E)
def parts (ev : Operand → Option AV) (place : Nat → Option (Nat × Nat)) : List (Nat × Operand) → List Ce → Option (List Ce)
  | [], cs => some cs
  | (i, x) :: rest, cs => match place i, (ev x).bind AV.cells with
    | some (off, size), some xs => bif Nat.beq xs.length size && Nat.ble (off + size) cs.length then parts ev place rest (overC cs off xs) else none
    | _, _ => none
def chunk (s : Nat) : Nat → List Ce → List (List Ce)
  | 0, _ => []
  | n + 1, cs => cs.take s :: chunk s n (cs.drop s)
def zeros (n : Nat) (cs : List Ce) : List Ce := match n with
  | 0 => []
  | n + 1 => cs ++ zeros n cs
def intOf_ : AV → Option Int
  | .c (.sc (.int _ n)) => some n
  | _ => none
def getL {α : Type} (l : List α) (i : Nat) (d : α) : α := l.getD i d
def optInt (ev : Operand → Option AV) (d : Int) : Option Operand → Option Int
  | none => some d
  | some x => (ev x).bind intOf_
def single : List Ce → Option Ce
  | [x] => some x
  | _ => none
def frsI (O : Store) (t : Ty) (f : List Ce → Option (List Nat)) (i : Nat) : Option (List Nat) := match O i with
  | some (.ty e u _ m) => bif decide (u = t) && t.flat && Nat.beq e (eidS t) && (Nat.beq m 0 || Nat.beq m 4) then some [i] else none
  | some (.dp e u _ m) => bif (decide (u = t) || decide (unl u = t)) && Nat.beq e (eidS t) && (Nat.beq m 0 || Nat.beq m 4 || decide (unl u = t)) then some [i] else none
  | some (.ce e u es) => bif Nat.beq e (eidS t) && (Nat.beq u.size t.size && t.nop) then (match mapO f es with
    | some ls => some (i :: ls.flatten)
    | none => none) else none
  | _ => none
def frsL (O : Store) (t : Ty) (f : List Ce → Option (List Nat)) : List Ce → Option (List Nat)
  | [.nl] => some []
  | [.ow i] => frsI O t f i
  | _ => none
def frsT (O : Store) (t : Ty) : List Ce → Option (List Nat)
  | [.ow i] => match O i with
    | some (.ty e u _ 4) => bif decide (u = t) && t.flat && Nat.beq e (eidS t) then some [i] else none
    | some (.dp e u _ 4) => bif decide (u = t) && Nat.beq e (eidS t) then some [i] else none
    | _ => none
  | _ => none
def frsF (O : Store) (t : Ty) : List Ce → Option (List Nat)
  | [.ow i] => match O i with
    | some (.dp e u _ 3) => bif decide (u = t) && Nat.beq e (eidS t) then some [i] else none
    | _ => none
  | _ => none
def frsP (O : Store) (t : Ty) : List Ce → Option (List Nat)
  | [.pv i 0] => match O i with
    | some (.var _) => bif t.flat && !Nat.beq i 0 then some [i] else none
    | _ => none
  | _ => none
def frsE (O : Store) : (t : Ty) → List Ce → Option (List Nat)
  | .sl t, cs => frsL O t (frsE O t) cs
  | .pt t, cs => frsP O t cs
  | .pr a b, cs => match frsE O a (cs.take a.size), frsE O b (cs.drop a.size) with
    | some l, some m => some (l ++ m)
    | _, _ => none
  | .bo, _ => some []
  | .it _, _ => some []
  | .st, _ => some []
  | .un, _ => some []
  | .oq, _ => some []
  | .fn, _ => none
  | .lt t, cs => frsT O t cs
  | .lf t, cs => frsF O t cs
def nodupN : List Nat → Bool
  | [] => true
  | i :: l => (l.all fun j => !Nat.beq i j) && nodupN l
def toP (O : Store) (t : Ty) : List Ce → Option (El t)
  | [.pv i 0] => match O i with
    | some (.var cs) => toE O t cs
    | _ => none
  | _ => none
def toR (O : Store) : (t : Ty) → List Ce → Option (El t)
  | .pt t, cs => toP O t cs
  | .pr a b, cs => match toR O a (cs.take a.size), toR O b (cs.drop a.size) with
    | some x, some y => some (x, y)
    | _, _ => none
  | t, cs => toE O t cs
def giveE (O : Store) (t : Ty) (cs : List Ce) : Option (El t × List Nat) := match toR O t cs, frsE O t cs with
  | some x, some l => some (x, l)
  | _, _ => none
def giveEs (O : Store) (t : Ty) : List (List Ce) → Option (List (El t) × List Nat)
  | [] => some ([], [])
  | cs :: es => match giveE O t cs, giveEs O t es with
    | some (x, l), some (xs, m) => some (x :: xs, l ++ m)
    | _, _ => none
def giveR (O : Store) (t : Ty) (i : Nat) : Option (List (El t) × List Nat) := match O i with
  | some (.ce _ u es) => bif Nat.beq u.size t.size then giveEs O t es else none
  | some (.dp _ u l m) => match cvM m u t l with
    | some l => some (l, [i])
    | none => none
  | _ => none
def isNl : List Ce → Bool
  | [.nl] => true
  | _ => false
def mkEq : (t : Ty) → El t → List Ce → Option (List Prop)
  | .bo, x, cs => (toB cs).map fun y => [y = x]
  | .it k, x, cs => (toI k cs).map fun y => [y = x]
  | .st, x, cs => (toS cs).map fun y => [y = x]
  | .sl _, x, cs => bif isNl cs then some [x = []] else none
  | .pr a b, x, cs => match mkEq a x.1 (cs.take a.size), mkEq b x.2 (cs.drop a.size) with
    | some l, some m => some (l ++ m)
    | _, _ => none
  | .un, _, cs => bif cs.isEmpty then some [] else none
  | _, _, _ => none
def conj : List Prop → Prop
  | [] => True
  | [p] => p
  | p :: ps => p ∧ conj ps
def deads : List Nat → List (Nat × Ob)
  | [] => []
  | i :: l => (i, .dead) :: deads l
def rowE (O : Store) (u : Ty) : Ce → Option (List (Nat × Ob) × List (El u))
  | .nl => some ([], [])
  | .sl t l => (cast_ t u l).map fun l => ([], l)
  | .ow i => match O i with
    | some (.ty _ t l 0) => (cast_ t u l).map fun l => ([], l)
    | some (.fz t l m) => (cvM m t u l).map fun l => ([], l)
    | some (.dp _ t l m) => (cvM m t u l).map fun l' => ([(i, .fz t l m)], l')
    | some (.ce _ t es) => if t = u then match frzCs O es.flatten with
      | some fz => (mapO (toE (onlyFz O fz) u) es).map fun l => (fz, l)
      | none => none else none
    | _ => none
  | _ => none
def appS (O : Store) (n e : Nat) (u : Ty) (s x : Ce) : Option (Option Prop × Gf) := match rowE O u x with
  | some (fz, m) => match s with
    | .nl => some (eff (some (m.length ≤ 1073741824)) { v := .c (.ow n), ob := (n, .ty e u m 0) :: fz, k := 1 })
    | .ow i => match O i with
      | some (.ty e' u' l 0) => match cast_ u' u l with
        | some l => bif Nat.beq e e' && (look fz i).isNone then some (eff (some (l.length + m.length ≤ 1073741824)) { v := .c (.ow n), ob := (n, .ty e u (l ++ m) 0) :: (i, .dead) :: fz, k := 1 }) else none
        | none => none
      | _ => none
    | _ => none
  | none => none
structure Deep where
  u : Ty
  l : List (El u)
  m : Nat
  i : List Nat
def deepOf (C : Cfg) (O : Store) (e : Nat) (u : Ty) : Ce → Option Deep
  | .nl => match look C.dp e with
    | some u' => bif decide (unl u' = u) && (Nat.beq e (eidS u') && u'.nop) then some ⟨u', [], 0, []⟩ else none
    | none => none
  | .ow i => match O i with
    | some (.dp e' u' l m) => bif Nat.beq e e' && decide (unl u' = u) then some ⟨u', l, m, [i]⟩ else none
    | some (.ce e' t _) => match look C.dp e with
      | some u' => bif decide (unl u' = u) && (Nat.beq e (eidS u') && u'.nop) && (Nat.beq e e' && Nat.beq t.size u'.size) then match giveR O u' i with
        | some (l, ids) => bif nodupN (i :: ids) then some ⟨u', l, 0, i :: ids⟩ else none
        | none => none else none
      | none => none
    | _ => none
  | _ => none
def appD (O : Store) (n e : Nat) (u : Ty) (l : List (El u)) (m : Nat) (rest : List Nat) : Ce → Option (Option Prop × Gf)
  | .ow k => match (match m with
      | 0 => giveR O u k
      | _ => none) with
    | some (news, ids) => bif nodupN (rest ++ ids) then some (eff (some (l.length + news.length ≤ 1073741824)) { v := .c (.ow n), ob := (n, .dp e u (l ++ news) 0) :: deads (rest ++ ids), k := 1 }) else none
    | none => match O k with
      | some (.ce _ t2 [cs]) => bif !Nat.beq t2.size u.size then none else match mkEq (unl u) ((mkv u).getD m (dfl (unl u))) cs with
        | some ps => some (eff (some (m < 3 ∧ m < (mkv u).length ∧ l.length + 4 ≤ 1073741824 ∧ conj ps)) { v := .c (.ow n), ob := (n, .dp e u l (m + 1)) :: deads rest, k := 1 })
        | none => none
      | _ => none
  | _ => none
def pvId : AV → Option Nat
  | .c (.pv i 0) => some i
  | _ => none
def opF (C : Cfg) (o : Oper) (ev : Operand → Option AV) (O : Store) (n : Nat) : Option (Option Prop × Gf) :=
  match o.op with
  | .move x => (ev x).map fun v => eff none { v }
  | .assign x => (ev x).map fun v => eff none { v }
  | .pick c a b => match ev c with
    | some (.c .tt) => (ev a).map fun v => eff none { v }
    | some (.c .ff) => (ev b).map fun v => eff none { v }
    | _ => none
  | .alloc t => (C.t t).map fun t => (eff none { v := .c (.pv n 0), ob := [(n, .var (zer t))], k := 1 })
  | .box t x => match C.t t, (ev x).bind AV.cells with
    | some t, some cs => bif Nat.beq cs.length t.size then some (eff none { v := .c (.pv n 0), ob := [(n, .var cs)], k := 1 }) else none
    | _, _ => none
  | .build t ps => match C.t t with
    | some t => bif t.agg then (parts ev (fun i => (t.fld i).map fun p => (p.1, p.2.size)) ps.toList (zer t)).map fun cs => (eff none { v := .ag cs }) else none
    | none => none
  | .buildSlice t len ps => match C.el t with
    | some (e, t) => bif !(Nat.ble (len * t.size) 16777216 && Nat.ble len 16777216) then none else match parts ev (fun i => some (i * t.size, t.size)) ps.toList (zeros len (zer t)) with
      | some cs => match (bif cs.all plainC && (look C.dp e).isNone then mapO (toE (fun _ => none) t) (chunk t.size len cs) else none : Option (List (El t))) with
        | some l => some (eff none { v := .c (.ow n), ob := [(n, .ty e t l 0)], k := 1 })
        | none => some (eff none { v := .c (.ow n), ob := [(n, .ce e t (chunk t.size len cs))], k := 1 })
      | none => none
    | none => none
  | .load t a => match C.t t with
    | some t => match ev a with
      | some (.c (.pv i off)) => match O i with
        | some (.var cs) => ((subC cs off t.size).bind (mkA t.agg)).map fun v => eff none { v }
        | _ => none
      | some (.c (.pr i u' j off)) => match O i with
        | some (.ty _ u l m) => if u = u' then bif Nat.beq m 0 || Nat.beq m 4 then ((subC (cel u (getL l j (dfl u))) off t.size).bind (mkA t.agg)).map fun v => eff none { v } else none else none
        | _ => none
      | some (.pe cs) => ((subC cs 0 t.size).bind (mkA t.agg)).map fun v => eff none { v }
      | _ => none
    | none => none
  | .store t a x => match C.t t, (ev x).bind AV.cells with
    | some t, some xs => bif Nat.beq xs.length t.size then match ev a with
      | some (.c (.pv i off)) => match O i with
        | some (.var cs) => bif Nat.ble (off + xs.length) cs.length && noUd xs then some (eff none { v := .c .ud, ob := [(i, .var (overC cs off xs))] }) else none
        | _ => none
      | some (.c (.pr i u' j off)) => match O i with
        | some (.ty e u l 0) => if u = u' then bif Nat.ble (off + xs.length) u.size && noUd xs then match toE (fun _ => none) u (overC (cel u (getL l j (dfl u))) off xs) with
          | some q => some (eff none { v := .c .ud, ob := [(i, .ty e u (l.set j q) 0)] })
          | none => none else none else none
        | _ => none
      | _ => none else none
    | _, _ => none
  | .nilCheck x => match ev x with
    | some (.c (.pv i off)) => val1 (.pv i off)
    | some (.c (.pr i t j off)) => val1 (.pr i t j off)
    | some (.pe cs) => some (eff none { v := .pe cs })
    | some (.c (.fv f l)) => val1 (.fv f l)
    | _ => none
  | .binOp op t x y _ => match ev x, ev y with
    | some (.c a), some (.c b) => match binS op a b with
      | some p => some (eff p.1 { v := .c p.2 })
      | none => match shiftS op a b with
        | some p => some (eff p.1 { v := .c p.2 })
        | none => if C.t t = some .bo then (binB op a b).map fun p => (eff p.1 { v := .c p.2 }) else none
    | some (.ag cs), some (.ag ds) => match C.t t with
      | some y => bif y.scal then match toE (fun _ => none) y cs, toE (fun _ => none) y ds with
        | some a, some b => match op with
          | .eql => some (eff none { v := .c (.sc (.bool (eqV y a b))) })
          | .neq => some (eff none { v := .c (.sc (.bool (!eqV y a b))) })
          | _ => none
        | _, _ => none else none
      | none => none
    | _, _ => none
  | .unOp op _ x => match ev x with
    | some (.c a) => (unS op a).map fun p => (eff p.1 { v := .c p.2 })
    | _ => none
  | .convert s d x => match C.t s, C.t d, ev x with
    | some (.it _), some (.it k), some (.c (.sc (.int k' a))) => if k = k' then val1 (.sc (.int k a)) else val1 (.sc (.int k (k.wrap a)))
    | some .st, some .st, some (.c (.sc (.string a))) => val1 (.sc (.string a))
    | _, _, _ => none
  | .slice t x lo hi none => match ev x with
    | some (.c (.sc (.string a))) => if C.t t = some .st then match optInt ev 0 lo, optInt ev a.size hi with
      | some p, some q => some (eff (some (0 ≤ p ∧ p ≤ q ∧ q ≤ a.size)) { v := .c (.sc (.string (a.extract p.toNat q.toNat))) })
      | _, _ => none else none
    | some (.c (.sl u l)) => match C.el t with
      | some (_, t) => if u = t then match optInt ev 0 lo, optInt ev l.length hi with
        | some p, some q => some (eff (some (0 ≤ p ∧ p ≤ q ∧ q ≤ l.length)) { v := .c (.sl u ((l.drop p.toNat).take (q.toNat - p.toNat))) })
        | _, _ => none else none
      | none => none
    | some (.c (.lt u l)) => match C.el t with
      | some (_, t) => if unl u = t then match optInt ev 0 lo, optInt ev l.length hi with
        | some p, some q => some (eff (some (p = 0 ∧ q = l.length + (mkv u).length)) { v := .c (.lf u l) })
        | _, _ => none else none
      | none => none
    | some (.c (.ow i)) => match C.el t with
      | some (e, t) => match O i with
        | some (.dp e' u l m) => bif decide (unl u = t) && Nat.beq e e' then match optInt ev 0 lo, optInt ev (lenM m u l) hi with
          | some p, some q => bif C.ho && Nat.beq m 3 then some (eff (some (p = 0 ∧ q = l.length)) { v := .c (.ow n), ob := [(n, .dp e u l 4), (i, .dead)], k := 1 }) else some (eff (some (0 ≤ p ∧ p ≤ q ∧ q ≤ lenM m u l)) { v := .c (.os i u.size p.toNat (q.toNat - p.toNat)) })
          | _, _ => none else none
        | some (.ty e' u l 0) => bif decide (u = t) && Nat.beq e e' then match optInt ev 0 lo, optInt ev (lenM 0 u l) hi with
          | some p, some q => some (eff (some (0 ≤ p ∧ p ≤ q ∧ q ≤ lenM 0 u l)) { v := .c (.os i u.size p.toNat (q.toNat - p.toNat)) })
          | _, _ => none else none
        | _ => none
      | none => none
    | _ => none
  | .fieldAddr t x f => match C.t t with
    | some t => match t.fld f with
      | some (o, u) => bif Nat.beq u.size 0 then none else match ev x with
        | some (.c (.pv i off)) => val1 (.pv i (off + o))
        | some (.c (.pr i u j off)) => val1 (.pr i u j (off + o))
        | some (.pe cs) => some (eff none { v := .pe (cs.drop o) })
        | _ => none
      | none => none
    | none => none
  | .field t x f => match C.t t with
    | some t => match t.fld f, ev x with
      | some (o, u), some (.ag cs) => ((subC cs o u.size).bind (mkA u.agg)).map fun v => eff none { v }
      | _, _ => none
    | none => none
  | .indexAddr t x i => match C.el t, ev x, (ev i).bind intOf_ with
    | some (_, t), some (.c (.sl u l)), some j => if u = t ∨ unl u = t then some (eff (some (0 ≤ j ∧ j < l.length)) { v := .pe (cel u (getL l j.toNat (dfl u))) }) else none
    | some (_, t), some (.c (.lt u l)), some j => if unl u = t then some (eff (some (0 ≤ j ∧ j < l.length)) { v := .pe (cel u (getL l j.toNat (dfl u))) }) else none
    | some (_, t), some (.c (.lf u l)), some j => if unl u = t then bif C.mj.contains (o.dst.getD 0) && mkU (unl u) then some (eff (some (l.length ≤ j ∧ j < l.length + (mkv u).length)) { v := .pe (cel (unl u) ((mkv u).headD (dfl (unl u)))) }) else some (eff (some (0 ≤ j ∧ j < l.length)) { v := .pe (cel u (getL l j.toNat (dfl u))) }) else none
    | some (_, t), some (.c (.ow k)), some j => match O k with
      | some (.ty _ u l _) => if u = t then some (eff (some (0 ≤ j ∧ j < l.length)) { v := .c (.pr k u j.toNat 0) }) else none
      | some (.fz u l _) => if u = t ∨ unl u = t then some (eff (some (0 ≤ j ∧ j < l.length)) { v := .pe (cel u (getL l j.toNat (dfl u))) }) else none
      | _ => none
    | _, _, _ => none
  | .index t x i => match ev x, (ev i).bind intOf_ with
    | some (.c (.sc (.string s))), some j => if C.t t = some .st then some (eff (some (0 ≤ j ∧ j < s.size)) { v := .c (.sc (.int .u8 ((s.get! j.toNat).toNat : Int))) }) else none
    | _, _ => none
  | .extract x i => match ev x with
    | some (.tu vs) => match vs[i]? with
      | some p => (mkA p.1 p.2).map fun v => eff none { v }
      | none => none
    | _ => none
  | .call { callee := .builtin .len, args, argTypes } => match (argTypes.toList.head?).bind C.t, mapO ev args.toList with
    | some .st, some [.c (.sc (.string s))] => val1 (.sc (.int .i64 s.size))
    | some (.sl _), some [.c .nl] => val1 (.sc (.int .i64 0))
    | some (.sl _), some [.c (.sl _ l)] => val1 (.sc (.int .i64 l.length))
    | some (.sl _), some [.c (.lt _ l)] => val1 (.sc (.int .i64 l.length))
    | some (.sl _), some [.c (.lf u l)] => val1 (.sc (.int .i64 (l.length + (mkv u).length)))
    | some (.sl _), some [.c (.os _ _ _ n)] => val1 (.sc (.int .i64 n))
    | some (.sl _), some [.c (.ow i)] => match O i with
      | some (.ty _ u l m) => val1 (.sc (.int .i64 (lenM m u l)))
      | some (.ce _ _ es) => val1 (.sc (.int .i64 es.length))
      | some (.fz u l m) => val1 (.sc (.int .i64 (lenM m u l)))
      | some (.dp _ u l m) => val1 (.sc (.int .i64 (lenM m u l)))
      | _ => none
    | _, _ => none
  | .call { callee := .builtin .max, args, .. } => match mapO ev args.toList with
    | some [.c (.sc (.int k a)), .c (.sc (.int k' b))] => if k = k' then val1 (.sc (.int k (if b > a then b else a))) else none
    | _ => none
  | .call { callee := .builtin .min, args, .. } => match mapO ev args.toList with
    | some [.c (.sc (.int k a)), .c (.sc (.int k' b))] => if k = k' then val1 (.sc (.int k (if b < a then b else a))) else none
    | _ => none
  | .call { callee := .builtin .append, args, argTypes } => match argTypes.toList, mapO ev args.toList with
    | [t, t'], some [.c s, .c x] => bif Nat.beq t t' then match C.el t with
      | some (e, u) => bif Nat.beq u.size 0 then none else match deepOf C O e u s with
        | some ⟨u', l, m, rest⟩ => appD O n e u' l m rest x
        | none => appS O n e u s x
      | none => none else none
    | _, _ => none
  | .call { callee := .value (.func f), args, .. } => match look C.pr f, mapO ev args.toList with
    | some p, some az => p az O n
    | _, _ => none
  | .call { callee := .value (.tmp t), args, .. } => match ev (.tmp t), mapO ev args.toList with
    | some (.c (.fv f l)), some az => match look C.pr f with
      | some p => p (az ++ l.map fun i => .c (.pv i 0)) O n
      | none => none
    | _, _ => none
  | .makeFunc (.func f) first caps => bif first.isEmpty then match mapO ev caps.toList with
    | some az => match mapO pvId az with
      | some ids => val1 (.fv f ids)
      | none => none
    | none => none else none
  | _ => none
def idsC : Ce → List Nat
  | .ow i => [i]
  | .os i _ _ _ => [i]
  | .pv i _ => [i]
  | .pr i _ _ _ => [i]
  | .fv _ l => l
  | _ => []
def idsA : AV → List Nat
  | .c x => idsC x
  | .pe cs => cs.flatMap idsC
  | .ag cs => cs.flatMap idsC
  | .tu vs => vs.flatMap fun p => p.2.flatMap idsC
def idsO : Ob → List Nat
  | .var cs => cs.flatMap idsC
  | .ce _ _ es => es.flatMap fun cs => cs.flatMap idsC
  | _ => []
def rds (o : Oper) (ev : Operand → Option AV) (O : Store) : List Nat :=
  match o.op with
  | .load _ a => ((ev a).map idsA).getD []
  | .store _ a x => ((ev a).map idsA).getD [] ++ ((ev x).map idsA).getD []
  | .slice _ x _ _ _ => ((ev x).map idsA).getD []
  | .indexAddr _ x _ => ((ev x).map idsA).getD []
  | .buildSlice _ _ _ => []
  | .call c =>
    let one := c.operands.toList.flatMap fun x => ((ev x).map idsA).getD []
    one ++ one.flatMap fun i => ((O i).map idsO).getD []
  | _ => []
def opA (C : Cfg) (o : Oper) (ev : Operand → Option AV) (O : Store) (n : Nat) : Option (Option Prop × Gf) :=
  opF C o ev (fun i => bif (rds o ev O).contains i then O i else none) n
end Go.Proofs.YtjoonfegjobgbaaGreatDoor
