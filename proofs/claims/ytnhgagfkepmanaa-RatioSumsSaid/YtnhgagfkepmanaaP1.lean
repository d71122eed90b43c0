/- Plain lists of words of 32 bits and the numbers that they say: no program in sight. -/
namespace Go.Proofs.Ytnhgagfkepmanaa

/-- the word at a place; 0 behind the end -/
def nth (xs : List Int) (j : Nat) : Int := xs.getD j 0
/-- every word is one -/
def Wf (xs : List Int) : Prop := ∀ x ∈ xs, 0 ≤ x ∧ x < 4294967296
/-- how many words are left of the first n, without noughts at the end -/
def tl (xs : List Int) : Nat → Nat
  | 0 => 0
  | n + 1 => if nth xs n = 0 then tl xs n else n + 1
/-- what the place n weighs -/
def pw (n : Nat) : Int := 4294967296 ^ n
/-- what the first n words say -/
def V (xs : List Int) : Nat → Int
  | 0 => 0
  | n + 1 => V xs n + nth xs n * pw n
/-- what all words say -/
def val (xs : List Int) : Int := V xs xs.length
/-- a number's words, the lowest first -/
def wd (n : Nat) : List Int := if h : n = 0 then [] else ((n % 4294967296 : Nat) : Int) :: wd (n / 4294967296)
termination_by n
decreasing_by exact Nat.div_lt_self (by omega) (by omega)

theorem tl_zero (xs : List Int) (k : Nat) (h : nth xs k = 0) : tl xs (k + 1) = tl xs k := by
  show (if _ then _ else _) = _; rw [if_pos h]
theorem tl_here (xs : List Int) (k : Nat) (h : nth xs k ≠ 0) : tl xs (k + 1) = k + 1 := by
  show (if _ then _ else _) = _; rw [if_neg h]
theorem tl_le (xs : List Int) : ∀ n, tl xs n ≤ n
  | 0 => Nat.le_refl _
  | n + 1 => by unfold tl; split; exact Nat.le_succ_of_le (tl_le xs n); exact Nat.le_refl _

theorem nth_cons_zero (x : Int) (xs : List Int) : nth (x :: xs) 0 = x := rfl
theorem nth_cons_succ (x : Int) (xs : List Int) (j : Nat) : nth (x :: xs) (j + 1) = nth xs j := rfl
theorem nth_nil (j : Nat) : nth [] j = 0 := by simp [nth]
theorem nth_out (xs : List Int) (j : Nat) (h : xs.length ≤ j) : nth xs j = 0 := by simp [nth, List.getD_eq_getElem?_getD, List.getElem?_eq_none h]
theorem nth_lt (xs : List Int) (j : Nat) (h : j < xs.length) : nth xs j = xs[j] := by simp [nth, List.getD_eq_getElem?_getD, List.getElem?_eq_getElem h]
theorem nth_wf {xs : List Int} (h : Wf xs) (j : Nat) : 0 ≤ nth xs j ∧ nth xs j < 4294967296 := by
  by_cases hj : j < xs.length
  · rw [nth_lt xs j hj]; exact h _ (List.getElem_mem hj)
  · rw [nth_out xs j (by omega)]; omega
theorem nth_set_self (xs : List Int) (j : Nat) (v : Int) (h : j < xs.length) : nth (xs.set j v) j = v := by
  rw [nth_lt _ _ (by simpa using h)]; simp
theorem nth_set_ne (xs : List Int) (j k : Nat) (v : Int) (h : j ≠ k) : nth (xs.set j v) k = nth xs k := by
  simp [nth, List.getD_eq_getElem?_getD, h]
theorem nth_take (xs : List Int) (n j : Nat) (h : j < n) : nth (xs.take n) j = nth xs j := by
  simp [nth, List.getD_eq_getElem?_getD, h]
theorem nth_drop (xs : List Int) (n j : Nat) : nth (xs.drop n) j = nth xs (n + j) := by
  simp [nth, List.getD_eq_getElem?_getD, List.getElem?_drop]
theorem nth_append_left (xs ys : List Int) (j : Nat) (h : j < xs.length) : nth (xs ++ ys) j = nth xs j := by
  simp [nth, List.getD_eq_getElem?_getD, List.getElem?_append_left h]
theorem nth_append_right (xs ys : List Int) (j : Nat) : nth (xs ++ ys) (xs.length + j) = nth ys j := by
  simp [nth, List.getD_eq_getElem?_getD, List.getElem?_append_right]
theorem nth_zeros (n j : Nat) : nth (List.replicate n (0 : Int)) j = 0 := by
  simp only [nth, List.getD_eq_getElem?_getD, List.getElem?_replicate]; split <;> rfl
theorem wf_set {xs : List Int} (h : Wf xs) (j : Nat) (v : Int) (h0 : 0 ≤ v) (h1 : v < 4294967296) : Wf (xs.set j v) := by
  intro x hx
  rcases List.mem_or_eq_of_mem_set hx with hx | rfl
  · exact h x hx
  · exact ⟨h0, h1⟩
theorem wf_zeros (n : Nat) : Wf (List.replicate n (0 : Int)) := by
  intro x hx; rw [List.mem_replicate] at hx; omega
theorem wf_take {xs : List Int} (h : Wf xs) (n : Nat) : Wf (xs.take n) := fun x hx => h x (List.mem_of_mem_take hx)
theorem wf_drop {xs : List Int} (h : Wf xs) (n : Nat) : Wf (xs.drop n) := fun x hx => h x (List.mem_of_mem_drop hx)
theorem wf_append {xs ys : List Int} (h : Wf xs) (k : Wf ys) : Wf (xs ++ ys) := fun x hx => (List.mem_append.1 hx).elim (h x) (k x)
theorem wf_nil : Wf [] := fun x hx => by cases hx
theorem ext_nth {xs ys : List Int} (hl : xs.length = ys.length) (h : ∀ j, j < xs.length → nth xs j = nth ys j) : xs = ys := by
  apply List.ext_getElem hl
  intro j h1 h2
  have := h j h1
  rwa [nth_lt _ _ h1, nth_lt _ _ h2] at this

theorem pw_zero : pw 0 = 1 := rfl
theorem pw_succ (n : Nat) : pw (n + 1) = 4294967296 * pw n := by unfold pw; rw [Int.pow_succ, Int.mul_comm]
theorem pw_pos (n : Nat) : 0 < pw n := Int.pow_pos (by omega)
theorem pw_add (m n : Nat) : pw (m + n) = pw m * pw n := by unfold pw; rw [Int.pow_add]
theorem pw_mono {m n : Nat} (h : m ≤ n) : pw m ≤ pw n := by
  obtain ⟨d, rfl⟩ := Nat.le.dest h
  rw [pw_add]
  have h1 := pw_pos m
  have h2 := pw_pos d
  calc pw m = pw m * 1 := (Int.mul_one _).symm
    _ ≤ pw m * pw d := Int.mul_le_mul_of_nonneg_left (by omega) (by omega)

theorem V_zero (xs : List Int) : V xs 0 = 0 := rfl
theorem V_succ (xs : List Int) (n : Nat) : V xs (n + 1) = V xs n + nth xs n * pw n := rfl
theorem V_congr {xs ys : List Int} : ∀ n, (∀ j, j < n → nth xs j = nth ys j) → V xs n = V ys n
  | 0, _ => rfl
  | n + 1, h => by rw [V_succ, V_succ, V_congr n (fun j hj => h j (by omega)), h n (by omega)]
theorem V_zeros (m : Nat) : ∀ n, V (List.replicate m (0 : Int)) n = 0
  | 0 => rfl
  | n + 1 => by rw [V_succ, V_zeros m n, nth_zeros]; omega
theorem V_nonneg {xs : List Int} (h : Wf xs) : ∀ n, 0 ≤ V xs n
  | 0 => Int.le_refl _
  | n + 1 => by
    rw [V_succ]
    have := V_nonneg h n
    have := Int.mul_nonneg (nth_wf h n).1 (Int.le_of_lt (pw_pos n))
    omega
theorem V_lt {xs : List Int} (h : Wf xs) : ∀ n, V xs n < pw n
  | 0 => by show (0 : Int) < 1; omega
  | n + 1 => by
    rw [V_succ, pw_succ]
    have h1 := V_lt h n
    have h2 : nth xs n * pw n ≤ 4294967295 * pw n := Int.mul_le_mul_of_nonneg_right (by have := (nth_wf h n).2; omega) (Int.le_of_lt (pw_pos n))
    omega
theorem V_out (xs : List Int) (n : Nat) (h : xs.length ≤ n) : V xs n = val xs := by
  obtain ⟨d, rfl⟩ := Nat.le.dest h
  induction d with
  | zero => rfl
  | succ d ih =>
    show V xs (xs.length + d + 1) = _
    rw [V_succ, ih (by omega), nth_out _ _ (by omega)]
    omega
theorem V_set_ge (xs : List Int) (j n : Nat) (v : Int) (h : n ≤ j) : V (xs.set j v) n = V xs n :=
  V_congr n (fun i hi => nth_set_ne xs j i v (by omega))
theorem V_set (xs : List Int) (j : Nat) (v : Int) (hj : j < xs.length) : ∀ n, j < n → V (xs.set j v) n = V xs n + (v - nth xs j) * pw j
  | 0, h => by omega
  | n + 1, h => by
    rw [V_succ, V_succ]
    by_cases e : j = n
    · subst e
      rw [V_set_ge _ _ _ _ (Nat.le_refl _), nth_set_self _ _ _ hj, Int.sub_mul]
      omega
    · rw [V_set xs j v hj n (by omega), nth_set_ne _ _ _ _ e]
      omega
theorem V_take (xs : List Int) (n m : Nat) (h : m ≤ n) : V (xs.take n) m = V xs m := V_congr m (fun j hj => nth_take xs n j (by omega))
/-- the words from n on weigh pw n -/
theorem V_drop (xs : List Int) (n : Nat) : ∀ m, V xs (n + m) = V xs n + pw n * V (xs.drop n) m
  | 0 => by rw [V_zero, Int.mul_zero]; simp
  | m + 1 => by
    show V xs (n + m + 1) = _
    rw [V_succ, V_drop xs n m, V_succ, nth_drop, pw_add, Int.mul_add]
    have : nth xs (n + m) * (pw n * pw m) = pw n * (nth xs (n + m) * pw m) := by
      rw [← Int.mul_assoc, Int.mul_comm (nth xs (n+m)) (pw n), Int.mul_assoc]
    omega
theorem V_cons (x : Int) (xs : List Int) (n : Nat) : V (x :: xs) (n + 1) = x + 4294967296 * V xs n := by
  have := V_drop (x :: xs) 1 n
  rw [Nat.add_comm 1 n] at this
  rw [this]
  show V (x :: xs) 0 + nth (x :: xs) 0 * pw 0 + pw 1 * V xs n = _
  have e : pw 1 = 4294967296 := rfl
  rw [V_zero, nth_cons_zero, pw_zero, e]
  omega
theorem V_tl (xs : List Int) : ∀ n, V xs (tl xs n) = V xs n
  | 0 => rfl
  | n + 1 => by
    by_cases h : nth xs n = 0
    · rw [tl_zero xs n h, V_tl xs n, V_succ, h]; omega
    · rw [tl_here xs n h]
theorem tl_last (xs : List Int) : ∀ n, tl xs n ≠ 0 → nth xs (tl xs n - 1) ≠ 0
  | 0, h => absurd rfl h
  | n + 1, h => by
    by_cases hz : nth xs n = 0
    · rw [tl_zero xs n hz] at h ⊢; exact tl_last xs n h
    · rw [tl_here xs n hz]; simpa using hz

theorem wd_zero : wd 0 = [] := by unfold wd; simp
theorem wd_pos (n : Nat) (h : n ≠ 0) : wd n = ((n % 4294967296 : Nat) : Int) :: wd (n / 4294967296) := by
  conv => lhs; unfold wd
  rw [dif_neg h]
theorem wf_wd (n : Nat) : Wf (wd n) := by
  induction n using Nat.strongRecOn with
  | _ n ih =>
    by_cases h : n = 0
    · subst h; rw [wd_zero]; exact wf_nil
    · rw [wd_pos n h]
      intro x hx
      rcases List.mem_cons.1 hx with rfl | hx
      · omega
      · exact ih (n / 4294967296) (Nat.div_lt_self (by omega) (by omega)) x hx
theorem val_wd (n : Nat) : val (wd n) = n := by
  induction n using Nat.strongRecOn with
  | _ n ih =>
    by_cases h : n = 0
    · subst h; rw [wd_zero]; rfl
    · have := ih (n / 4294967296) (Nat.div_lt_self (by omega) (by omega))
      rw [wd_pos n h]
      show V _ (_ + 1) = _
      rw [V_cons]
      show _ + 4294967296 * val (wd (n / 4294967296)) = _
      rw [this]
      omega
theorem wd_eq_nil {n : Nat} (h : wd n = []) : n = 0 := by
  have := val_wd n
  rw [h] at this
  exact (Int.ofNat.inj this).symm
theorem wd_len_zero {n : Nat} : (wd n).length = 0 ↔ n = 0 :=
  ⟨fun h => wd_eq_nil (List.eq_nil_of_length_eq_zero h), fun h => by subst h; rw [wd_zero]; rfl⟩
theorem wd_inj {m n : Nat} (h : wd m = wd n) : m = n := by
  have h1 := val_wd m
  rw [h, val_wd n] at h1
  exact (Int.ofNat.inj h1).symm
/-- the last word of a number is not 0 -/
theorem wd_last (n : Nat) (h : n ≠ 0) : nth (wd n) ((wd n).length - 1) ≠ 0 := by
  induction n using Nat.strongRecOn with
  | _ n ih =>
    rw [wd_pos n h]
    by_cases h2 : n / 4294967296 = 0
    · rw [h2, wd_zero]
      show ((n % 4294967296 : Nat) : Int) ≠ 0
      omega
    · have := ih (n / 4294967296) (Nat.div_lt_self (by omega) (by omega)) h2
      have hl : (wd (n / 4294967296)).length ≠ 0 := fun e => h2 (wd_len_zero.1 e)
      obtain ⟨k, hk⟩ := Nat.exists_eq_succ_of_ne_zero hl
      simp only [List.length_cons, hk, Nat.succ_eq_add_one, Nat.add_sub_cancel] at this ⊢
      rw [nth_cons_succ]
      exact this
/-- words without a nought at the end are those of what they say -/
theorem wd_val {xs : List Int} (h : Wf xs) (hn : xs ≠ [] → nth xs (xs.length - 1) ≠ 0) : wd (val xs).toNat = xs := by
  induction xs with
  | nil => show wd 0 = []; exact wd_zero
  | cons x xs ih =>
    have hx := h x (List.mem_cons_self ..)
    have hw : Wf xs := fun y hy => h y (List.mem_cons_of_mem _ hy)
    have hv : val (x :: xs) = x + 4294967296 * val xs := V_cons x xs xs.length
    have hnn := V_nonneg hw xs.length
    have hnv : 0 ≤ val xs := hnn
    have hpos : (val (x :: xs)).toNat ≠ 0 := by
      intro e
      have hz : x + 4294967296 * val xs = 0 := by omega
      cases xs with
      | nil =>
        have := hn (by simp)
        rw [show (([x] : List Int).length - 1) = 0 from rfl, nth_cons_zero] at this
        have e0 : val ([] : List Int) = 0 := rfl
        omega
      | cons y ys =>
        have h0 : val (y :: ys) = 0 := by omega
        have hw2 := hn (by simp)
        have hlast : nth (y :: ys) ((y :: ys).length - 1) ≠ 0 := by
          simpa [nth_cons_succ] using hw2
        have hpl := V_succ (y :: ys) ((y :: ys).length - 1)
        have e1 : (y :: ys).length - 1 + 1 = (y :: ys).length := by simp
        rw [e1] at hpl
        have a := V_nonneg hw ((y :: ys).length - 1)
        have b := nth_wf hw ((y :: ys).length - 1)
        have c := Int.mul_pos (show 0 < nth (y :: ys) ((y :: ys).length - 1) by omega) (pw_pos ((y :: ys).length - 1))
        have : val (y :: ys) = V (y :: ys) (y :: ys).length := rfl
        omega
    rw [wd_pos _ hpos]
    have hq : (val (x :: xs)).toNat / 4294967296 = (val xs).toNat := by omega
    have hr : (((val (x :: xs)).toNat % 4294967296 : Nat) : Int) = x := by omega
    rw [hq, hr]
    rw [ih hw ?_]
    intro hne
    have := hn (by simp)
    obtain ⟨k, hk⟩ := Nat.exists_eq_succ_of_ne_zero (fun e => hne (List.eq_nil_of_length_eq_zero e) : xs.length ≠ 0)
    simp only [List.length_cons, hk, Nat.succ_eq_add_one, Nat.add_sub_cancel] at this ⊢
    rwa [nth_cons_succ] at this
/-- words cut at their end are those of what they say -/
theorem take_tl {xs : List Int} (h : Wf xs) (n : Nat) (hn : n ≤ xs.length) : xs.take (tl xs n) = wd (V xs n).toNat := by
  have ht := tl_le xs n
  have hl : (xs.take (tl xs n)).length = tl xs n := by rw [List.length_take]; omega
  rw [← V_tl xs n, ← V_take xs (tl xs n) (tl xs n) (Nat.le_refl _)]
  have := wd_val (wf_take h (tl xs n)) (fun hne => by
    have h0 : tl xs n ≠ 0 := fun e => hne (by rw [e]; rfl)
    rw [hl, nth_take _ _ _ (by omega)]
    exact tl_last xs n h0)
  unfold val at this
  rw [hl] at this
  exact this.symm
theorem tl_all {xs : List Int} (h : Wf xs) : xs.take (tl xs xs.length) = wd (val xs).toNat := take_tl h _ (Nat.le_refl _)
theorem tl_wd (n : Nat) : tl (wd n) (wd n).length = (wd n).length := by
  have h := tl_all (wf_wd n)
  rw [val_wd] at h
  have h2 := congrArg List.length h
  rw [List.length_take] at h2
  have := tl_le (wd n) (wd n).length
  simp at h2
  omega
theorem tl_wd' (n k : Nat) (h : k = (wd n).length) : tl (wd n) k = k := by subst h; exact tl_wd n
theorem wd_lt_pw (n : Nat) : (n : Int) < pw (wd n).length := by
  have := V_lt (wf_wd n) (wd n).length
  have e := val_wd n
  unfold val at e
  omega
theorem pw_le_wd (n : Nat) (h : n ≠ 0) : pw ((wd n).length - 1) ≤ n := by
  have e := val_wd n
  unfold val at e
  have hl : (wd n).length ≠ 0 := fun e => h (wd_len_zero.1 e)
  obtain ⟨k, hk⟩ := Nat.exists_eq_succ_of_ne_zero hl
  have hz := wd_last n h
  rw [hk] at e hz ⊢
  simp only [Nat.succ_eq_add_one, Nat.add_sub_cancel] at *
  rw [V_succ] at e
  have a := V_nonneg (wf_wd n) k
  have b := nth_wf (wf_wd n) k
  have c : 1 * pw k ≤ nth (wd n) k * pw k := Int.mul_le_mul_of_nonneg_right (by omega) (Int.le_of_lt (pw_pos k))
  omega
theorem pw_lt {m n : Nat} (h : pw m < pw n) : m < n := by
  by_cases hc : m < n
  · exact hc
  · have := pw_mono (show n ≤ m by omega); omega
theorem wd_len_le (n k : Nat) (h : (n : Int) < pw k) : (wd n).length ≤ k := by
  by_cases h0 : n = 0
  · subst h0; rw [wd_zero]; exact Nat.zero_le _
  · have := pw_le_wd n h0
    have := pw_lt (show pw ((wd n).length - 1) < pw k by omega)
    omega
theorem wd_len_mono {m n : Nat} (h : m ≤ n) : (wd m).length ≤ (wd n).length := wd_len_le m _ (by have := wd_lt_pw n; omega)
theorem wd_len_lt {m n : Nat} (h : (wd m).length < (wd n).length) : m < n := by
  by_cases hc : m < n
  · exact hc
  · have := wd_len_mono (show n ≤ m by omega); omega
theorem nat_lt_of_len (n k : Nat) (h : (wd n).length ≤ k) : (n : Int) < pw k := by
  have := wd_lt_pw n
  have := pw_mono h
  omega
theorem wd_len_add (m n : Nat) : (wd (m + n)).length ≤ max (wd m).length (wd n).length + 1 := by
  apply wd_len_le
  rw [pw_succ]
  have h1 := nat_lt_of_len m _ (Nat.le_max_left (wd m).length (wd n).length)
  have h2 := nat_lt_of_len n _ (Nat.le_max_right (wd m).length (wd n).length)
  omega
theorem wd_len_mul (m n : Nat) : (wd (m * n)).length ≤ (wd m).length + (wd n).length := by
  apply wd_len_le
  rw [pw_add, Int.natCast_mul]
  have h1 := wd_lt_pw m
  have h2 := wd_lt_pw n
  have h3 := pw_pos (wd m).length
  calc (m : Int) * n ≤ pw (wd m).length * n := Int.mul_le_mul_of_nonneg_right (by omega) (by omega)
    _ < pw (wd m).length * pw (wd n).length := Int.mul_lt_mul_of_pos_left h2 h3

/-- nat.Check's answer -/
def chk (xs : List Int) : Int := if 8192 < xs.length then 3 else if xs ≠ [] ∧ nth xs (xs.length - 1) = 0 then 11 else 0
theorem chk_wd (n : Nat) (h : (wd n).length ≤ 8192) : chk (wd n) = 0 := by
  unfold chk
  rw [if_neg (by omega), if_neg]
  rintro ⟨h1, h2⟩
  exact wd_last n (fun e => h1 (by rw [e, wd_zero])) h2

/-- the first error of two -/
def chk2 (xs ys : List Int) : Int := if chk xs = 0 then chk ys else chk xs

/-- -1, 0, 1: below, the same, above -/
def cmp (m n : Nat) : Int := if m < n then -1 else if n < m then 1 else 0
theorem cmp_lt {m n : Nat} (h : m < n) : cmp m n = -1 := if_pos h
theorem cmp_gt {m n : Nat} (h : n < m) : cmp m n = 1 := by unfold cmp; rw [if_neg (by omega), if_pos h]
theorem cmp_eq {m n : Nat} (h : m = n) : cmp m n = 0 := by unfold cmp; rw [if_neg (by omega), if_neg (by omega)]
theorem cmp_lt_iff {m n : Nat} : cmp m n < 0 ↔ m < n := by unfold cmp; split <;> (try split) <;> omega

end Go.Proofs.Ytnhgagfkepmanaa
