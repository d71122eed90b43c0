/- Fractions as words, and the rational numbers that they say: plain. -/
import Derived.Test.YtnhgagfkepmanaaP1
namespace Go.Proofs.Ytnhgagfkepmanaa

/-- a fraction's sign and words, in whatever form -/
structure Fr where
  neg : Bool
  num : List Int
  den : List Int
deriving DecidableEq
def Fr.zero : Fr := ⟨false, [], []⟩
structure Fr.Wf (a : Fr) : Prop where
  num : Go.Proofs.Ytnhgagfkepmanaa.Wf a.num
  den : Go.Proofs.Ytnhgagfkepmanaa.Wf a.den
/-- a rational number in its one form -/
def enc (q : Rat) : Fr := ⟨decide (q.num < 0), wd q.num.natAbs, wd q.den⟩
/-- has it more than 2,048 words? -/
def lng (q : Rat) : Bool := decide (2048 < (wd q.num.natAbs).length ∨ 2048 < (wd q.den).length)
/-- what is told of it: it, or the error -/
def tell (q : Rat) : Fr × Int := if lng q = true then (Fr.zero, 3) else (enc q, 0)
/-- a sign before a size -/
def sg (neg : Bool) (m : Nat) : Int := if neg = true then -(m : Int) else m
/-- the number that a fraction says -/
def Fr.q (a : Fr) : Rat := mkRat (sg a.neg (val a.num).toNat) (val a.den).toNat
/-- what is wrong with a fraction: 0, 3 (too long), 11 (not in its one form) -/
def fchk (a : Fr) : Int :=
  if 2048 < a.num.length then 3 else if 2048 < a.den.length then 3 else if chk a.num ≠ 0 then 11 else if chk a.den ≠ 0 then 11 else if a.den.length = 0 then 11
  else if a.num.length = 0 ∧ a.neg = true then 11 else if Nat.gcd (val a.num).toNat (val a.den).toNat ≠ 1 then 11 else 0

theorem enc_wf (q : Rat) : (enc q).Wf := ⟨wf_wd _, wf_wd _⟩
theorem Fr.zero_wf : Fr.zero.Wf := ⟨wf_nil, wf_nil⟩
theorem sg_natAbs (b : Bool) (m : Nat) : (sg b m).natAbs = m := by unfold sg; split <;> omega
theorem sg_num (q : Rat) : sg (decide (q.num < 0)) q.num.natAbs = q.num := by
  unfold sg
  by_cases h : q.num < 0
  · rw [if_pos (decide_eq_true h)]; omega
  · rw [if_neg (by simpa using h)]; omega
theorem sg_zero (b : Bool) : sg b 0 = 0 := by unfold sg; split <;> omega
theorem dec_enc (q : Rat) : (enc q).q = q := by
  unfold Fr.q enc
  simp only [val_wd, Int.toNat_natCast, sg_num]
  exact Rat.mkRat_self q
theorem enc_inj {p q : Rat} (h : enc p = enc q) : p = q := by rw [← dec_enc p, h, dec_enc]
theorem enc_mk (b : Bool) (m n : Nat) (hn : n ≠ 0) : enc (mkRat (sg b m) n) = ⟨b && decide (m ≠ 0), wd (m / Nat.gcd m n), wd (n / Nat.gcd m n)⟩ := by
  have hg : 0 < Nat.gcd m n := Nat.gcd_pos_of_pos_right m (by omega)
  have hden : (mkRat (sg b m) n).den = n / Nat.gcd m n := by rw [Rat.den_mkRat, if_neg hn, sg_natAbs, Nat.gcd_comm]
  have hnum : (mkRat (sg b m) n).num = sg b (m / Nat.gcd m n) := by
    rw [Rat.num_mkRat, if_neg hn, sg_natAbs, Nat.gcd_comm n m]
    unfold sg
    split
    · rw [Int.neg_ediv_of_dvd (Int.natCast_dvd_natCast.2 (Nat.gcd_dvd_left m n)), Int.natCast_ediv]
    · rw [Int.natCast_ediv]
  have hz : m / Nat.gcd m n = 0 ↔ m = 0 := by
    constructor
    · intro h
      have := Nat.div_mul_cancel (Nat.gcd_dvd_left m n)
      rw [h, Nat.zero_mul] at this
      exact this.symm
    · intro h; rw [h, Nat.zero_div]
  unfold enc
  rw [hden, hnum, sg_natAbs]
  congr 1
  generalize m / Nat.gcd m n = t at hz
  unfold sg
  cases b with
  | false => rw [if_neg (by simp), decide_eq_false (by omega)]; rfl
  | true =>
    rw [if_pos rfl, Bool.true_and]
    by_cases hm : m = 0
    · have := hz.2 hm
      rw [decide_eq_false (by omega), decide_eq_false (by omega)]
    · have := mt hz.1 hm
      rw [decide_eq_true (by omega), decide_eq_true (by omega)]
theorem enc_den (q : Rat) : (enc q).den ≠ [] := fun h => q.den_nz (wd_eq_nil h)
theorem not_lng {q : Rat} (h : ¬ lng q = true) : (wd q.num.natAbs).length ≤ 2048 ∧ (wd q.den).length ≤ 2048 := by
  unfold lng at h
  simp at h
  omega
theorem lng_of {q : Rat} (h1 : (wd q.num.natAbs).length ≤ 2048) (h2 : (wd q.den).length ≤ 2048) : ¬ lng q = true := by
  unfold lng
  simp
  omega
theorem gcd_enc (q : Rat) : Nat.gcd q.num.natAbs q.den = 1 := q.reduced
theorem fchk_enc (q : Rat) (h : ¬ lng q = true) : fchk (enc q) = 0 := by
  obtain ⟨h1, h2⟩ := not_lng h
  have e1 : (enc q).num = wd q.num.natAbs := rfl
  have e2 : (enc q).den = wd q.den := rfl
  have e3 : (enc q).neg = decide (q.num < 0) := rfl
  unfold fchk
  rw [e1, e2, e3, if_neg (by omega), if_neg (by omega), if_neg (by rw [chk_wd _ (by omega)]; simp), if_neg (by rw [chk_wd _ (by omega)]; simp), if_neg (fun e => q.den_nz (wd_len_zero.1 e)), if_neg, if_neg]
  · rw [val_wd, val_wd, Int.toNat_natCast, Int.toNat_natCast, gcd_enc]; simp
  · rintro ⟨e1, e2⟩
    have := wd_len_zero.1 e1
    have := of_decide_eq_true e2
    omega
theorem chk_ok {xs : List Int} (hw : Wf xs) (h : chk xs = 0) : xs = wd (val xs).toNat ∧ xs.length ≤ 8192 := by
  unfold chk at h
  by_cases h1 : 8192 < xs.length
  · rw [if_pos h1] at h; omega
  · rw [if_neg h1] at h
    refine ⟨(wd_val hw fun hne => ?_).symm, by omega⟩
    by_cases h2 : xs ≠ [] ∧ nth xs (xs.length - 1) = 0
    · rw [if_pos h2] at h; omega
    · exact fun e => h2 ⟨hne, e⟩
/-- a fraction that may be is a rational number in its one form -/
theorem fchk_ok {a : Fr} (hw : a.Wf) (h : fchk a = 0) : ∃ q, a = enc q ∧ ¬ lng q = true := by
  unfold fchk at h
  by_cases h1 : 2048 < a.num.length
  · rw [if_pos h1] at h; omega
  rw [if_neg h1] at h
  by_cases h2 : 2048 < a.den.length
  · rw [if_pos h2] at h; omega
  rw [if_neg h2] at h
  by_cases h3 : chk a.num ≠ 0
  · rw [if_pos h3] at h; omega
  rw [if_neg h3] at h
  by_cases h4 : chk a.den ≠ 0
  · rw [if_pos h4] at h; omega
  rw [if_neg h4] at h
  by_cases h5 : a.den.length = 0
  · rw [if_pos h5] at h; omega
  rw [if_neg h5] at h
  by_cases h6 : a.num.length = 0 ∧ a.neg = true
  · rw [if_pos h6] at h; omega
  rw [if_neg h6] at h
  by_cases h7 : Nat.gcd (val a.num).toNat (val a.den).toNat ≠ 1
  · rw [if_pos h7] at h; omega
  have hg : Nat.gcd (val a.num).toNat (val a.den).toNat = 1 := by omega
  obtain ⟨e1, l1⟩ := chk_ok hw.num (by omega)
  obtain ⟨e2, l2⟩ := chk_ok hw.den (by omega)
  have hd : (val a.den).toNat ≠ 0 := fun e => h5 (by rw [e2, e, wd_zero]; rfl)
  have he : enc (mkRat (sg a.neg (val a.num).toNat) (val a.den).toNat) = a := by
    rw [enc_mk _ _ _ hd, hg, Nat.div_one, Nat.div_one, ← e1, ← e2]
    have : (a.neg && decide ((val a.num).toNat ≠ 0)) = a.neg := by
      cases hn : a.neg with
      | false => rfl
      | true =>
        have : (val a.num).toNat ≠ 0 := fun e => h6 ⟨by rw [e1, e, wd_zero]; rfl, hn⟩
        simp [this]
    rw [this]
  refine ⟨_, he.symm, lng_of ?_ ?_⟩
  · have := congrArg (·.num.length) he
    simp only [enc] at this
    omega
  · have := congrArg (·.den.length) he
    simp only [enc] at this
    omega
theorem fchk_cases (a : Fr) : fchk a = 0 ∨ fchk a = 3 ∨ fchk a = 11 := by
  unfold fchk
  repeat' split
  all_goals omega

/-- what is told of two fractions: the first error, else it -/
def both (a b : Fr) (r : Rat → Rat → Fr × Int) : Fr × Int := if fchk a ≠ 0 then (Fr.zero, fchk a) else if fchk b ≠ 0 then (Fr.zero, fchk b) else r a.q b.q
def fadd (a b : Fr) : Fr × Int := both a b fun p q => tell (p + q)
def fsub (a b : Fr) : Fr × Int := both a b fun p q => tell (p - q)
def fmul (a b : Fr) : Fr × Int := both a b fun p q => tell (p * q)
def fquo (a b : Fr) : Fr × Int := both a b fun p q => if q = 0 then (Fr.zero, 7) else tell (p / q)
def fneg (a : Fr) : Fr × Int := if fchk a ≠ 0 then (Fr.zero, fchk a) else (enc (-a.q), 0)
theorem both_left {a b : Fr} {r} (h : fchk a ≠ 0) : both a b r = (Fr.zero, fchk a) := if_pos h
theorem both_right {a b : Fr} {r} (h : fchk a = 0) (k : fchk b ≠ 0) : both a b r = (Fr.zero, fchk b) := by unfold both; rw [if_neg (by omega), if_pos k]
theorem both_ok {p q : Rat} {r} (h : ¬ lng p = true) (k : ¬ lng q = true) : both (enc p) (enc q) r = r p q := by
  unfold both
  rw [if_neg (by rw [fchk_enc p h]; simp), if_neg (by rw [fchk_enc q k]; simp), dec_enc, dec_enc]

theorem tell_wf (q : Rat) : (tell q).1.Wf := by unfold tell; split; exact Fr.zero_wf; exact enc_wf q
/-- the sum as the program makes it -/
theorem add_same (p q : Rat) (h : decide (p.num < 0) = decide (q.num < 0)) :
    mkRat (sg (decide (p.num < 0)) (p.num.natAbs * q.den + q.num.natAbs * p.den)) (p.den * q.den) = p + q := by
  rw [Rat.add_def']
  congr 1
  unfold sg
  by_cases hp : p.num < 0
  · have hq : q.num < 0 := by rw [decide_eq_true hp] at h; exact of_decide_eq_true h.symm
    rw [if_pos (decide_eq_true hp), Int.natCast_add, Int.natCast_mul, Int.natCast_mul, Int.ofNat_natAbs_of_nonpos (by omega), Int.ofNat_natAbs_of_nonpos (by omega), Int.neg_mul, Int.neg_mul]
    omega
  · have hq : ¬ q.num < 0 := by rw [decide_eq_false hp] at h; exact of_decide_eq_false h.symm
    rw [if_neg (by simpa using hp), Int.natCast_add, Int.natCast_mul, Int.natCast_mul, Int.natAbs_of_nonneg (by omega), Int.natAbs_of_nonneg (by omega)]
theorem add_less (p q : Rat) (h : decide (p.num < 0) ≠ decide (q.num < 0)) (hl : p.num.natAbs * q.den < q.num.natAbs * p.den) :
    mkRat (sg (decide (q.num < 0)) (q.num.natAbs * p.den - p.num.natAbs * q.den)) (p.den * q.den) = p + q := by
  rw [Rat.add_def']
  congr 1
  unfold sg
  rw [Int.natCast_sub (by omega), Int.natCast_mul, Int.natCast_mul]
  by_cases hq : q.num < 0
  · have hp : ¬ p.num < 0 := fun hp => h (by rw [decide_eq_true hp, decide_eq_true hq])
    rw [if_pos (decide_eq_true hq), Int.ofNat_natAbs_of_nonpos (a := q.num) (by omega), Int.natAbs_of_nonneg (a := p.num) (by omega), Int.neg_mul]
    omega
  · have hp : p.num < 0 := by
      rcases Int.lt_or_le p.num 0 with hp | hp
      · exact hp
      · exact absurd (by rw [decide_eq_false (show ¬ p.num < 0 by omega), decide_eq_false hq]) h
    rw [if_neg (by simpa using hq), Int.natAbs_of_nonneg (a := q.num) (by omega), Int.ofNat_natAbs_of_nonpos (a := p.num) (by omega), Int.neg_mul]
    omega
theorem add_more (p q : Rat) (h : decide (p.num < 0) ≠ decide (q.num < 0)) (hl : q.num.natAbs * p.den ≤ p.num.natAbs * q.den) :
    mkRat (sg (decide (p.num < 0)) (p.num.natAbs * q.den - q.num.natAbs * p.den)) (p.den * q.den) = p + q := by
  rw [Rat.add_def']
  congr 1
  unfold sg
  rw [Int.natCast_sub hl, Int.natCast_mul, Int.natCast_mul]
  by_cases hp : p.num < 0
  · have hq : ¬ q.num < 0 := fun hq => h (by rw [decide_eq_true hp, decide_eq_true hq])
    rw [if_pos (decide_eq_true hp), Int.ofNat_natAbs_of_nonpos (a := p.num) (by omega), Int.natAbs_of_nonneg (a := q.num) (by omega), Int.neg_mul]
    omega
  · have hq : q.num < 0 := by
      rcases Int.lt_or_le q.num 0 with hq | hq
      · exact hq
      · exact absurd (by rw [decide_eq_false (show ¬ q.num < 0 by omega), decide_eq_false hp]) h
    rw [if_neg (by simpa using hp), Int.natAbs_of_nonneg (a := p.num) (by omega), Int.ofNat_natAbs_of_nonpos (a := q.num) (by omega), Int.neg_mul]
    omega
theorem sg_mul (a b : Bool) (m n : Nat) : sg (a != b) (m * n) = sg a m * sg b n := by
  unfold sg
  cases a <;> cases b <;> simp [Int.natCast_mul, Int.neg_mul, Int.mul_neg]
theorem mul_made (p q : Rat) : mkRat (sg (decide (p.num < 0) != decide (q.num < 0)) (p.num.natAbs * q.num.natAbs)) (p.den * q.den) = p * q := by
  rw [Rat.mul_def', sg_mul, sg_num, sg_num]
theorem quo_made (p q : Rat) (hq : q ≠ 0) : mkRat (sg (decide (p.num < 0) != decide (q.num < 0)) (p.num.natAbs * q.den)) (p.den * q.num.natAbs) = p / q := by
  rw [Rat.div_def, Rat.mul_def', Rat.num_inv, Rat.den_inv]
  have hn : q.num ≠ 0 := fun e => hq (Rat.num_eq_zero.1 e)
  rw [if_neg hn]
  congr 1
  rw [sg_mul, sg_num]
  congr 1
  unfold sg
  by_cases h : q.num < 0
  · rw [if_pos (decide_eq_true h), Int.sign_eq_neg_one_of_neg h]; omega
  · rw [if_neg (by simpa using h), Int.sign_eq_one_of_pos (by omega)]; omega
theorem enc_neg (q : Rat) : enc (-q) = ⟨!(decide (q.num < 0)) && decide (0 < (wd q.num.natAbs).length), wd q.num.natAbs, wd q.den⟩ := by
  unfold enc
  rw [Rat.neg_num, Rat.neg_den, Int.natAbs_neg]
  congr 1
  by_cases h : q.num < 0
  · rw [decide_eq_true h, decide_eq_false (by omega)]; rfl
  · rw [decide_eq_false h]
    by_cases h0 : q.num = 0
    · rw [h0]; rw [show Int.natAbs 0 = 0 from rfl, wd_zero]; rfl
    · have hl : 0 < (wd q.num.natAbs).length := by
        have : (wd q.num.natAbs).length ≠ 0 := fun e => by have := wd_len_zero.1 e; omega
        omega
      rw [decide_eq_true hl, decide_eq_true (by omega)]; rfl
theorem enc_zero : enc 0 = ⟨false, [], [1]⟩ := by
  unfold enc
  have h1 : wd 1 = [1] := by rw [wd_pos 1 (by omega)]; rw [show 1 / 4294967296 = 0 from rfl, wd_zero]; rfl
  rw [Rat.zero_num, Rat.zero_den, show Int.natAbs 0 = 0 from rfl, wd_zero, h1]
  rfl
theorem wd_one : wd 1 = [1] := by rw [wd_pos 1 (by omega)]; rw [show 1 / 4294967296 = 0 from rfl, wd_zero]; rfl
theorem enc_num_nil {q : Rat} : (enc q).num = [] ↔ q = 0 := by
  constructor
  · intro h
    have h1 : q.num.natAbs = 0 := wd_eq_nil h
    exact Rat.num_eq_zero.1 (by omega)
  · intro h; subst h; rw [enc_zero]

end Go.Proofs.Ytnhgagfkepmanaa
