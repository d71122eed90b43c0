/- Texts of this claim, joined: P4 R1 K1 K2 K3a K4. -/
import Derived.Deep.DeepAppendRoom
import Derived.Test.YtifonmdcicegdaaGreatQc
/- Fractions as words, and the rational numbers that they say: plain. -/
namespace Go.Proofs.YtifonmdcicegdaaGreat

/-- a fraction's sign and words, in whatever form -/
structure Fr where
  neg : Bool
  num : List Int
  den : List Int
deriving DecidableEq
def Fr.zero : Fr := ⟨false, [], []⟩
structure Fr.Wf (a : Fr) : Prop where
  num : Go.Proofs.YtifonmdcicegdaaGreat.Wf a.num
  den : Go.Proofs.YtifonmdcicegdaaGreat.Wf a.den
/-- a rational number in its one form -/
def enc (q : Rat) : Fr := ⟨decide (q.num < 0), wd q.num.natAbs, wd q.den⟩
/-- has it more than 2,048 words? -/
def lng (q : Rat) : Bool := decide (2048 < (wd q.num.natAbs).length ∨ 2048 < (wd q.den).length)
/-- what is told of it: it, or the error -/
def tell (q : Rat) : Fr × Int := if lng q = true then (Fr.zero, 3) else (enc q, 0)
/-- a sign before a size -/
def sg (neg : Bool) (m : Nat) : Int := if neg = true then -(m : Int) else m
/-- the number that a fraction says -/
def Fr.q (a : Fr) : Rat := mkRat (sg a.neg (val a.num).toNat) (val a.den).toNat
/-- what is wrong with a fraction: 0, 3 (too long), 11 (not in its one form) -/
def fchk (a : Fr) : Int :=
  if 2048 < a.num.length then 3 else if 2048 < a.den.length then 3 else if chk a.num ≠ 0 then 11 else if chk a.den ≠ 0 then 11 else if a.den.length = 0 then 11
  else if a.num.length = 0 ∧ a.neg = true then 11 else if Nat.gcd (val a.num).toNat (val a.den).toNat ≠ 1 then 11 else 0

theorem enc_wf (q : Rat) : (enc q).Wf := ⟨wf_wd _, wf_wd _⟩
theorem Fr.zero_wf : Fr.zero.Wf := ⟨wf_nil, wf_nil⟩
theorem sg_natAbs (b : Bool) (m : Nat) : (sg b m).natAbs = m := by unfold sg; split <;> omega
theorem sg_num (q : Rat) : sg (decide (q.num < 0)) q.num.natAbs = q.num := by
  unfold sg
  by_cases h : q.num < 0
  · rw [if_pos (decide_eq_true h)]; omega
  · rw [if_neg (by simpa using h)]; omega
theorem sg_zero (b : Bool) : sg b 0 = 0 := by unfold sg; split <;> omega
theorem dec_enc (q : Rat) : (enc q).q = q := by
  unfold Fr.q enc
  simp only [val_wd, Int.toNat_natCast, sg_num]
  exact Rat.mkRat_self q
theorem enc_inj {p q : Rat} (h : enc p = enc q) : p = q := by rw [← dec_enc p, h, dec_enc]
theorem enc_mk (b : Bool) (m n : Nat) (hn : n ≠ 0) : enc (mkRat (sg b m) n) = ⟨b && decide (m ≠ 0), wd (m / Nat.gcd m n), wd (n / Nat.gcd m n)⟩ := by
  have hg : 0 < Nat.gcd m n := Nat.gcd_pos_of_pos_right m (by omega)
  have hden : (mkRat (sg b m) n).den = n / Nat.gcd m n := by rw [Rat.den_mkRat, if_neg hn, sg_natAbs, Nat.gcd_comm]
  have hnum : (mkRat (sg b m) n).num = sg b (m / Nat.gcd m n) := by
    rw [Rat.num_mkRat, if_neg hn, sg_natAbs, Nat.gcd_comm n m]
    unfold sg
    split
    · rw [Int.neg_ediv_of_dvd (Int.natCast_dvd_natCast.2 (Nat.gcd_dvd_left m n)), Int.natCast_ediv]
    · rw [Int.natCast_ediv]
  have hz : m / Nat.gcd m n = 0 ↔ m = 0 := by
    constructor
    · intro h
      have := Nat.div_mul_cancel (Nat.gcd_dvd_left m n)
      rw [h, Nat.zero_mul] at this
      exact this.symm
    · intro h; rw [h, Nat.zero_div]
  unfold enc
  rw [hden, hnum, sg_natAbs]
  congr 1
  generalize m / Nat.gcd m n = t at hz
  unfold sg
  cases b with
  | false => rw [if_neg (by simp), decide_eq_false (by omega)]; rfl
  | true =>
    rw [if_pos rfl, Bool.true_and]
    by_cases hm : m = 0
    · have := hz.2 hm
      rw [decide_eq_false (by omega), decide_eq_false (by omega)]
    · have := mt hz.1 hm
      rw [decide_eq_true (by omega), decide_eq_true (by omega)]
theorem enc_den (q : Rat) : (enc q).den ≠ [] := fun h => q.den_nz (wd_eq_nil h)
theorem not_lng {q : Rat} (h : ¬ lng q = true) : (wd q.num.natAbs).length ≤ 2048 ∧ (wd q.den).length ≤ 2048 := by
  unfold lng at h
  simp at h
  omega
theorem lng_of {q : Rat} (h1 : (wd q.num.natAbs).length ≤ 2048) (h2 : (wd q.den).length ≤ 2048) : ¬ lng q = true := by
  unfold lng
  simp
  omega
theorem gcd_enc (q : Rat) : Nat.gcd q.num.natAbs q.den = 1 := q.reduced
theorem fchk_enc (q : Rat) (h : ¬ lng q = true) : fchk (enc q) = 0 := by
  obtain ⟨h1, h2⟩ := not_lng h
  have e1 : (enc q).num = wd q.num.natAbs := rfl
  have e2 : (enc q).den = wd q.den := rfl
  have e3 : (enc q).neg = decide (q.num < 0) := rfl
  unfold fchk
  rw [e1, e2, e3, if_neg (by omega), if_neg (by omega), if_neg (by rw [chk_wd _ (by omega)]; simp), if_neg (by rw [chk_wd _ (by omega)]; simp), if_neg (fun e => q.den_nz (wd_len_zero.1 e)), if_neg, if_neg]
  · rw [val_wd, val_wd, Int.toNat_natCast, Int.toNat_natCast, gcd_enc]; simp
  · rintro ⟨e1, e2⟩
    have := wd_len_zero.1 e1
    have := of_decide_eq_true e2
    omega
theorem chk_ok {xs : List Int} (hw : Wf xs) (h : chk xs = 0) : xs = wd (val xs).toNat ∧ xs.length ≤ 8192 := by
  unfold chk at h
  by_cases h1 : 8192 < xs.length
  · rw [if_pos h1] at h; omega
  · rw [if_neg h1] at h
    refine ⟨(wd_val hw fun hne => ?_).symm, by omega⟩
    by_cases h2 : xs ≠ [] ∧ nth xs (xs.length - 1) = 0
    · rw [if_pos h2] at h; omega
    · exact fun e => h2 ⟨hne, e⟩
/-- a fraction that may be is a rational number in its one form -/
theorem fchk_ok {a : Fr} (hw : a.Wf) (h : fchk a = 0) : ∃ q, a = enc q ∧ ¬ lng q = true := by
  unfold fchk at h
  by_cases h1 : 2048 < a.num.length
  · rw [if_pos h1] at h; omega
  rw [if_neg h1] at h
  by_cases h2 : 2048 < a.den.length
  · rw [if_pos h2] at h; omega
  rw [if_neg h2] at h
  by_cases h3 : chk a.num ≠ 0
  · rw [if_pos h3] at h; omega
  rw [if_neg h3] at h
  by_cases h4 : chk a.den ≠ 0
  · rw [if_pos h4] at h; omega
  rw [if_neg h4] at h
  by_cases h5 : a.den.length = 0
  · rw [if_pos h5] at h; omega
  rw [if_neg h5] at h
  by_cases h6 : a.num.length = 0 ∧ a.neg = true
  · rw [if_pos h6] at h; omega
  rw [if_neg h6] at h
  by_cases h7 : Nat.gcd (val a.num).toNat (val a.den).toNat ≠ 1
  · rw [if_pos h7] at h; omega
  have hg : Nat.gcd (val a.num).toNat (val a.den).toNat = 1 := by omega
  obtain ⟨e1, l1⟩ := chk_ok hw.num (by omega)
  obtain ⟨e2, l2⟩ := chk_ok hw.den (by omega)
  have hd : (val a.den).toNat ≠ 0 := fun e => h5 (by rw [e2, e, wd_zero]; rfl)
  have he : enc (mkRat (sg a.neg (val a.num).toNat) (val a.den).toNat) = a := by
    rw [enc_mk _ _ _ hd, hg, Nat.div_one, Nat.div_one, ← e1, ← e2]
    have : (a.neg && decide ((val a.num).toNat ≠ 0)) = a.neg := by
      cases hn : a.neg with
      | false => rfl
      | true =>
        have : (val a.num).toNat ≠ 0 := fun e => h6 ⟨by rw [e1, e, wd_zero]; rfl, hn⟩
        simp [this]
    rw [this]
  refine ⟨_, he.symm, lng_of ?_ ?_⟩
  · have := congrArg (·.num.length) he
    simp only [enc] at this
    omega
  · have := congrArg (·.den.length) he
    simp only [enc] at this
    omega
theorem fchk_cases (a : Fr) : fchk a = 0 ∨ fchk a = 3 ∨ fchk a = 11 := by
  unfold fchk
  repeat' split
  all_goals omega

/-- what is told of two fractions: the first error, else it -/
def both (a b : Fr) (r : Rat → Rat → Fr × Int) : Fr × Int := if fchk a ≠ 0 then (Fr.zero, fchk a) else if fchk b ≠ 0 then (Fr.zero, fchk b) else r a.q b.q
def fadd (a b : Fr) : Fr × Int := both a b fun p q => tell (p + q)
def fsub (a b : Fr) : Fr × Int := both a b fun p q => tell (p - q)
def fmul (a b : Fr) : Fr × Int := both a b fun p q => tell (p * q)
def fquo (a b : Fr) : Fr × Int := both a b fun p q => if q = 0 then (Fr.zero, 7) else tell (p / q)
def fneg (a : Fr) : Fr × Int := if fchk a ≠ 0 then (Fr.zero, fchk a) else (enc (-a.q), 0)
theorem both_left {a b : Fr} {r} (h : fchk a ≠ 0) : both a b r = (Fr.zero, fchk a) := if_pos h
theorem both_right {a b : Fr} {r} (h : fchk a = 0) (k : fchk b ≠ 0) : both a b r = (Fr.zero, fchk b) := by unfold both; rw [if_neg (by omega), if_pos k]
theorem both_ok {p q : Rat} {r} (h : ¬ lng p = true) (k : ¬ lng q = true) : both (enc p) (enc q) r = r p q := by
  unfold both
  rw [if_neg (by rw [fchk_enc p h]; simp), if_neg (by rw [fchk_enc q k]; simp), dec_enc, dec_enc]

theorem tell_wf (q : Rat) : (tell q).1.Wf := by unfold tell; split; exact Fr.zero_wf; exact enc_wf q
/-- the sum as the program makes it -/
theorem add_same (p q : Rat) (h : decide (p.num < 0) = decide (q.num < 0)) :
    mkRat (sg (decide (p.num < 0)) (p.num.natAbs * q.den + q.num.natAbs * p.den)) (p.den * q.den) = p + q := by
  rw [Rat.add_def']
  congr 1
  unfold sg
  by_cases hp : p.num < 0
  · have hq : q.num < 0 := by rw [decide_eq_true hp] at h; exact of_decide_eq_true h.symm
    rw [if_pos (decide_eq_true hp), Int.natCast_add, Int.natCast_mul, Int.natCast_mul, Int.ofNat_natAbs_of_nonpos (by omega), Int.ofNat_natAbs_of_nonpos (by omega), Int.neg_mul, Int.neg_mul]
    omega
  · have hq : ¬ q.num < 0 := by rw [decide_eq_false hp] at h; exact of_decide_eq_false h.symm
    rw [if_neg (by simpa using hp), Int.natCast_add, Int.natCast_mul, Int.natCast_mul, Int.natAbs_of_nonneg (by omega), Int.natAbs_of_nonneg (by omega)]
theorem add_less (p q : Rat) (h : decide (p.num < 0) ≠ decide (q.num < 0)) (hl : p.num.natAbs * q.den < q.num.natAbs * p.den) :
    mkRat (sg (decide (q.num < 0)) (q.num.natAbs * p.den - p.num.natAbs * q.den)) (p.den * q.den) = p + q := by
  rw [Rat.add_def']
  congr 1
  unfold sg
  rw [Int.natCast_sub (by omega), Int.natCast_mul, Int.natCast_mul]
  by_cases hq : q.num < 0
  · have hp : ¬ p.num < 0 := fun hp => h (by rw [decide_eq_true hp, decide_eq_true hq])
    rw [if_pos (decide_eq_true hq), Int.ofNat_natAbs_of_nonpos (a := q.num) (by omega), Int.natAbs_of_nonneg (a := p.num) (by omega), Int.neg_mul]
    omega
  · have hp : p.num < 0 := by
      rcases Int.lt_or_le p.num 0 with hp | hp
      · exact hp
      · exact absurd (by rw [decide_eq_false (show ¬ p.num < 0 by omega), decide_eq_false hq]) h
    rw [if_neg (by simpa using hq), Int.natAbs_of_nonneg (a := q.num) (by omega), Int.ofNat_natAbs_of_nonpos (a := p.num) (by omega), Int.neg_mul]
    omega
theorem add_more (p q : Rat) (h : decide (p.num < 0) ≠ decide (q.num < 0)) (hl : q.num.natAbs * p.den ≤ p.num.natAbs * q.den) :
    mkRat (sg (decide (p.num < 0)) (p.num.natAbs * q.den - q.num.natAbs * p.den)) (p.den * q.den) = p + q := by
  rw [Rat.add_def']
  congr 1
  unfold sg
  rw [Int.natCast_sub hl, Int.natCast_mul, Int.natCast_mul]
  by_cases hp : p.num < 0
  · have hq : ¬ q.num < 0 := fun hq => h (by rw [decide_eq_true hp, decide_eq_true hq])
    rw [if_pos (decide_eq_true hp), Int.ofNat_natAbs_of_nonpos (a := p.num) (by omega), Int.natAbs_of_nonneg (a := q.num) (by omega), Int.neg_mul]
    omega
  · have hq : q.num < 0 := by
      rcases Int.lt_or_le q.num 0 with hq | hq
      · exact hq
      · exact absurd (by rw [decide_eq_false (show ¬ q.num < 0 by omega), decide_eq_false hp]) h
    rw [if_neg (by simpa using hp), Int.natAbs_of_nonneg (a := p.num) (by omega), Int.ofNat_natAbs_of_nonpos (a := q.num) (by omega), Int.neg_mul]
    omega
theorem sg_mul (a b : Bool) (m n : Nat) : sg (a != b) (m * n) = sg a m * sg b n := by
  unfold sg
  cases a <;> cases b <;> simp [Int.natCast_mul, Int.neg_mul, Int.mul_neg]
theorem mul_made (p q : Rat) : mkRat (sg (decide (p.num < 0) != decide (q.num < 0)) (p.num.natAbs * q.num.natAbs)) (p.den * q.den) = p * q := by
  rw [Rat.mul_def', sg_mul, sg_num, sg_num]
theorem quo_made (p q : Rat) (hq : q ≠ 0) : mkRat (sg (decide (p.num < 0) != decide (q.num < 0)) (p.num.natAbs * q.den)) (p.den * q.num.natAbs) = p / q := by
  rw [Rat.div_def, Rat.mul_def', Rat.num_inv, Rat.den_inv]
  have hn : q.num ≠ 0 := fun e => hq (Rat.num_eq_zero.1 e)
  rw [if_neg hn]
  congr 1
  rw [sg_mul, sg_num]
  congr 1
  unfold sg
  by_cases h : q.num < 0
  · rw [if_pos (decide_eq_true h), Int.sign_eq_neg_one_of_neg h]; omega
  · rw [if_neg (by simpa using h), Int.sign_eq_one_of_pos (by omega)]; omega
theorem enc_neg (q : Rat) : enc (-q) = ⟨!(decide (q.num < 0)) && decide (0 < (wd q.num.natAbs).length), wd q.num.natAbs, wd q.den⟩ := by
  unfold enc
  rw [Rat.neg_num, Rat.neg_den, Int.natAbs_neg]
  congr 1
  by_cases h : q.num < 0
  · rw [decide_eq_true h, decide_eq_false (by omega)]; rfl
  · rw [decide_eq_false h]
    by_cases h0 : q.num = 0
    · rw [h0]; rw [show Int.natAbs 0 = 0 from rfl, wd_zero]; rfl
    · have hl : 0 < (wd q.num.natAbs).length := by
        have : (wd q.num.natAbs).length ≠ 0 := fun e => by have := wd_len_zero.1 e; omega
        omega
      rw [decide_eq_true hl, decide_eq_true (by omega)]; rfl
theorem enc_zero : enc 0 = ⟨false, [], [1]⟩ := by
  unfold enc
  have h1 : wd 1 = [1] := by rw [wd_pos 1 (by omega)]; rw [show 1 / 4294967296 = 0 from rfl, wd_zero]; rfl
  rw [Rat.zero_num, Rat.zero_den, show Int.natAbs 0 = 0 from rfl, wd_zero, h1]
  rfl
theorem wd_one : wd 1 = [1] := by rw [wd_pos 1 (by omega)]; rw [show 1 / 4294967296 = 0 from rfl, wd_zero]; rfl
theorem enc_num_nil {q : Rat} : (enc q).num = [] ↔ q = 0 := by
  constructor
  · intro h
    have h1 : q.num.natAbs = 0 := wd_eq_nil h
    exact Rat.num_eq_zero.1 (by omega)
  · intro h; subst h; rw [enc_zero]

end Go.Proofs.YtifonmdcicegdaaGreat

/- ratio's inner functions: times, long, lowest. -/
namespace Go.Proofs.YtifonmdcicegdaaGreat
open Go Go.RowKit

/-- old cells and old marks read as before -/
theorem bcell {W w1 : World} (hb : Ext W w1) : (∀ b o, b < W.heap.size → w1.cell? ⟨b, o, none⟩ = W.cell? ⟨b, o, none⟩) ∧ (∀ b o, b < W.heap.size → w1.frozen? ⟨b, o, none⟩ = W.frozen? ⟨b, o, none⟩) :=
  ⟨fun b o h => Below.cell (p := ⟨b, o, none⟩) hb h, fun b o h => Below.frozen (p := ⟨b, o, none⟩) hb h⟩

set_option maxHeartbeats 400000 in
theorem times_any (A B : Option Addr) (m n : Nat) (c d : Nat) (w : World) (ha : Rd w A c (wd m)) (hb : Rd w B d (wd n)) (ls : (wd m).length + (wd n).length ≤ 8192) :
    Calls Tryz.prog 142 #[.slice A (wd m).length c, .slice B (wd n).length d] w fun e w' => ∃ A' c', e = .returned (.slice A' (wd (m * n)).length c') ∧ Own w' w.heap.size A' c' (wd (m * n)) ∧ Ext w w' := by
  have H := Lib.hid (mul_any A B m n c d w ha hb ls)
  clear ha hb
  go_enter Tryz.func142, Tryz.ntmps142
  go_wp2_with fail
  refine H.out.mono ?_; rintro e w1 ⟨A1, c1, rfl, h1, hx1⟩
  have H1 := Lib.hid h1
  have HX1 := Lib.hid hx1
  clear h1 hx1
  go_wp2_with fail
  go_ret
  exact ⟨_, _, rfl, H1.out, HX1.out⟩

theorem long_any (A : Option Addr) (n c : Nat) (w : World) (hn : n ≤ 9223372036854775807) :
    Calls Tryz.prog 153 #[.slice A n c] w fun e w' => e = .returned (.bool (decide (2048 < n))) ∧ w = w' := by
  go_enter Tryz.func153, Tryz.ntmps153
  go_wp2
  go_ret
  exact ⟨by simp; omega, rfl⟩

/-- a fraction is told: new memory, or the error -/
def RatP (w : World) (t : Fr × Int) (e : Ending) (w' : World) : Prop :=
  ∃ A c B d, e = .returned (.tuple #[.agg #[.bool t.1.neg, .slice A t.1.num.length c, .slice B t.1.den.length d], .int .i64 t.2]) ∧ Own w' w.heap.size A c t.1.num ∧ Own w' w.heap.size B d t.1.den ∧ (∀ a b, A = some a → B = some b → a.block ≠ b.block) ∧ Ext w w'

theorem RatP.mk {w w' : World} {t : Fr × Int} {s : Bool} {xs ys : List Int} {er : Int} {e : Ending} {A B : Option Addr} {c d : Nat} (ht : t = (⟨s, xs, ys⟩, er)) (he : e = .returned (.tuple #[.agg #[.bool s, .slice A xs.length c, .slice B ys.length d], .int .i64 er]))
    (h1 : Own w' w.heap.size A c xs) (h2 : Own w' w.heap.size B d ys) (h3 : ∀ a b, A = some a → B = some b → a.block ≠ b.block) (h4 : Ext w w') : RatP w t e w' := by
  subst ht
  exact ⟨A, c, B, d, he, h1, h2, h3, h4⟩
theorem RatP.nil {w w' : World} {t : Fr × Int} {er : Int} {e : Ending} (ht : t = (Fr.zero, er)) (he : e = .returned (.tuple #[.agg #[.bool false, .slice none 0 0, .slice none 0 0], .int .i64 er])) (h4 : Ext w w') : RatP w t e w' := by
  subst ht
  exact ⟨none, 0, none, 0, he, Own.nil _ _, Own.nil _ _, (fun _ _ h => by cases h), h4⟩

set_option maxHeartbeats 1000000 in
theorem lowest_any (b : Bool) (A B : Option Addr) (m n : Nat) (c d : Nat) (w : World) (ha : Rd w A c (wd m)) (hb : Rd w B d (wd n)) (hn : n ≠ 0) (lm : (wd m).length ≤ 8192) (ln : (wd n).length ≤ 8192) :
    Calls Tryz.prog 141 #[.bool b, .slice A (wd m).length c, .slice B (wd n).length d] w (RatP w (tell (mkRat (sg b m) n))) := by
  have HA := Lib.hid ha
  have HB := Lib.hid hb
  have hg0 : 0 < Nat.gcd m n := Nat.gcd_pos_of_pos_right m (by omega)
  have hgl := wd_len_mono (Nat.gcd_le_right m (show 0 < n by omega))
  have HE := Lib.hid (enc_mk b m n hn)
  obtain ⟨g, hg⟩ : ∃ g, g = Nat.gcd m n := ⟨_, rfl⟩
  rw [← hg] at hg0 hgl HE
  have HG := Lib.hid hg
  clear ha hb hg
  go_enter Tryz.func141, Tryz.ntmps141
  go_wp2_with fail
  refine (gcd_any _ _ _ _ _ _ _ (HA.out.ext ((Ext.refl w).alloc _)) (HB.out.ext ((Ext.refl w).alloc _)) lm ln).mono ?_
  rw [← HG.out]
  rintro e w1 ⟨A1, c1, rfl, h1, hx1⟩
  have H1 := Lib.hid h1
  have HX1 := Lib.hid hx1
  clear h1 hx1
  go_wp2_with fail
  refine (divMod_any _ _ _ _ _ _ _ (HA.out.ext (((Ext.refl w).alloc _).trans HX1.out)) H1.out.rd (by omega) lm (by omega)).mono ?_
  rintro e w2 ⟨A2, c2, B2, d2, rfl, h2, h2', h2'', hx2⟩
  have H2 := Lib.hid h2
  have HX2 := Lib.hid (HX1.out.trans hx2)
  have H1 := Lib.hid (H1.out.ext hx2)
  clear h2 h2' h2'' hx2
  go_wp2_with fail
  refine (divMod_any _ _ _ _ _ _ _ (HB.out.ext (((Ext.refl w).alloc _).trans HX2.out)) H1.out.rd (by omega) ln (by omega)).mono ?_
  rintro e w3 ⟨A3, c3, B3, d3, rfl, h3, h3', h3'', hx3⟩
  have HAp := Lib.hid (H2.out.apart h3 (Nat.le_refl _))
  have H3 := Lib.hid (h3.lower (show w.heap.size + 1 ≤ w2.heap.size by have := HX2.out.size; simp at this; omega))
  have H2 := Lib.hid ((H2.out.ext hx3).lower (show w.heap.size + 1 ≤ w1.heap.size by have := HX1.out.size; simp at this; omega))
  have HX3 := Lib.hid (HX2.out.trans hx3)
  have HZ3 := Lib.hid (show w.heap.size < w3.heap.size by have := HX3.out.size; simp at this; omega)
  clear h3 h3' h3'' hx3 H1
  obtain ⟨m', hm'⟩ : ∃ x, x = m / g := ⟨_, rfl⟩
  obtain ⟨n', hn'⟩ : ∃ x, x = n / g := ⟨_, rfl⟩
  rw [← hm'] at HE H2 ⊢
  rw [← hn'] at HE H3 ⊢
  have hml := wd_len_mono (show m' ≤ m by rw [hm']; exact Nat.div_le_self _ _)
  have hnl := wd_len_mono (show n' ≤ n by rw [hn']; exact Nat.div_le_self _ _)
  have Hm' := Lib.hid hm'
  clear hm' hn'
  have el : (wd (mkRat (sg b m) n).num.natAbs) = wd m' := congrArg Fr.num HE.out
  have ed : (wd (mkRat (sg b m) n).den) = wd n' := congrArg Fr.den HE.out
  have hbc := bcell HX3.out
  obtain ⟨hc, hf⟩ := hbc
  have HXw := Lib.hid (((Ext.refl w).alloc _).trans HX3.out)
  by_cases l1 : 2048 < (wd m').length
  · have HT := Lib.hid (show tell (mkRat (sg b m) n) = (Fr.zero, 3) by unfold tell lng; rw [el, if_pos (by simp; omega)])
    rw [HT.out]
    clear el ed
    go_wp2_with fail
    refine (long_any _ _ _ _ (by omega)).mono ?_; rintro e w' ⟨rfl, rfl⟩
    go_wp2_with fail
    exact bodyPost_ret (v := .tuple #[.agg #[.bool false, .slice none 0 0, .slice none 0 0], .int .i64 3]) (by simp [results, Tryz.results141, go_sem, hc]) rfl (RatP.nil HT.out rfl (by repeat (first | exact HXw.out | refine Ext.setCell ?_ (Nat.le_refl _) _)))
  · by_cases l2 : 2048 < (wd n').length
    · have HT := Lib.hid (show tell (mkRat (sg b m) n) = (Fr.zero, 3) by unfold tell lng; rw [ed, if_pos (by simp; omega)])
      rw [HT.out]
      clear el ed
      go_wp2_with fail
      refine (long_any _ _ _ _ (by omega)).mono ?_; rintro e w' ⟨rfl, rfl⟩
      go_wp2_with fail
      refine (long_any _ _ _ _ (by omega)).mono ?_; rintro e w' ⟨rfl, rfl⟩
      go_wp2_with fail
      exact bodyPost_ret (v := .tuple #[.agg #[.bool false, .slice none 0 0, .slice none 0 0], .int .i64 3]) (by simp [results, Tryz.results141, go_sem, hc]) rfl (RatP.nil HT.out rfl (by repeat (first | exact HXw.out | refine Ext.setCell ?_ (Nat.le_refl _) _)))
    · obtain ⟨s, hs⟩ : ∃ s : Bool, s = (b && decide (m ≠ 0)) := ⟨_, rfl⟩
      have HT := Lib.hid (show tell (mkRat (sg b m) n) = (⟨s, wd m', wd n'⟩, 0) by unfold tell lng; rw [el, ed, if_neg (by simp; omega), HE.out, hs])
      rw [HT.out]
      have hs2 : s = (b && decide (0 < (wd m').length)) := by
        rw [hs]
        congr 1
        have hz : m' = 0 ↔ m = 0 := by
          rw [Hm'.out, HG.out]
          constructor
          · intro h
            have := Nat.div_mul_cancel (Nat.gcd_dvd_left m n)
            rw [h, Nat.zero_mul] at this
            exact this.symm
          · intro h; rw [h, Nat.zero_div]
        have hl := @wd_len_zero m'
        by_cases h0 : m = 0
        · have := hl.2 (hz.2 h0)
          rw [decide_eq_false (by omega), decide_eq_false (by omega)]
        · have := mt hz.1 h0
          have := mt hl.1 this
          rw [decide_eq_true (by omega), decide_eq_true (by omega)]
      clear el ed hs
      cases b with
      | false =>
        obtain rfl : s = false := hs2
        go_wp2_with fail
        refine (long_any _ _ _ _ (by omega)).mono ?_; rintro e w' ⟨rfl, rfl⟩
        go_wp2_with fail
        refine (long_any _ _ _ _ (by omega)).mono ?_; rintro e w' ⟨rfl, rfl⟩
        go_wp2_with fail
        exact bodyPost_ret (v := .tuple #[.agg #[.bool false, .slice A2 (wd m').length c2, .slice A3 (wd n').length c3], .int .i64 0]) (by simp [results, Tryz.results141, go_sem, hc]) rfl (RatP.mk HT.out rfl (by refine Own.lower ?_ (Nat.le_succ _); repeat (first | exact H2.out | refine Own.setBelow ?_ (Nat.lt_succ_self _) _)) (by refine Own.lower ?_ (Nat.le_succ _); repeat (first | exact H3.out | refine Own.setBelow ?_ (Nat.lt_succ_self _) _)) HAp.out (by repeat (first | exact HXw.out | refine Ext.setCell ?_ (Nat.le_refl _) _)))
      | true =>
        rw [Bool.true_and] at hs2
        by_cases h0 : 0 < (wd m').length
        · obtain rfl : s = true := by rw [hs2]; exact decide_eq_true h0
          clear hs2
          go_wp2_with fail
          refine (long_any _ _ _ _ (by omega)).mono ?_; rintro e w' ⟨rfl, rfl⟩
          go_wp2_with fail
          refine (long_any _ _ _ _ (by omega)).mono ?_; rintro e w' ⟨rfl, rfl⟩
          go_wp2_with fail
          exact bodyPost_ret (v := .tuple #[.agg #[.bool true, .slice A2 (wd m').length c2, .slice A3 (wd n').length c3], .int .i64 0]) (by simp [results, Tryz.results141, go_sem, hc]) rfl (RatP.mk HT.out rfl (by refine Own.lower ?_ (Nat.le_succ _); repeat (first | exact H2.out | refine Own.setBelow ?_ (Nat.lt_succ_self _) _)) (by refine Own.lower ?_ (Nat.le_succ _); repeat (first | exact H3.out | refine Own.setBelow ?_ (Nat.lt_succ_self _) _)) HAp.out (by repeat (first | exact HXw.out | refine Ext.setCell ?_ (Nat.le_refl _) _)))
        · obtain rfl : s = false := by rw [hs2]; exact decide_eq_false h0
          clear hs2
          go_wp2_with fail
          refine (long_any _ _ _ _ (by omega)).mono ?_; rintro e w' ⟨rfl, rfl⟩
          go_wp2_with fail
          refine (long_any _ _ _ _ (by omega)).mono ?_; rintro e w' ⟨rfl, rfl⟩
          go_wp2_with fail
          exact bodyPost_ret (v := .tuple #[.agg #[.bool false, .slice A2 (wd m').length c2, .slice A3 (wd n').length c3], .int .i64 0]) (by simp [results, Tryz.results141, go_sem, hc]) rfl (RatP.mk HT.out rfl (by refine Own.lower ?_ (Nat.le_succ _); repeat (first | exact H2.out | refine Own.setBelow ?_ (Nat.lt_succ_self _) _)) (by refine Own.lower ?_ (Nat.le_succ _); repeat (first | exact H3.out | refine Own.setBelow ?_ (Nat.lt_succ_self _) _)) HAp.out (by repeat (first | exact HXw.out | refine Ext.setCell ?_ (Nat.le_refl _) _)))

end Go.Proofs.YtifonmdcicegdaaGreat

/- The law's kit: words: long, CopyWords, LentWords, SameWords, KeptWords, OverWords. -/
namespace Go.Proofs.YtifonmdcicegdaaGreat
open Go Go.RowKit

/-- the same memory: no more than draws -/
def Quiet (w w' : World) : Prop := ∃ m, w' = w.drewN m
theorem Quiet.ext {w w' : World} (h : Quiet w w') : Ext w w' := by obtain ⟨m, rfl⟩ := h; exact (Ext.refl w).drewN m
theorem Quiet.refl (w : World) : Quiet w w := ⟨0, rfl⟩
theorem Quiet.drewN {w w' : World} (h : Quiet w w') (n : Nat) : Quiet w (w'.drewN n) := by obtain ⟨m, rfl⟩ := h; exact ⟨m + n, by rw [World.drewN_drewN]⟩

theorem nth_ext : ∀ {xs ys : List Int}, xs.length = ys.length → (∀ j, j < xs.length → nth xs j = nth ys j) → xs = ys
  | [], [], _, _ => rfl
  | [], _ :: _, h, _ => by simp at h
  | _ :: _, [], h, _ => by simp at h
  | x :: xs, y :: ys, h, e => by
    have h0 : x = y := e 0 (by simp)
    rw [h0, nth_ext (xs := xs) (ys := ys) (by simpa using h) (fun j hj => e (j + 1) (by simpa using hj))]

/-- is it too long for the law? -/
def isLong (n : Nat) : Bool := decide (60 < n ∧ (n ≤ 2048 ∨ 2057 ≤ n))

theorem klong_any (A : Option Addr) (n c : Nat) (w : World) (hn : n ≤ 9223372036854775807) (b : Bool) (hb : isLong n = b) :
    Calls Tryz.prog 133 #[.slice A n c] w fun e w' => e = .returned (.bool b) ∧ w' = w := by
  unfold isLong at hb
  have HB := Lib.hid hb
  clear hb
  by_cases h1 : 60 < n
  · by_cases h2 : n ≤ 2048
    · obtain rfl : b = true := by rw [← HB.out]; exact decide_eq_true (by omega)
      go_enter Tryz.func133, Tryz.ntmps133
      go_wp2
      go_ret
      exact ⟨rfl, rfl⟩
    · by_cases h3 : 2057 ≤ n
      · obtain rfl : b = true := by rw [← HB.out]; exact decide_eq_true (by omega)
        go_enter Tryz.func133, Tryz.ntmps133
        go_wp2
        go_ret
        exact ⟨by simp; omega, rfl⟩
      · obtain rfl : b = false := by rw [← HB.out]; exact decide_eq_false (by omega)
        go_enter Tryz.func133, Tryz.ntmps133
        go_wp2
        go_ret
        exact ⟨by simp; omega, rfl⟩
  · obtain rfl : b = false := by rw [← HB.out]; exact decide_eq_false (by omega)
    go_enter Tryz.func133, Tryz.ntmps133
    go_wp2
    go_ret
    exact ⟨rfl, rfl⟩

theorem kcopy_any (A : Option Addr) (xs : List Int) (c l : Nat) (w : World) (h : Rd w A c xs) (hl : xs.length = l) (hm : l ≤ 35184372088832) :
    Calls Tryz.prog 225 #[.slice A l c] w fun e w' => ∃ A' c', e = .returned (.slice A' l c') ∧ Own w' w.heap.size A' c' xs ∧ Ext w w' := by
  have H := Lib.hid h
  have HL := Lib.hid hl
  clear h hl
  go_enter Tryz.func225, Tryz.ntmps225
  go_wp2_with (at_builtin; refine wpList_app rfl _ _ rfl w.heap.size (some ⟨w.heap.size, 0, none⟩) 0 [] 0 rfl rfl (Own.lit w #[] [] rfl (by simp)) _ _ xs l HL.out rfl (H.out.ext ((Ext.refl w).alloc _)) (by omega) (by simp) ?_; intro A' c' w1 hO hg)
  have HO := Lib.hid hO
  have HX : Hid (Ext w w1) := ((Ext.refl w).alloc _).grown hg (fun k hk => by cases hk; exact Nat.le_refl _)
  clear hO hg
  go_wp2_with fail
  go_ret
  exact ⟨A', c', by simp, HO.out, HX.out⟩

/-- what stands behind words that are lent -/
def marks : List Int := [2882343476, 2882343477, 2882343478]
theorem marks_take (k : Nat) (h : k < 3) : marks.take (k + 1) = marks.take k ++ [2882343476 + (k : Int)] := by
  match k, h with
  | 0, _ => rfl
  | 1, _ => rfl
  | 2, _ => rfl
theorem wf_marks : Wf marks := by
  intro x hx
  simp [marks] at hx
  omega

set_option maxHeartbeats 1000000 in
theorem klent_any (A : Option Addr) (xs : List Int) (c l : Nat) (w : World) (h : Rd w A c xs) (hl : xs.length = l) (hm : l ≤ 35184372088820) :
    Calls Tryz.prog 134 #[.slice A l c] w fun e w' => ∃ A' c', e = .returned (.slice A' (l + 3) c') ∧ Own w' w.heap.size A' c' (xs ++ marks) ∧ Ext w w' := by
  have H := Lib.hid h
  have HL := Lib.hid hl
  clear h hl
  go_enter Tryz.func134, Tryz.ntmps134
  go_wp2_with fail
  refine (kcopy_any A xs c l _ H.out HL.out (by omega)).mono ?_; rintro e w1 ⟨A1, c1, rfl, h1, hx1⟩
  have H1 := Lib.hid h1
  have HX1 := Lib.hid hx1
  clear h1 hx1
  go_wp2_with fail
  go_loopw [3, 4] (fun s i wr => ∃ (k : Nat) (P : Option Addr) (cp : Nat), k ≤ 3 ∧ s = .slice P (l + k) cp ∧ i = .int .i64 k ∧ Hid (Own wr w.heap.size P cp (xs ++ marks.take k)) ∧ Hid (Ext w wr)) (fun _ i _ => 3 - (intOf i).toNat)
  case atStart => exact ⟨0, A1, c1, by omega, rfl, rfl, by rw [List.take_zero, List.append_nil]; exact H1.out, HX1.out⟩
  case round =>
    clear H1 HX1
    obtain ⟨k, P, cp, hk, rfl, rfl, HO, HX⟩ := hrel
    by_cases hk3 : k < 3
    · have HLL := Lib.hid (show (xs ++ marks.take k).length = l + k by rw [List.length_append, HL.out, List.length_take]; simp [marks]; omega)
      go_wp2_with (at_builtin; refine wpList_app rfl _ _ rfl w.heap.size P cp (xs ++ marks.take k) (l + k) HLL.out rfl (HO.out.ext ((Ext.refl wr).alloc _)) _ _ [2882343476 + (k : Int)] 1 rfl rfl (Own.lit wr _ [2882343476 + (k : Int)] rfl (by simp)).rd (by omega) (by have := HX.out.size; simp; omega) ?_; intro A' c' w2 hO hg)
      have HO2 := Lib.hid (show Own w2 w.heap.size A' c' (xs ++ marks.take (k + 1)) by rw [marks_take k hk3, ← List.append_assoc]; exact hO)
      have HX2 := Lib.hid ((HX.out.alloc _).grown hg (fun k hk => by
        cases P with
        | none => cases hk
        | some a => cases hk; exact HO.out.block.1))
      clear hO hg
      go_roundw
      case rel => exact ⟨k + 1, A', c', by omega, rfl, by go_num, HO2.out, HX2.out⟩
      case measure => simp [intOf]; omega
    · obtain rfl : k = 3 := by omega
      go_wp2_with fail
      go_ret
      exact ⟨P, cp, rfl, HO.out, HX.out⟩

set_option maxHeartbeats 1000000 in
theorem ksame_any (A B : Option Addr) (xs ys : List Int) (c d l : Nat) (w : World) (ha : Rd w A c xs) (hb : Rd w B d ys) (hl : xs.length = l) (n : Nat) (hn : ys.length = n) (b : Bool) (hbb : decide (xs = ys) = b) :
    Calls Tryz.prog 160 #[.slice A l c, .slice B n d] w fun e w' => e = .returned (.bool b) ∧ Quiet w w' := by
  have HL := Lib.hid hl
  have HN := Lib.hid hn
  have HA := Lib.hid ha
  have HB := Lib.hid hb
  have HBB := Lib.hid hbb
  have hll := ha.lim
  rw [hl] at hll
  clear ha hb hl hn hbb
  by_cases hne : l = n
  · subst hne
    have hbn : ((l : Int) != (l : Int)) = false := by simp
    go_enter Tryz.func160, Tryz.ntmps160
    go_wp2_with fail
    go_loopw [5] (fun i wr => ∃ k : Nat, k ≤ l ∧ i = .int .i64 k ∧ Hid (∀ j, j < k → nth xs j = nth ys j) ∧ Hid (Quiet w wr)) (fun i _ => l - (intOf i).toNat)
    case atStart => exact ⟨0, by omega, rfl, fun j hj => by omega, Quiet.refl w⟩
    case round =>
      obtain ⟨k, hk, rfl, HE, HQ⟩ := hrel
      by_cases hkl : k < l
      · obtain ⟨a, rfl, hca⟩ := (HA.out.ext HQ.out.ext).at_ k (by rw [HL.out]; exact hkl)
        obtain ⟨b', rfl, hcb⟩ := (HB.out.ext HQ.out.ext).at_ k (by rw [HN.out]; exact hkl)
        by_cases he : nth xs k = nth ys k
        · have HE2 := Lib.hid (show ∀ j, j < k + 1 → nth xs j = nth ys j from fun j hj => by
            by_cases e : j = k
            · rw [e]; exact he
            · exact HE.out j (by omega))
          have hne : (nth xs k != nth ys k) = false := bne_eq_false_iff_eq.2 he
          clear he
          go_wp2_with fail
          go_quiet (fail)
          go_wp2_with fail
          go_roundw
          case rel => exact ⟨k + 1, by omega, by go_num, HE2.out, HQ.out.drewN _⟩
          case measure => simp [intOf]; omega
        · have hne : (nth xs k != nth ys k) = true := bne_iff_ne.2 he
          have HF := Lib.hid (show b = false by rw [← HBB.out]; exact decide_eq_false (fun e => he (by rw [e])))
          clear he
          go_wp2_with fail
          go_quiet (fail)
          go_wp2_with fail
          go_ret
          exact ⟨by rw [HF.out]; rfl, HQ.out.drewN _⟩
      · have hkk : k = l := by omega
        have HF := Lib.hid (show b = true by rw [← HBB.out]; exact decide_eq_true (nth_ext (HL.out.trans HN.out.symm) (fun j hj => HE.out j (by have := HL.out; omega))))
        go_wp2_with fail
        go_ret
        exact ⟨by rw [HF.out]; rfl, HQ.out⟩
  · have hbn : ((l : Int) != (n : Int)) = true := bne_iff_ne.2 (by omega)
    have HF := Lib.hid (show b = false by rw [← HBB.out]; exact decide_eq_false (fun e => hne (by rw [← HL.out, ← HN.out, e])))
    go_enter Tryz.func160, Tryz.ntmps160
    go_wp2_with fail
    go_ret
    exact ⟨by rw [HF.out]; rfl, Quiet.refl w⟩

theorem kkept_any (A B : Option Addr) (xs : List Int) (c d l n : Nat) (w : World) (ha : Rd w A c (xs ++ marks)) (hb : Rd w B d xs) (hl : xs.length = l) (hn : l + 3 = n) (hm : l ≤ 35184372088820) :
    Calls Tryz.prog 161 #[.slice A n c, .slice B l d] w fun e w' => e = .returned (.bool true) ∧ Ext w w' := by
  have HL := Lib.hid hl
  have HA := Lib.hid ha
  have HB := Lib.hid hb
  have HLL := Lib.hid (show (xs ++ marks).length = l + 3 by rw [List.length_append, hl]; rfl)
  clear ha hb hl
  subst hn
  go_enter Tryz.func161, Tryz.ntmps161
  go_wp2_with fail
  refine (klent_any B xs d l _ HB.out HL.out hm).mono ?_; rintro e w1 ⟨A1, c1, rfl, h1, hx1⟩
  have H1 := Lib.hid h1
  have HX1 := Lib.hid hx1
  clear h1 hx1
  go_wp2_with fail
  refine (ksame_any A A1 (xs ++ marks) (xs ++ marks) _ _ (l + 3) _ (HA.out.ext HX1.out) H1.out.rd HLL.out (l + 3) HLL.out true (decide_eq_true rfl)).mono ?_; rintro e w2 ⟨rfl, hq⟩
  have HX2 := Lib.hid (HX1.out.trans hq.ext)
  clear hq
  go_wp2_with fail
  go_ret
  exact ⟨rfl, HX2.out⟩

end Go.Proofs.YtifonmdcicegdaaGreat

/- OverWords. -/
namespace Go.Proofs.YtifonmdcicegdaaGreat
open Go Go.RowKit

/-- append of words behind words of the call's own that have room: in place -/
theorem wpList_spare {w : World} {ops : Array Oper} {rest : List Oper} {o : Oper} {a : Act} {Q : Exit → Act → World → Prop} (hgd : o.guard = none) (s x : Operand)
    (ho : o.op = .call { callee := .builtin .append, args := #[s, x], argTypes := #[22, 22] })
    (base g c : Nat) (xs : List Int) (n : Nat) (hn : xs.length = n) (hs : a.eval s = .slice (some ⟨g, 0, none⟩) n c) (hO : Own w base (some ⟨g, 0, none⟩) c xs)
    (b : Addr) (d : Nat) (ys : List Int) (m : Nat) (hm : ys.length = m) (hx : a.eval x = .slice (some b) m d) (hR : Rd w (some b) d ys)
    (hroom : n + m ≤ c)
    (h : ∀ w', Own w' base (some ⟨g, 0, none⟩) c (xs ++ ys) → w.grownBy w' (some g) → wpList Tryz.prog ops Q rest (a.put o.dst (.slice (some ⟨g, 0, none⟩) (n + m) c)) w') : wpList Tryz.prog ops Q (o :: rest) a w := by
  obtain ⟨i0, hi, hz0, hz1, hz2⟩ := info_parts info_u32
  subst hn
  subst hm
  refine wpList_append_own_spare w hgd s x 22 ho base 144 i0 1 Tryz.underlying22 hi hz1 g xs.length c (nums xs) hs hO b ys.length d (nums ys) hx (by rw [nums_length, Nat.mul_one])
    (fun j u hu => by
      have hj : j < ys.length := by
        have := (List.getElem?_eq_some_iff.1 hu).1
        rwa [nums_length] at this
      rw [nums_at ys j hj] at hu
      cases hu
      exact hR.cell j hj) (nums_one ys) hroom ?_
  intro w' h2 h3
  rw [← nums_append, ← List.length_append] at h2
  exact h w' h2 h3

/-- all bits turned -/
def nt (x : Int) : Int := bits .xor .u32 (if IntKind.u32.signed = true then -1 else IntKind.u32.max) x

set_option maxHeartbeats 1000000 in
theorem kover_any (A : Option Addr) (xs : List Int) (base c l : Nat) (w : World) (h : Own w base A c xs) (hl : xs.length = l) (hw : Wf xs) :
    Calls Tryz.prog 245 #[.slice A l c] w fun e w' => ∃ zs, e = .returned (.tuple #[]) ∧ Own w' base A c zs ∧ l ≤ zs.length ∧ (∀ j, j < l → nth zs j = nt (nth xs j)) ∧ w.grownBy w' (A.map (·.block)) := by
  have HO := Lib.hid h
  have HL := Lib.hid hl
  have HW := Lib.hid hw
  rcases h.form with rfl | ⟨g, rfl, hgb, hgs⟩
  · have hc : c = 0 := h.rd.none_ rfl
    have hlc : l = 0 := by have := h.rd.cap; omega
    subst hc
    subst hlc
    clear h hl hw
    go_enter Tryz.func245, Tryz.ntmps245
    go_wp2_with fail
    go_loopw [3] (fun i wr => i = .int .i64 0 ∧ wr = w) (fun _ _ => 0)
    case atStart => exact ⟨rfl, rfl⟩
    case round =>
      obtain ⟨rfl, rfl⟩ := hrel
      go_wp2_with fail
      go_loopw [4] (fun i w' => i = .int .i64 0 ∧ w' = wr) (fun _ _ => 0)
      case atStart => exact ⟨rfl, rfl⟩
      case round =>
        obtain ⟨rfl, rfl⟩ := hrel
        go_wp2_with fail
        go_end0
        exact ⟨xs, rfl, HO.out, by omega, fun j hj => by omega, World.grownBy.refl _ _⟩
  · have hlc : l ≤ c := by have := h.rd.cap; omega
    have hcm : c ≤ 9223372036854775807 := h.rd.capm
    clear h hl hw
    go_enter Tryz.func245, Tryz.ntmps245
    go_wp2_with fail
    go_loopw [3] (fun i wr => ∃ (k : Nat) (us : List Int), k ≤ l ∧ i = .int .i64 k ∧ Hid (us.length = l) ∧ Hid (∀ j, j < k → nth us j = nt (nth xs j)) ∧ Hid (∀ j, k ≤ j → nth us j = nth xs j) ∧ Hid (Own wr base (some ⟨g, 0, none⟩) c us) ∧ Hid (w.grownBy wr (some g))) (fun i _ => l - (intOf i).toNat)
    case atStart => exact ⟨0, xs, by omega, rfl, HL.out, fun j hj => by omega, fun _ _ => rfl, HO.out, World.grownBy.refl _ _⟩
    case round =>
      obtain ⟨k, us, hk, rfl, HU, HE, HR, HO1, HG⟩ := hrel
      by_cases hkl : k < l
      · have hco := HO1.out.cell k (by rw [HU.out]; exact hkl)
        have hfo := HO1.out.free k
        have bx := nth_wf HW.out k
        rw [HR.out k (Nat.le_refl _)] at hco
        go_wp2_with fail
        go_roundw
        case rel => exact ⟨k + 1, us.set k (nt (nth xs k)), by omega, by go_num, by unfold Hid; rw [List.length_set]; exact HU.out, fun j hj => by
            by_cases e : j = k
            · rw [e, nth_set_self _ _ _ (by rw [HU.out]; exact hkl)]
            · rw [nth_set_ne _ _ _ _ (by omega)]; exact HE.out j (by omega), fun j hj => by rw [nth_set_ne _ _ _ _ (by omega)]; exact HR.out j (by omega), (HO1.out.set k _).1, grown_trans HG.out (HO1.out.set k _).2⟩
        case measure => simp [intOf]; omega
      · have hkk : k = l := by omega
        subst hkk
        clear hkl hk
        have HG1 := Lib.hid HG.out
        go_wp2_with fail
        go_loopw [0, 4] (fun s i w' => ∃ (m : Nat) (zs : List Int), m ≤ c ∧ k ≤ m ∧ s = .slice (some ⟨g, 0, none⟩) m c ∧ i = .int .i64 m ∧ Hid (zs.length = m) ∧ Hid (∀ j, j < k → nth zs j = nt (nth xs j)) ∧ Hid (Own w' base (some ⟨g, 0, none⟩) c zs) ∧ Hid (w.grownBy w' (some g))) (fun _ i _ => c - (intOf i).toNat)
        case atStart => exact ⟨k, us, hlc, Nat.le_refl _, rfl, rfl, HU.out, HE.out, HO1.out, HG.out⟩
        case round =>
          clear HO1 HG HU HE HR HG1
          obtain ⟨m, zs, hm, hkm, rfl, rfl, HZ, HE, HO1, HG⟩ := hrel
          by_cases hmc : m < c
          · go_wp2_with (at_builtin; refine wpList_spare rfl _ _ rfl base g c zs m HZ.out rfl (HO1.out.ext ((Ext.refl wr).alloc _)) _ _ [2882343476] 1 rfl rfl (Own.lit wr _ [2882343476] rfl (by simp)).rd (by omega) ?_; intro w2 hO hg)
            have HO2 := Lib.hid hO
            have HG2 := Lib.hid (grown_trans (grown_alloc HG.out _) hg)
            have HE2 := Lib.hid (show ∀ j, j < k → nth (zs ++ [2882343476]) j = nt (nth xs j) from fun j hj => by
              rw [← HE.out j hj]
              have := HZ.out
              simp [nth, List.getElem?_append_left (show j < zs.length by omega)])
            have HZ2 := Lib.hid (show (zs ++ [2882343476]).length = m + 1 by rw [List.length_append, HZ.out]; rfl)
            clear hO hg
            go_roundw
            case rel => exact ⟨m + 1, _, by omega, by omega, rfl, by go_num, HZ2.out, HE2.out, HO2.out, HG2.out⟩
            case measure => simp [intOf]; omega
          · obtain rfl : m = c := by omega
            go_wp2_with fail
            go_end0
            exact ⟨zs, rfl, HO1.out, by rw [HZ.out]; exact hkm, HE.out, HG.out⟩

end Go.Proofs.YtifonmdcicegdaaGreat

/- SameRatio. -/
namespace Go.Proofs.YtifonmdcicegdaaGreat
open Go Go.RowKit

set_option maxHeartbeats 1000000 in
theorem ksameR_any (s t : Bool) (A B C D : Option Addr) (xs ys us vs : List Int) (a b c d : Nat) (w : World) (ha : Rd w A a xs) (hb : Rd w B b ys) (hc : Rd w C c us) (hd : Rd w D d vs) (r : Bool) (hr : decide ((⟨s, xs, ys⟩ : Fr) = ⟨t, us, vs⟩) = r) :
    Calls Tryz.prog 55 #[.agg #[.bool s, .slice A xs.length a, .slice B ys.length b], .agg #[.bool t, .slice C us.length c, .slice D vs.length d]] w fun e w' => e = .returned (.bool r) ∧ Ext w w' := by
  have HA := Lib.hid ha
  have HB := Lib.hid hb
  have HC := Lib.hid hc
  have HD := Lib.hid hd
  have HR := Lib.hid hr
  clear ha hb hc hd hr
  have HX := Lib.hid (((Ext.refl w).alloc (.cells #[.bool s, .slice A xs.length a, .slice B ys.length b] 24)).alloc (.cells #[.bool t, .slice C us.length c, .slice D vs.length d] 24))
  by_cases h1 : s = t
  · subst h1
    by_cases h2 : xs = us
    · have H2 := Lib.hid h2
      have HS := Lib.hid (ksame_any A C xs us a c xs.length _ (HA.out.ext HX.out) (HC.out.ext HX.out) rfl us.length rfl true (decide_eq_true h2))
      have HS2 := Lib.hid (fun wx (hx : Ext w wx) => ksame_any B D ys vs b d ys.length wx (HB.out.ext hx) (HD.out.ext hx) rfl vs.length rfl r (by rw [← HR.out, h2]; simp))
      clear h2
      go_enter Tryz.func55, Tryz.ntmps55
      go_wp2_with fail
      refine HS.out.mono ?_; rintro e w1 ⟨rfl, hq⟩
      obtain ⟨m1, rfl⟩ := hq
      go_wp2_with fail
      refine (HS2.out _ (HX.out.drewN m1)).mono ?_; rintro e w2 ⟨rfl, hq⟩
      obtain ⟨m2, rfl⟩ := hq
      go_wp2_with fail
      go_ret
      exact ⟨rfl, HX.out.drewN _⟩
    · have HS := Lib.hid (ksame_any A C xs us a c xs.length _ (HA.out.ext HX.out) (HC.out.ext HX.out) rfl us.length rfl false (decide_eq_false h2))
      have HF := Lib.hid (show r = false by rw [← HR.out]; exact decide_eq_false (fun e => h2 (Fr.mk.inj e).2.1))
      clear h2
      go_enter Tryz.func55, Tryz.ntmps55
      go_wp2_with fail
      refine HS.out.mono ?_; rintro e w1 ⟨rfl, hq⟩
      obtain ⟨m1, rfl⟩ := hq
      go_wp2_with fail
      go_ret
      exact ⟨by rw [HF.out]; rfl, HX.out.drewN m1⟩
  · have HF := Lib.hid (show r = false by rw [← HR.out]; exact decide_eq_false (fun e => h1 (Fr.mk.inj e).1))
    have hb : (s == t) = false := beq_eq_false_iff_ne.2 h1
    go_enter Tryz.func55, Tryz.ntmps55
    go_wp2_with fail
    go_ret
    exact ⟨by rw [HF.out]; rfl, HX.out⟩

end Go.Proofs.YtifonmdcicegdaaGreat

/- ApartWords. -/
namespace Go.Proofs.YtifonmdcicegdaaGreat
open Go Go.RowKit

theorem info_words : (Tryz.prog.info? 22).map (fun i => (i.zero, i.size, i.bytes)) = some (some (.slice none 0 0), 1, 24) := by kernel_rfl

/-- a slice of words as a cell -/
def sl (A : Option Addr) (n c : Nat) : Value := .slice A n c

/-- rows of words of the call's own, told by a row of slices at gb -/
structure Rows (base k gb : Nat) (P : Nat → Option Addr) (C : Nat → Nat) (X Z : Nat → List Int) (w : World) : Prop where
  idx : ∀ j, j < k → w.cell? ⟨gb, j, none⟩ = some (.slice (P j) (X j).length (C j))
  row : ∀ j, j < k → Own w base (P j) (C j) (Z j)

theorem cell_kept' {w w' : World} {row : Option Nat} (h : w.grownBy w' row) {g j : Nat} {v : Value} (hc : w.cell? ⟨g, j, none⟩ = some v) (hne : some g ≠ row) : w'.cell? ⟨g, j, none⟩ = some v := h.cell hc hne

theorem Rows.ext {base k gb : Nat} {P : Nat → Option Addr} {C : Nat → Nat} {X Z : Nat → List Int} {w w' : World} (h : Rows base k gb P C X Z w) (e : Ext w w') : Rows base k gb P C X Z w' :=
  ⟨fun j hj => e.cell (h.idx j hj), fun j hj => (h.row j hj).ext e⟩
theorem Rows.kept {base k gb : Nat} {P : Nat → Option Addr} {C : Nat → Nat} {X Z : Nat → List Int} {w w' : World} {r : Option Nat} (h : Rows base k gb P C X Z w) (e : w.grownBy w' r) (h1 : some gb ≠ r) (h2 : ∀ j, j < k → ∀ a, P j = some a → some a.block ≠ r) : Rows base k gb P C X Z w' :=
  ⟨fun j hj => cell_kept' e (h.idx j hj) h1, fun j hj => (h.row j hj).kept e (h2 j hj)⟩
/-- one of them is written over -/
theorem Rows.turn {base k gb : Nat} {P : Nat → Option Addr} {C : Nat → Nat} {X Z : Nat → List Int} {w w' : World} (h : Rows base k gb P C X Z w) (i : Nat) (zs : List Int) (ho : Own w' base (P i) (C i) zs) (e : w.grownBy w' ((P i).map (·.block)))
    (h1 : ∀ j, j < k → ∀ a, P j = some a → a.block ≠ gb) (hi : i < k) (hap : ∀ j, j < k → j ≠ i → ∀ a b, P j = some a → P i = some b → a.block ≠ b.block) : Rows base k gb P C X (fun j => if j = i then zs else Z j) w' := by
  have hne : ∀ g, (∀ b, P i = some b → g ≠ b.block) → some g ≠ (P i).map (·.block) := fun g hg e => by
    cases hp : P i with
    | none => rw [hp] at e; cases e
    | some b => rw [hp] at e; injection e with e; exact hg b hp e
  refine ⟨fun j hj => cell_kept' e (h.idx j hj) (hne _ fun b hb e => h1 i hi b hb e.symm), fun j hj => ?_⟩
  by_cases hji : j = i
  · subst hji; simpa using ho
  · simp only [if_neg hji]
    exact (h.row j hj).kept e (fun a ha => hne _ (fun b hb => hap j hj hji a b ha hb))

set_option maxHeartbeats 2000000 in
theorem kapartW_any (w0 w : World) (k gb cb : Nat) (P : Nat → Option Addr) (C : Nat → Nat) (X : Nat → List Int) (hR : Rows w0.heap.size k gb P C X X w) (h0 : Ext w0 w) (hk : k ≤ 1000000) (hcb : k ≤ cb) (hcm : cb ≤ 9223372036854775807) (hgb : gb < w.heap.size)
    (hne : ∀ j, j < k → ∀ a, P j = some a → a.block ≠ gb) (hap : ∀ i j, i < k → j < k → i ≠ j → ∀ a b, P i = some a → P j = some b → a.block ≠ b.block) (hX : ∀ j, j < k → (X j).length ≤ 1000000 ∧ Wf (X j)) :
    Calls Tryz.prog 162 #[.slice (some ⟨gb, 0, none⟩) k cb] w fun e w' => e = .returned (.bool true) ∧ Ext w0 w' := by
  have HR := Lib.hid hR
  have H0 := Lib.hid h0
  have HG := Lib.hid hgb
  have HN := Lib.hid hne
  have HAP := Lib.hid hap
  have HXX := Lib.hid hX
  clear hR h0 hgb hne hap hX
  obtain ⟨i0, hi, hz0, hz1, hz2⟩ := info_parts info_words
  go_enter Tryz.func162, Tryz.ntmps162
  go_wp2_with (at_make; refine wpList_make_full w rfl _ _ 148 rfl w.heap.size 22 i0 (.slice none 0 0) 1 Tryz.underlying148 hi hz0 hz1 .i64 .i64 _ _ k rfl rfl rfl rfl (by rw [hz2]; omega) (by unfold maxLen; omega) (Nat.le_refl _) ?_; intro w1 hO hG)
  obtain ⟨gw, hgw⟩ : ∃ gw, gw = w.heap.size := ⟨_, rfl⟩
  obtain ⟨vs0, hvs⟩ : ∃ vs0, vs0 = (madeCells (Value.slice none 0 0).cells (k * 1)).toList := ⟨_, rfl⟩
  rw [← hvs] at hO
  rw [← hgw] at hO ⊢
  have HX1 := Lib.hid ((Ext.refl w).grownNone hG)
  have HO1 := Lib.hid hO
  have HGW := Lib.hid hgw
  have hcell : w1.heap.size > gw := by
    rcases hO.2 with ⟨h', _⟩ | ⟨g', cap', cur, h', hb, hg, _⟩
    · simp at h'
    · simp at h'
      rw [h'.1]
      exact (Array.getElem?_eq_some_iff.1 hg).1
  have HGWL := Lib.hid hcell
  clear hO hG hvs hgw hz0 hz1 hz2 hi hcell
  go_loopw [4] (fun s wr => ∃ (i : Nat) (vs : List Value) (Q : Nat → Option Addr) (D : Nat → Nat), i ≤ k ∧ s = .int .i64 i ∧ Hid (wr.ownsRow gw 22 1 (.slice (some ⟨gw, 0, none⟩) k k) k vs) ∧ Hid (∀ j, j < i → vs[j]? = some (.slice (Q j) (X j).length (D j))) ∧ Hid (∀ j, j < i → Own wr w1.heap.size (Q j) (D j) (X j)) ∧ Hid (Ext w wr) ∧ Hid (w1.heap.size ≤ wr.heap.size)) (fun s _ => k - (intOf s).toNat)
  case atStart => exact ⟨0, vs0, fun _ => none, fun _ => 0, by omega, rfl, HO1.out, fun j hj => by omega, fun j hj => by omega, HX1.out, Nat.le_refl _⟩
  case round =>
    obtain ⟨i, vs, Q, D, hik, rfl, HV, HVE, HQ, HX, HS⟩ := hrel
    by_cases hi : i < k
    · have hidx := HX.out.cell (HR.out.idx i hi)
      have HCP := Lib.hid (kcopy_any (P i) (X i) (C i) (X i).length wr ((HR.out.row i hi).rd.ext HX.out) rfl (by have := (HXX.out i hi).1; omega))
      go_wp2_with fail
      refine HCP.out.mono ?_; rintro e w2 ⟨A2, c2, rfl, h2, hx2⟩
      have HV2 := Lib.hid (HV.out.kept (hx2.by_ none) (.inr (by simp [Value.ownBlock])))
      obtain ⟨u, hu⟩ : ∃ u, vs[i]? = some u := by
        have : vs.length = k := by have := HV.out.1; omega
        exact ⟨_, List.getElem?_eq_getElem (by omega)⟩
      have hco : w2.cell? ⟨gw, i, none⟩ = some u := (HV2.out.cellAt i (by omega)).trans hu
      have hfo := HV2.out.frozenAt i
      have HX2 := Lib.hid (HX.out.trans hx2)
      have H2 := Lib.hid h2
      have HXX2 := Lib.hid hx2
      have hz2 := Lib.hid hx2.size
      have hul := Lib.hid (show i < vs.length by have := HV.out.1; omega)
      clear h2 hx2 hu
      go_wp2_with fail
      have hgw2 := HGW.out
      have hgl2 := HGWL.out
      go_roundw
      case rel => exact ⟨i + 1, vs.set i (.slice A2 (X i).length c2), fun j => if j = i then A2 else Q j, fun j => if j = i then c2 else D j, by omega, by go_num, (HV2.out.stored i _).1, fun j hj => by
          by_cases e : j = i
          · subst e; simp [hul.out]
          · simp only [if_neg e]; rw [List.getElem?_set_ne (by omega)]; exact HVE.out j (by omega), fun j hj => by
          by_cases e : j = i
          · subst e; simp only; exact (H2.out.lower HS.out).setBelow (by simpa using hgl2) _
          · simp only [if_neg e]; exact ((HQ.out j (by omega)).ext HXX2.out).setBelow (by simpa using hgl2) _, HX2.out.setCell (by simp only; omega) _, by
          have h1 := HS.out
          have h2 := hz2.out
          show _ ≤ _
          simp
          omega⟩
      case measure => simp [intOf]; omega
    · obtain rfl : i = k := by omega
      clear hi hik HX1 HO1
      have HRA := Lib.hid (HR.out.ext HX.out)
      have HRB : Hid (Rows w1.heap.size i gw Q D X X wr) := ⟨fun j hj => (HV.out.cellAt j (by omega)).trans (HVE.out j hj), HQ.out⟩
      have H0A := Lib.hid (H0.out.trans HX.out)
      have HPB := Lib.hid (show ∀ j, j < i → ∀ a, P j = some a → w0.heap.size ≤ a.block ∧ a.block < w.heap.size from fun j hj a ha => by have := HR.out.row j hj; rw [ha] at this; exact this.block)
      have HQB := Lib.hid (show ∀ j, j < i → ∀ a, Q j = some a → w1.heap.size ≤ a.block from fun j hj a ha => by have := HQ.out j hj; rw [ha] at this; exact this.block.1)
      clear HV HVE HQ HX HS HR H0
      go_wp2_with fail
      go_loopw [5] (fun s w' => ∃ (m : Nat) (Z : Nat → List Int), m ≤ i ∧ s = .int .i64 m ∧ Hid (Rows w0.heap.size i gb P C X Z w') ∧ Hid (Rows w1.heap.size i gw Q D X X w') ∧ Hid (∀ j, j < m → (X j).length ≤ (Z j).length ∧ ∀ t, t < (X j).length → nth (Z j) t = nt (nth (X j) t)) ∧ Hid (∀ j, m ≤ j → j < i → Z j = X j) ∧ Hid (Ext w0 w')) (fun s _ => i - (intOf s).toNat)
      case atStart => exact ⟨0, X, by omega, rfl, HRA.out, HRB.out, fun j hj => by omega, fun _ _ _ => rfl, H0A.out⟩
      case round =>
        clear HRA HRB H0A
        obtain ⟨m, Z, hmi, rfl, HRA, HRB, HE, HF, HX⟩ := hrel
        by_cases hm : m < i
        · have hci := HRA.out.idx m hm
          have hcw := HRB.out.idx m hm
          have hzm := HF.out m (Nat.le_refl _) hm
          have hom := HRA.out.row m hm
          rw [hzm] at hom
          have HOM := Lib.hid hom
          have HSM := Lib.hid (fun q => ksame_any (P m) (Q m) (X m) (X m) (C m) (D m) (X m).length (wr.drewN q) (HOM.out.drewN q).rd ((HRB.out.row m hm).drewN q).rd rfl (X m).length rfl true (decide_eq_true rfl))
          clear hzm hom
          go_wp2_with fail
          go_quiet ((go_at_call 160; exact Calls.quiet_of (HSM.out _)))
          go_wp2_with fail
          refine (kover_any (P m) (X m) w0.heap.size (C m) (X m).length _ (HOM.out.drewN _) rfl (HXX.out m hm).2).mono ?_; rintro e w2 ⟨zs, rfl, h1, h2, h3, h4⟩
          have HRA2 := Lib.hid ((HRA.out.ext ((Ext.refl wr).drewN nq)).turn m zs h1 h4 HN.out hm (fun j hj hne => HAP.out j m hj hm hne))
          have hgw2 := HGW.out
          have hgl2 := HGWL.out
          have HRB2 := Lib.hid ((HRB.out.ext ((Ext.refl wr).drewN nq)).kept h4 (fun e => by
            cases hp : P m with
            | none => rw [hp] at e; cases e
            | some b => rw [hp] at e; injection e with e; have h5 := (HPB.out m hm b hp).2; simp only at e; omega) (fun j hj a ha e => by
            cases hp : P m with
            | none => rw [hp] at e; cases e
            | some b => rw [hp] at e; injection e with e; have h5 := (HPB.out m hm b hp).2; have h6 := HQB.out j hj a ha; simp only at e; omega))
          have HX2 := Lib.hid ((HX.out.drewN nq).grown h4 (fun k hk => by
            cases hp : P m with
            | none => rw [hp] at hk; cases hk
            | some b => rw [hp] at hk; injection hk with hk; have h5 := (HPB.out m hm b hp).1; simp only at hk; omega))
          have HE2 := Lib.hid (show ∀ j, j < m + 1 → (X j).length ≤ (if j = m then zs else Z j).length ∧ ∀ t, t < (X j).length → nth (if j = m then zs else Z j) t = nt (nth (X j) t) from fun j hj => by
            by_cases e : j = m
            · subst e; simp only [if_true]; exact ⟨h2, h3⟩
            · simp only [if_neg e]; exact HE.out j (by omega))
          have HF2 := Lib.hid (show ∀ j, m + 1 ≤ j → j < i → (if j = m then zs else Z j) = X j from fun j hj1 hj2 => by
            rw [if_neg (by omega)]; exact HF.out j (by omega) hj2)
          clear h1 h2 h3 h4 hgw2 hgl2
          go_wp2_with fail
          go_roundw
          case rel => exact ⟨m + 1, fun j => if j = m then zs else Z j, by omega, by go_num, HRA2.out, HRB2.out, HE2.out, HF2.out, HX2.out⟩
          case measure => simp [intOf]; omega
        · obtain rfl : m = i := by omega
          clear hm hmi HF
          go_wp2_with fail
          go_loopw [6] (fun s wt => ∃ (n : Nat), n ≤ m ∧ s = .int .i64 n ∧ Hid (Rows w0.heap.size m gb P C X Z wt) ∧ Hid (Rows w1.heap.size m gw Q D X X wt) ∧ Hid (Ext w0 wt)) (fun s _ => m - (intOf s).toNat)
          case atStart => exact ⟨0, by omega, rfl, HRA.out, HRB.out, HX.out⟩
          case round =>
            clear HRA HRB HX
            obtain ⟨n, hnm, rfl, HRA, HRB, HX⟩ := hrel
            by_cases hn : n < m
            · have hlen : ((X n).length : Int) ≤ 1000000 := by have := (HXX.out n hn).1; omega
              go_wp2_with fail
              go_loopw [7] (fun s wt => ∃ (t : Nat), t ≤ (X n).length ∧ s = .int .i64 t ∧ Hid (Rows w0.heap.size m gb P C X Z wt) ∧ Hid (Rows w1.heap.size m gw Q D X X wt) ∧ Hid (Ext w0 wt)) (fun s _ => (X n).length - (intOf s).toNat)
              case atStart => exact ⟨0, by omega, rfl, HRA.out, HRB.out, HX.out⟩
              case round =>
                clear HRA HRB HX
                obtain ⟨t, htn, rfl, HRA, HRB, HX⟩ := hrel
                have hci := HRA.out.idx n hn
                by_cases ht : t < (X n).length
                · have hcw := HRB.out.idx n hn
                  obtain ⟨a, hpa, hca⟩ := (HRA.out.row n hn).rd.at_ t (by have := (HE.out n hn).1; omega)
                  obtain ⟨b, hqb, hcb'⟩ := (HRB.out.row n hn).rd.at_ t ht
                  rw [(HE.out n hn).2 t ht] at hca
                  rw [hpa] at hci
                  rw [hqb] at hcw
                  have hbn : (nt (nth (X n) t) != bits .xor .u32 (if IntKind.u32.signed = true then -1 else IntKind.u32.max) (nth (X n) t)) = false := bne_eq_false_iff_eq.2 rfl
                  clear hpa hqb
                  go_wp2_with fail
                  go_quiet (fail)
                  go_wp2_with fail
                  go_roundw
                  case rel => exact ⟨t + 1, by omega, by go_num, HRA.out.ext ((Ext.refl _).drewN nq), HRB.out.ext ((Ext.refl _).drewN nq), HX.out.drewN nq⟩
                  case measure => simp [intOf]; omega
                · obtain rfl : t = (X n).length := by omega
                  go_wp2_with fail
                  go_roundw
                  case rel => exact ⟨n + 1, by omega, by go_num, HRA.out, HRB.out, HX.out⟩
                  case measure => simp [intOf]; omega
            · obtain rfl : n = m := by omega
              go_wp2_with fail
              go_ret
              exact ⟨rfl, HX.out⟩

end Go.Proofs.YtifonmdcicegdaaGreat

