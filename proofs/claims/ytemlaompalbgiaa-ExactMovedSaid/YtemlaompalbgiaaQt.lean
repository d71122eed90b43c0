/- Texts of this claim, joined: B32 P10 B33 B34 A30 A31 F0. -/
import Derived.Test.YtemlaompalbgiaaQs
set_option linter.unusedVariables false
set_option linter.unusedSimpArgs false
set_option maxRecDepth 100000
namespace Go.Proofs.Ytemlaompalbgiaa
open Go Go.RowKit
def spanS (p : El tPort) (a : Int) : Nat → List (El tR) × Int
  | 0 => ([], 0)
  | k + 1 => if (spanS p a k).2 ≠ 0 then spanS p a k else if (atE p (a + k)).2 ≠ 0 then ([], (atE p (a + k)).2) else ((spanS p a k).1 ++ [ofFr (atE p (a + k)).1], 0)
section
variable {p : El tPort} {a b : Int} {k : Nat}
theorem sp_stay (h : (spanS p a k).2 ≠ 0) : ∀ j, spanS p a (k + j) = spanS p a k
  | 0 => rfl
  | j + 1 => by
    have ih := sp_stay h j
    show (if (spanS p a (k + j)).2 ≠ 0 then spanS p a (k + j) else _) = _
    rw [ih, if_pos h]
end
def bitsZ (n : Int) : Int := if n ≤ 0 then 0 else ((n.toNat.log2 + 1 : Nat) : Int)
theorem bits_0 {n : Int} (h : n ≤ 0) : bitsZ n = 0 := if_pos h
theorem bits_half {n : Int} (h : 0 < n) : bitsZ n = bitsZ (n / 2) + 1 := by
  obtain ⟨m, rfl⟩ : ∃ m : Nat, n = m := ⟨n.toNat, by omega⟩
  have e2 : ((m : Int) / 2) = ((m / 2 : Nat) : Int) := by omega
  rw [e2]
  unfold bitsZ
  rw [if_neg (by omega), Int.toNat_natCast]
  by_cases k : m < 2
  · obtain rfl : m = 1 := by omega
    decide
  · rw [if_neg (by omega), Int.toNat_natCast, Nat.log2_def m, if_pos (by omega)]
    omega
theorem bits_rng {n : Int} (h : n ≤ 9223372036854775807) : 0 ≤ bitsZ n ∧ bitsZ n ≤ 63 := by
  unfold bitsZ
  split
  · omega
  · rename_i k
    have : n.toNat.log2 < 63 := (Nat.log2_lt (by omega)).2 (by omega)
    omega
noncomputable def sp_lbits : Spec := { q := .un, ps := [.it .i64], rs := [.it .i64], fresh := true, pre := fun _ _ => none, post := fun _ x => ((), (bitsZ x.1, ())) }
noncomputable def iv_lbits (y : El sp_lbits.q) (x : Els sp_lbits.ps) : Nat → Option Inv := fun k => if k = 0 then some { X := Int × Nat, tm := fun i => [(0, .c (.sc (.int .i64 i.1))), (3, .c (.sc (.int .i64 i.2)))], ob := fun _ => [], n := 1, I := fun i => bitsZ i.1 + i.2 = bitsZ x.1 ∧ i.1 ≤ 9223372036854775807, μ := fun i => i.1.toNat } else none
noncomputable abbrev c_lbits : Cfg := cfgS (Try.f56).ntmps false []
def F_lbits (y : El sp_lbits.q) (x : Els sp_lbits.ps) : Prop :=
  (∃ (x_1 : Int × Nat), x_1.1 = x.1 ∧ (↑x_1.2 : Int) = (0 : Int) ∧ bitsZ x_1.1 + (↑x_1.2 : Int) = bitsZ x.1 ∧ x_1.1 ≤ (9223372036854775807 : Int)) ∧ ∀ (x_1 : Int × Nat), bitsZ x_1.1 + (↑x_1.2 : Int) = bitsZ x.1 ∧ x_1.1 ≤ (9223372036854775807 : Int) → (decide (x_1.1 > (0 : Int)) = true → ((-9223372036854775808 : Int) ≤ (↑x_1.2 : Int) + (1 : Int) ∧ (↑x_1.2 : Int) + (1 : Int) ≤ (9223372036854775807 : Int)) ∧ ((0 : Int) ≤ x_1.1 ∧ (0 : Int) < (2 : Int)) ∧ ∃ (x' : Int × Nat), x'.1 = x_1.1 / (2 : Int) ∧ (↑x'.2 : Int) = (↑x_1.2 : Int) + (1 : Int) ∧ (bitsZ x'.1 + (↑x'.2 : Int) = bitsZ x.1 ∧ x'.1 ≤ (9223372036854775807 : Int)) ∧ x'.1.toNat < x_1.1.toNat) ∧ (decide (x_1.1 > (0 : Int)) = false → ((↑x_1.2 : Int), ()) = (bitsZ x.1, ()))
theorem w_lbits (y : El sp_lbits.q) (x : Els sp_lbits.ps) : aW c_lbits (iv_lbits y x) Try.f56 sp_lbits y x = F_lbits y x := by kernel_rfl
theorem m_lbits (y : El (.un)) (x : Els [.it .i64]) (h2 : wfE (.un) y) (h3 : wfEs [.it .i64] x) : F_lbits y x := by
  unfold F_lbits
  have hx : x.1 ≤ 9223372036854775807 := h3.1.2
  refine ⟨⟨(x.1, 0), rfl, rfl, by rw [show ((0 : Nat) : Int) = 0 from rfl, Int.add_zero], hx⟩, fun i hi => ⟨fun l => ?_, fun l => ?_⟩⟩
  all_goals obtain ⟨e, hi⟩ := hi
  · have l := gtT l
    have b := bits_half l
    have r := bits_rng hi
    have r0 := bits_rng (show x.1 ≤ 9223372036854775807 from h3.1.2)
    refine ⟨by omega, ⟨by omega, by decide⟩, (i.1 / 2, i.2 + 1), rfl, rfl, ⟨?_, ?_⟩, ?_⟩
    · show bitsZ (i.1 / 2) + ((i.2 + 1 : Nat) : Int) = _
      omega
    · show i.1 / 2 ≤ _
      omega
    · show (i.1 / 2).toNat < _
      omega
  · have l := gtF l
    rw [← e, bits_0 l, Int.zero_add]
theorem fo_lbits : FnOk Try.prog 56 sp_lbits := fnOk_of (C := c_lbits) iv_lbits Try.func56 rfl (by kernel_rfl) tys_ok prims_nil mixed_ (Nat.le_refl _) rfl fun y x h1 h2 h3 h4 =>
  Eq.mpr (w_lbits y x) (m_lbits y x h2 h3)
def wordsZ (r : El tRot) (t : Int) : Int := if t < 0 ∨ 1024 < t ∨ rA r < 1 ∨ 1000 < rA r ∨ rB r < -1000 ∨ 1000 < rB r then 0 else if 200 < t ∧ (40 < rA r ∨ 40 < rB r ∨ rB r < -40) then 1000000 else t * bitsZ (rA r * rA r + rB r * rB r) / 32 + 1
section
variable {r : El tRot} {t : Int}
theorem w_1 (h : t < 0 ∨ 1024 < t ∨ rA r < 1 ∨ 1000 < rA r ∨ rB r < -1000 ∨ 1000 < rB r) : ((0 : Int), ()) = (wordsZ r t, ()) := by unfold wordsZ; rw [if_pos h]
theorem w_2 (h : ¬ (t < 0 ∨ 1024 < t ∨ rA r < 1 ∨ 1000 < rA r ∨ rB r < -1000 ∨ 1000 < rB r)) (k : 200 < t ∧ (40 < rA r ∨ 40 < rB r ∨ rB r < -40)) : ((1000000 : Int), ()) = (wordsZ r t, ()) := by unfold wordsZ; rw [if_neg h, if_pos k]
theorem w_3 (h : ¬ (t < 0 ∨ 1024 < t ∨ rA r < 1 ∨ 1000 < rA r ∨ rB r < -1000 ∨ 1000 < rB r)) (k : ¬ (200 < t ∧ (40 < rA r ∨ 40 < rB r ∨ rB r < -40))) : (t * bitsZ (rA r * rA r + rB r * rB r) / 32 + 1, ()) = (wordsZ r t, ()) := by unfold wordsZ; rw [if_neg h, if_neg k]
theorem w_c1 (a : 0 ≤ t) (b : t ≤ 1024) (c : 1 ≤ rA r) (d : rA r ≤ 1000) (e : -1000 ≤ rB r) (f : rB r ≤ 1000) : ¬ (t < 0 ∨ 1024 < t ∨ rA r < 1 ∨ 1000 < rA r ∨ rB r < -1000 ∨ 1000 < rB r) := by omega
theorem w_c2 (a : rA r ≤ 40) (b : rB r ≤ 40) (c : -40 ≤ rB r) : ¬ (200 < t ∧ (40 < rA r ∨ 40 < rB r ∨ rB r < -40)) := by omega
theorem w_c3 (a : t ≤ 200) : ¬ (200 < t ∧ (40 < rA r ∨ 40 < rB r ∨ rB r < -40)) := by omega
theorem sq_1000 {z : Int} (h : -1000 ≤ z) (k : z ≤ 1000) : 0 ≤ z * z ∧ z * z ≤ 1000000 := by
  have e : (z * z).natAbs ≤ 1000 * 1000 := by rw [Int.natAbs_mul]; exact Nat.mul_le_mul (by omega) (by omega)
  have f : 0 ≤ z * z := by
    rcases Int.le_total 0 z with p | p
    · exact Int.mul_nonneg p p
    · exact Int.mul_nonneg_of_nonpos_of_nonpos p p
  omega
theorem tb_rng {b : Int} (h : ¬ (t < 0 ∨ 1024 < t ∨ rA r < 1 ∨ 1000 < rA r ∨ rB r < -1000 ∨ 1000 < rB r)) (hb : 0 ≤ b ∧ b ≤ 63) : 0 ≤ t * b ∧ t * b ≤ 64512 := by
  refine ⟨Int.mul_nonneg (by omega) hb.1, ?_⟩
  have := Int.mul_le_mul (show t ≤ 1024 by omega) hb.2 hb.1 (show (0 : Int) ≤ 1024 by decide)
  omega
theorem words_rng (r : El tRot) (t : Int) : 0 ≤ wordsZ r t ∧ wordsZ r t ≤ 1000000 := by
  unfold wordsZ
  split
  · omega
  · rename_i h
    split
    · omega
    · have hs : rA r * rA r + rB r * rB r ≤ 9223372036854775807 := by
        have e1 : (rA r * rA r).natAbs ≤ 1000 * 1000 := by rw [Int.natAbs_mul]; exact Nat.mul_le_mul (by omega) (by omega)
        have e2 : (rB r * rB r).natAbs ≤ 1000 * 1000 := by rw [Int.natAbs_mul]; exact Nat.mul_le_mul (by omega) (by omega)
        omega
      have := tb_rng h (bits_rng hs)
      omega
end
noncomputable def sp_lwords : Spec := { q := .un, ps := [tRot, .it .i64], rs := [.it .i64], fresh := true, pre := fun _ _ => none, post := fun _ x => ((), (wordsZ x.1 x.2.1, ())) }
noncomputable def iv_lwords (y : El sp_lwords.q) (x : Els sp_lwords.ps) : Nat → Option Inv := fun _ => none
noncomputable abbrev c_lwords : Cfg := cfgS (Try.f28).ntmps false [(56, sp_lbits.prim)]
def F_lwords (y : El sp_lwords.q) (x : Els sp_lwords.ps) : Prop :=
  (fun (i21 : Int) (i11 : Int) (i121 : Int) => (decide (i21 < (0 : Int)) = true → ((0 : Int), ()) = (wordsZ x.1 i21, ())) ∧ (decide (i21 < (0 : Int)) = false → (decide (i21 > (1024 : Int)) = true → ((0 : Int), ()) = (wordsZ x.1 i21, ())) ∧ (decide (i21 > (1024 : Int)) = false → (decide (IntKind.i64.wrap i11 < (1 : Int)) = true → ((0 : Int), ()) = (wordsZ x.1 i21, ())) ∧ (decide (IntKind.i64.wrap i11 < (1 : Int)) = false → (decide (IntKind.i64.wrap i11 > (1000 : Int)) = true → ((0 : Int), ()) = (wordsZ x.1 i21, ())) ∧ (decide (IntKind.i64.wrap i11 > (1000 : Int)) = false → (decide (IntKind.i64.wrap i121 < (-1000 : Int)) = true → ((0 : Int), ()) = (wordsZ x.1 i21, ())) ∧ (decide (IntKind.i64.wrap i121 < (-1000 : Int)) = false → (decide (IntKind.i64.wrap i121 > (1000 : Int)) = true → ((0 : Int), ()) = (wordsZ x.1 i21, ())) ∧ (decide (IntKind.i64.wrap i121 > (1000 : Int)) = false → (decide (i21 > (200 : Int)) = true → (decide (IntKind.i64.wrap i11 > (40 : Int)) = true → ((1000000 : Int), ()) = (wordsZ x.1 i21, ())) ∧ (decide (IntKind.i64.wrap i11 > (40 : Int)) = false → (decide (IntKind.i64.wrap i121 > (40 : Int)) = true → ((1000000 : Int), ()) = (wordsZ x.1 i21, ())) ∧ (decide (IntKind.i64.wrap i121 > (40 : Int)) = false → (decide (IntKind.i64.wrap i121 < (-40 : Int)) = true → ((1000000 : Int), ()) = (wordsZ x.1 i21, ())) ∧ (decide (IntKind.i64.wrap i121 < (-40 : Int)) = false → ((-9223372036854775808 : Int) ≤ IntKind.i64.wrap i11 * IntKind.i64.wrap i11 ∧ IntKind.i64.wrap i11 * IntKind.i64.wrap i11 ≤ (9223372036854775807 : Int)) ∧ ((-9223372036854775808 : Int) ≤ IntKind.i64.wrap i121 * IntKind.i64.wrap i121 ∧ IntKind.i64.wrap i121 * IntKind.i64.wrap i121 ≤ (9223372036854775807 : Int)) ∧ ((-9223372036854775808 : Int) ≤ IntKind.i64.wrap i11 * IntKind.i64.wrap i11 + IntKind.i64.wrap i121 * IntKind.i64.wrap i121 ∧ IntKind.i64.wrap i11 * IntKind.i64.wrap i11 + IntKind.i64.wrap i121 * IntKind.i64.wrap i121 ≤ (9223372036854775807 : Int)) ∧ ∀ (r : Ro [Ty.it IntKind.i64]), r = ((), bitsZ (IntKind.i64.wrap i11 * IntKind.i64.wrap i11 + IntKind.i64.wrap i121 * IntKind.i64.wrap i121), ()) → ((-9223372036854775808 : Int) ≤ i21 * r.2.1 ∧ i21 * r.2.1 ≤ (9223372036854775807 : Int)) ∧ ((0 : Int) ≤ i21 * r.2.1 ∧ (0 : Int) < (32 : Int)) ∧ ((-9223372036854775808 : Int) ≤ i21 * r.2.1 / (32 : Int) + (1 : Int) ∧ i21 * r.2.1 / (32 : Int) + (1 : Int) ≤ (9223372036854775807 : Int)) ∧ (i21 * r.2.1 / (32 : Int) + (1 : Int), ()) = (wordsZ x.1 i21, ()))))) ∧ (decide (i21 > (200 : Int)) = false → ((-9223372036854775808 : Int) ≤ IntKind.i64.wrap i11 * IntKind.i64.wrap i11 ∧ IntKind.i64.wrap i11 * IntKind.i64.wrap i11 ≤ (9223372036854775807 : Int)) ∧ ((-9223372036854775808 : Int) ≤ IntKind.i64.wrap i121 * IntKind.i64.wrap i121 ∧ IntKind.i64.wrap i121 * IntKind.i64.wrap i121 ≤ (9223372036854775807 : Int)) ∧ ((-9223372036854775808 : Int) ≤ IntKind.i64.wrap i11 * IntKind.i64.wrap i11 + IntKind.i64.wrap i121 * IntKind.i64.wrap i121 ∧ IntKind.i64.wrap i11 * IntKind.i64.wrap i11 + IntKind.i64.wrap i121 * IntKind.i64.wrap i121 ≤ (9223372036854775807 : Int)) ∧ ∀ (r : Ro [Ty.it IntKind.i64]), r = ((), bitsZ (IntKind.i64.wrap i11 * IntKind.i64.wrap i11 + IntKind.i64.wrap i121 * IntKind.i64.wrap i121), ()) → ((-9223372036854775808 : Int) ≤ i21 * r.2.1 ∧ i21 * r.2.1 ≤ (9223372036854775807 : Int)) ∧ ((0 : Int) ≤ i21 * r.2.1 ∧ (0 : Int) < (32 : Int)) ∧ ((-9223372036854775808 : Int) ≤ i21 * r.2.1 / (32 : Int) + (1 : Int) ∧ i21 * r.2.1 / (32 : Int) + (1 : Int) ≤ (9223372036854775807 : Int)) ∧ (i21 * r.2.1 / (32 : Int) + (1 : Int), ()) = (wordsZ x.1 i21, ()))))))))) x.2.1 x.1.1 x.1.2.1
theorem w_lwords (y : El sp_lwords.q) (x : Els sp_lwords.ps) : aW c_lwords (iv_lwords y x) Try.f28 sp_lwords y x = F_lwords y x := by kernel_rfl
theorem m_lwords (y : El (.un)) (x : Els [tRot, .it .i64]) (h2 : wfE (.un) y) (h3 : wfEs [tRot, .it .i64] x) : F_lwords y x := by
  unfold F_lwords
  dsimp only
  simp only [wrap64_32 (i32_rng h3.1.1), wrap64_32 (i32_rng h3.1.2.1)]
  refine ⟨fun a => w_1 (.inl (ltT a)), fun a => ⟨fun b => w_1 (.inr (.inl (gtT b))), fun b => ⟨fun c => w_1 (.inr (.inr (.inl (ltT c)))), fun c => ⟨fun d => w_1 (.inr (.inr (.inr (.inl (gtT d))))), fun d => ⟨fun e => w_1 (.inr (.inr (.inr (.inr (.inl (ltT e)))))), fun e => ⟨fun f => w_1 (.inr (.inr (.inr (.inr (.inr (gtT f)))))), fun f => ?_⟩⟩⟩⟩⟩⟩
  have c1 := w_c1 (r := x.1) (ltF a) (gtF b) (ltF c) (gtF d) (ltF e) (gtF f)
  have s1 := sq_1000 (z := x.1.1) (Int.le_trans (by decide) (ltF c)) (gtF d)
  have s2 := sq_1000 (z := x.1.2.1) (ltF e) (gtF f)
  refine ⟨fun g => ⟨fun h => w_2 c1 ⟨gtT g, .inl (gtT h)⟩, fun h => ⟨fun i => w_2 c1 ⟨gtT g, .inr (.inl (gtT i))⟩, fun i => ⟨fun j => w_2 c1 ⟨gtT g, .inr (.inr (ltT j))⟩, fun j => ?_⟩⟩⟩, fun g => ?_⟩
  · have c2 := w_c2 (r := x.1) (t := x.2.1) (gtF h) (gtF i) (ltF j)
    refine ⟨⟨by omega, by omega⟩, ⟨by omega, by omega⟩, ⟨by omega, by omega⟩, ?_⟩
    rintro _ rfl
    have tb := tb_rng (r := x.1) (t := x.2.1) (b := bitsZ (x.1.1 * x.1.1 + x.1.2.1 * x.1.2.1)) c1 (bits_rng (Int.le_trans (Int.add_le_add s1.2 s2.2) (by decide)))
    dsimp only
    exact ⟨⟨Int.le_trans (by decide) tb.1, Int.le_trans tb.2 (by decide)⟩, ⟨tb.1, by decide⟩, ⟨by have := Int.ediv_nonneg tb.1 (show (0 : Int) ≤ 32 by decide); omega, by have := Int.ediv_le_self 32 tb.1; omega⟩, w_3 (r := x.1) c1 c2⟩
  · have c2 := w_c3 (r := x.1) (gtF g)
    refine ⟨⟨by omega, by omega⟩, ⟨by omega, by omega⟩, ⟨by omega, by omega⟩, ?_⟩
    rintro _ rfl
    have tb := tb_rng (r := x.1) (t := x.2.1) (b := bitsZ (x.1.1 * x.1.1 + x.1.2.1 * x.1.2.1)) c1 (bits_rng (Int.le_trans (Int.add_le_add s1.2 s2.2) (by decide)))
    dsimp only
    exact ⟨⟨Int.le_trans (by decide) tb.1, Int.le_trans tb.2 (by decide)⟩, ⟨tb.1, by decide⟩, ⟨by have := Int.ediv_nonneg tb.1 (show (0 : Int) ≤ 32 by decide); omega, by have := Int.ediv_le_self 32 tb.1; omega⟩, w_3 (r := x.1) c1 c2⟩
theorem fo_lwords : FnOk Try.prog 28 sp_lwords := fnOk_of (C := c_lwords) iv_lwords Try.func28 rfl (by kernel_rfl) tys_ok (prims_cons (spec_prim fo_lbits) prims_nil) mixed_ (Nat.le_refl _) rfl fun y x h1 h2 h3 h4 =>
  Eq.mpr (w_lwords y x) (m_lwords y x h2 h3)
def wsum (l : List (El tTide)) (t : Int) : Nat → Int
  | 0 => 0
  | i + 1 => wsum l t i + wordsZ (tdAt l i).2.1 t
def workZ (p : El tPort) (t : Int) : Int := if 40 < p.2.2.1.length then 0 else p.2.2.1.length * wsum p.2.2.1 t p.2.2.1.length * wsum p.2.2.1 t p.2.2.1.length
theorem wsum_rng (l : List (El tTide)) (t : Int) : ∀ i, 0 ≤ wsum l t i ∧ wsum l t i ≤ 1000000 * i
  | 0 => ⟨Int.le_refl _, by show (0 : Int) ≤ 1000000 * ((0 : Nat) : Int); decide⟩
  | i + 1 => by
    have ih := wsum_rng l t i
    have w := words_rng (tdAt l i).2.1 t
    have e : wsum l t (i + 1) = wsum l t i + wordsZ (tdAt l i).2.1 t := rfl
    rw [e]
    omega
theorem wk_rng {n s : Int} (hn : 0 ≤ n ∧ n ≤ 40) (hs : 0 ≤ s ∧ s ≤ 40000000) : (0 ≤ n * s ∧ n * s ≤ 1600000000) ∧ 0 ≤ n * s * s ∧ n * s * s ≤ 64000000000000000 := by
  have a := Int.mul_nonneg hn.1 hs.1
  have b := Int.mul_le_mul hn.2 hs.2 hs.1 (show (0 : Int) ≤ 40 by decide)
  have c := Int.mul_nonneg a hs.1
  have d := Int.mul_le_mul (show n * s ≤ 1600000000 by omega) hs.2 hs.1 (show (0 : Int) ≤ 1600000000 by decide)
  omega
noncomputable def sp_lWork : Spec := { q := .un, ps := [tPort, .it .i64], rs := [.it .i64], fresh := true, pre := fun _ _ => none, post := fun _ x => ((), (workZ x.1 x.2.1, ())) }
noncomputable def iv_lWork (y : El sp_lWork.q) (x : Els sp_lWork.ps) : Nat → Option Inv := fun k => if k = 0 then some { X := Nat, tm := fun i => [(1, .c (.sc (.int .i64 x.2.1))), (2, .c (.pv 1 0)), (5, .c (.sc (.int .i64 (wsum x.1.2.2.1 x.2.1 i)))), (6, .c (.sc (.int .i64 i)))], ob := fun i => [(1, .var (cel tPort x.1))], n := 2, I := fun i => i ≤ x.1.2.2.1.length, μ := fun i => x.1.2.2.1.length - i } else none
noncomputable abbrev c_lWork : Cfg := cfgS (Try.f8).ntmps false [(28, sp_lwords.prim)]
def F_lWork (y : El sp_lWork.q) (x : Els sp_lWork.ps) : Prop :=
  (decide ((x.1.2.2.1.length : Int) > (40 : Int)) = true → ((0 : Int), ()) = (workZ x.1 x.2.1, ())) ∧ (decide ((x.1.2.2.1.length : Int) > (40 : Int)) = false → (∃ (x_1 : Nat), x.2.1 = x.2.1 ∧ wsum x.1.2.2.1 x.2.1 x_1 = (0 : Int) ∧ (↑x_1 : Int) = (0 : Int) ∧ x.1.1 = x.1.1 ∧ x.1.2.1.1 = x.1.2.1.1 ∧ x.1.2.1.2.1 = x.1.2.1.2.1 ∧ x.1.2.1.2.2.1 = x.1.2.1.2.2.1 ∧ x.1.2.2.1 = x.1.2.2.1 ∧ x_1.le (List.length x.1.2.2.1)) ∧ ∀ (x_1 : Nat), x_1.le (List.length x.1.2.2.1) → (decide ((↑x_1 : Int) < (x.1.2.2.1.length : Int)) = true → ((0 : Int) ≤ (↑x_1 : Int) ∧ (↑x_1 : Int) < (x.1.2.2.1.length : Int)) ∧ ∀ (r : Ro [Ty.it IntKind.i64]), r = ((), wordsZ (List.getD x.1.2.2.1 (↑x_1 : Int).toNat (dfl tTide)).2.1 x.2.1, ()) → ((-9223372036854775808 : Int) ≤ wsum x.1.2.2.1 x.2.1 x_1 + r.2.1 ∧ wsum x.1.2.2.1 x.2.1 x_1 + r.2.1 ≤ (9223372036854775807 : Int)) ∧ ((-9223372036854775808 : Int) ≤ (↑x_1 : Int) + (1 : Int) ∧ (↑x_1 : Int) + (1 : Int) ≤ (9223372036854775807 : Int)) ∧ ∃ (x' : Nat), x.2.1 = x.2.1 ∧ wsum x.1.2.2.1 x.2.1 x' = wsum x.1.2.2.1 x.2.1 x_1 + r.2.1 ∧ (↑x' : Int) = (↑x_1 : Int) + (1 : Int) ∧ x.1.1 = x.1.1 ∧ x.1.2.1.1 = x.1.2.1.1 ∧ x.1.2.1.2.1 = x.1.2.1.2.1 ∧ x.1.2.1.2.2.1 = x.1.2.1.2.2.1 ∧ x.1.2.2.1 = x.1.2.2.1 ∧ x'.le (List.length x.1.2.2.1) ∧ List.length x.1.2.2.1 - x' < List.length x.1.2.2.1 - x_1) ∧ (decide ((↑x_1 : Int) < (x.1.2.2.1.length : Int)) = false → ((-9223372036854775808 : Int) ≤ (x.1.2.2.1.length : Int) * wsum x.1.2.2.1 x.2.1 x_1 ∧ (x.1.2.2.1.length : Int) * wsum x.1.2.2.1 x.2.1 x_1 ≤ (9223372036854775807 : Int)) ∧ ((-9223372036854775808 : Int) ≤ (x.1.2.2.1.length : Int) * wsum x.1.2.2.1 x.2.1 x_1 * wsum x.1.2.2.1 x.2.1 x_1 ∧ (x.1.2.2.1.length : Int) * wsum x.1.2.2.1 x.2.1 x_1 * wsum x.1.2.2.1 x.2.1 x_1 ≤ (9223372036854775807 : Int)) ∧ ((x.1.2.2.1.length : Int) * wsum x.1.2.2.1 x.2.1 x_1 * wsum x.1.2.2.1 x.2.1 x_1, ()) = (workZ x.1 x.2.1, ())))
theorem w_lWork (y : El sp_lWork.q) (x : Els sp_lWork.ps) : aW c_lWork (iv_lWork y x) Try.f8 sp_lWork y x = F_lWork y x := by kernel_rfl
theorem m_lWork (y : El (.un)) (x : Els [tPort, .it .i64]) (h2 : wfE (.un) y) (h3 : wfEs [tPort, .it .i64] x) : F_lWork y x := by
  unfold F_lWork
  refine ⟨fun h => ?_, fun h => ⟨⟨0, rfl, rfl, rfl, rfl, rfl, rfl, rfl, rfl, Nat.zero_le _⟩, fun i hi => ⟨fun l => ?_, fun l => ?_⟩⟩⟩
  · have h := gtT h
    unfold workZ
    rw [if_pos (by omega)]
  · have hi : i ≤ x.1.2.2.1.length := hi
    have h := gtF h
    have l := ltT l
    have il : i + 1 ≤ x.1.2.2.1.length := by omega
    refine ⟨⟨by omega, l⟩, ?_⟩
    rintro _ rfl
    have w1 : 0 ≤ wordsZ (List.getD x.1.2.2.1 ((i : Int)).toNat (dfl tTide)).2.1 x.2.1 ∧ wordsZ (List.getD x.1.2.2.1 ((i : Int)).toNat (dfl tTide)).2.1 x.2.1 ≤ 1000000 := words_rng _ _
    have w2 := wsum_rng x.1.2.2.1 x.2.1 i
    dsimp only
    refine ⟨⟨by omega, by omega⟩, by omega, i + 1, ?_⟩
    and_intros
    all_goals first | rfl | exact il | omega
  · have hi : i ≤ x.1.2.2.1.length := hi
    have h := gtF h
    have l := ltF l
    have ei : i = x.1.2.2.1.length := by omega
    rw [ei]
    have w2 := wsum_rng x.1.2.2.1 x.2.1 x.1.2.2.1.length
    obtain ⟨k1, k2⟩ := wk_rng (n := x.1.2.2.1.length) (s := wsum x.1.2.2.1 x.2.1 x.1.2.2.1.length) ⟨by omega, by omega⟩ ⟨w2.1, by omega⟩
    refine ⟨⟨Int.le_trans (by decide) k1.1, Int.le_trans k1.2 (by decide)⟩, ⟨Int.le_trans (by decide) k2.1, Int.le_trans k2.2 (by decide)⟩, ?_⟩
    unfold workZ
    rw [if_neg (by omega)]
theorem fo_lWork : FnOk Try.prog 8 sp_lWork := fnOk_of (C := c_lWork) iv_lWork Try.func8 rfl (by kernel_rfl) tys_ok (prims_cons (spec_prim fo_lwords) prims_nil) mixed_ (Nat.le_refl _) rfl fun y x h1 h2 h3 h4 =>
  Eq.mpr (w_lWork y x) (m_lWork y x h2 h3)
section
variable {p : El tPort} {a b : Int}
end
end Go.Proofs.Ytemlaompalbgiaa
namespace Go.Proofs.Ytemlaompalbgiaa
open Go
def sm (q : Rat) : Bool := decide (q.num.natAbs < 4294967296) && decide (q.den < 4294967296)
theorem wd_one_len {n : Nat} (h : n < 4294967296) : (wd n).length ≤ 1 := wd_len_le n 1 (by show (n : Int) < 4294967296; omega)
theorem sm_lng {q : Rat} (h : sm q = true) : ¬ lng q = true := by
  unfold sm at h
  simp only [Bool.and_eq_true, decide_eq_true_eq] at h
  exact lng_of (Nat.le_trans (wd_one_len h.1) (by decide)) (Nat.le_trans (wd_one_len h.2) (by decide))
theorem fchk_s {q : Rat} (h : sm q = true) : fchk (enc q) = 0 := fchk_enc q (sm_lng h)
section
variable {p q r : Rat}
theorem fadd_s (h : (sm p && sm q && sm r) = true) (e : p + q = r) : fadd (enc p) (enc q) = (enc r, 0) := by
  simp only [Bool.and_eq_true] at h
  rw [fadd_enc (sm_lng h.1.1) (sm_lng h.1.2), e, tell_ok (sm_lng h.2)]
theorem fsub_s (h : (sm p && sm q && sm r) = true) (e : p - q = r) : fsub (enc p) (enc q) = (enc r, 0) := by
  simp only [Bool.and_eq_true] at h
  show both (enc p) (enc q) _ = _
  rw [both_ok (sm_lng h.1.1) (sm_lng h.1.2), e, tell_ok (sm_lng h.2)]
theorem fmul_s (h : (sm p && sm q && sm r) = true) (e : p * q = r) : fmul (enc p) (enc q) = (enc r, 0) := by
  simp only [Bool.and_eq_true] at h
  show both (enc p) (enc q) _ = _
  rw [both_ok (sm_lng h.1.1) (sm_lng h.1.2), e, tell_ok (sm_lng h.2)]
theorem fsmall_s {n d : Int} (h0 : d ≠ 0) (h : sm r = true) (e : mkRat (sg (decide (n < 0) != decide (d < 0)) n.natAbs) d.natAbs = r) : fsmall n d = (enc r, 0) := by
  unfold fsmall
  rw [if_neg h0, e, tell_ok (sm_lng h)]
end
def ge (p q : Rat) : Ga := ⟨enc p, enc q⟩
theorem gchk_s {p q : Rat} (h : (sm p && sm q) = true) : gchk (ge p q) = 0 := by
  simp only [Bool.and_eq_true] at h
  unfold gchk fchk2 ge
  rw [fchk_s h.1, fchk_s h.2]
  rfl
theorem gchk2_s {p q r s : Rat} (h : (sm p && sm q) = true) (k : (sm r && sm s) = true) : gchk2 (ge p q) (ge r s) = 0 := by
  unfold gchk2
  rw [gchk_s h, gchk_s k]
  rfl
section
variable {a b c d u v x y r i : Rat}
theorem gadd_s (h : (sm a && sm b && (sm c && sm d) && (sm r && sm i)) = true) (e1 : a + c = r) (e2 : b + d = i) : gadd (ge a b) (ge c d) = (ge r i, 0) := by
  simp only [Bool.and_eq_true] at h
  obtain ⟨⟨⟨h1, h2⟩, h3, h4⟩, h5, h6⟩ := h
  have g : gchk2 (ge a b) (ge c d) = 0 := gchk2_s (by rw [h1, h2]; rfl) (by rw [h3, h4]; rfl)
  have f1 := fadd_s (p := a) (q := c) (r := r) (by rw [h1, h3, h5]; rfl) e1
  have f2 := fadd_s (p := b) (q := d) (r := i) (by rw [h2, h4, h6]; rfl) e2
  rw [gadd_4 g (by show (fadd (enc a) (enc c)).2 = 0; rw [f1]) (by show (fadd (enc b) (enc d)).2 = 0; rw [f2])]
  show ((⟨(fadd (enc a) (enc c)).1, (fadd (enc b) (enc d)).1⟩ : Ga), (0 : Int)) = _
  rw [f1, f2]
  rfl
theorem gmul_s (h : (sm a && sm b && (sm c && sm d) && (sm u && sm v && (sm x && sm y)) && (sm r && sm i)) = true) (e1 : a * c = u) (e2 : b * d = v) (e3 : u - v = r) (e4 : a * d = x) (e5 : b * c = y) (e6 : x + y = i) : gmul (ge a b) (ge c d) = (ge r i, 0) := by
  simp only [Bool.and_eq_true] at h
  obtain ⟨⟨⟨⟨h1, h2⟩, h3, h4⟩, ⟨h5, h6⟩, h7, h8⟩, h9, h10⟩ := h
  have g : gchk2 (ge a b) (ge c d) = 0 := gchk2_s (by rw [h1, h2]; rfl) (by rw [h3, h4]; rfl)
  have f1 := fmul_s (p := a) (q := c) (r := u) (by rw [h1, h3, h5]; rfl) e1
  have f2 := fmul_s (p := b) (q := d) (r := v) (by rw [h2, h4, h6]; rfl) e2
  have f3 := fsub_s (p := u) (q := v) (r := r) (by rw [h5, h6, h9]; rfl) e3
  have f4 := fmul_s (p := a) (q := d) (r := x) (by rw [h1, h4, h7]; rfl) e4
  have f5 := fmul_s (p := b) (q := c) (r := y) (by rw [h2, h3, h8]; rfl) e5
  have f6 := fadd_s (p := x) (q := y) (r := i) (by rw [h7, h8, h10]; rfl) e6
  have p1 : wpair 0 (enc a) (enc c) (enc b) (enc d) true = (enc r, 0) := by
    rw [wpair_3 (by rw [f1]) (by rw [f2]), f1, f2, f3]
  have p2 : wpair 0 (enc a) (enc d) (enc b) (enc c) false = (enc i, 0) := by
    rw [wpair_4 (by rw [f4]) (by rw [f5]), f4, f5, f6]
  have q1 : wpair 0 (ge a b).re (ge c d).re (ge a b).im (ge c d).im true = (enc r, 0) := p1
  have q2 : wpair 0 (ge a b).re (ge c d).im (ge a b).im (ge c d).re false = (enc i, 0) := p2
  rw [gmul_4 g (by rw [q1]) (by rw [q2]), q1, q2]
  rfl
end
end Go.Proofs.Ytemlaompalbgiaa
namespace Go.Proofs.Ytemlaompalbgiaa
open Go Go.RowKit
def pickZ (a n : Int) : Int := a % n
theorem pick_law (a n : Int) (h : 0 < n) (k : n ≤ 4611686018427387904) : n ≠ 0 ∧ (decide (Int.tmod a n < 0) = true → (-9223372036854775808 ≤ Int.tmod a n + n ∧ Int.tmod a n + n ≤ 9223372036854775807) ∧ (Int.tmod a n + n, ()) = (pickZ a n, ())) ∧ (decide (Int.tmod a n < 0) = false → (Int.tmod a n, ()) = (pickZ a n, ())) := by
  have e := @Int.tmod_eq_emod a n
  have m0 := Int.emod_nonneg a (show n ≠ 0 by omega)
  have m1 := Int.emod_lt_of_pos a h
  have ea : ((n.natAbs : Nat) : Int) = n := by omega
  refine ⟨by omega, fun l => ?_, fun l => ?_⟩
  · have l := ltT l
    unfold pickZ
    split at e
    · simp only [Int.natCast_zero, Int.sub_zero] at e
      omega
    · exact ⟨by omega, by rw [show Int.tmod a n + n = a % n by omega]⟩
  · have l := ltF l
    unfold pickZ
    split at e
    · simp only [Int.natCast_zero, Int.sub_zero] at e
      rw [e]
    · rw [show Int.tmod a n = a % n by omega]
noncomputable def sp_kPick : Spec := { q := .un, ps := [.it .i64, .it .i64], rs := [.it .i64], fresh := true, pre := fun _ x => some (0 < (x.2.1 : Int) ∧ (x.2.1 : Int) ≤ 4611686018427387904), post := fun _ x => ((), (pickZ x.1 x.2.1, ())) }
noncomputable def iv_kPick (y : El sp_kPick.q) (x : Els sp_kPick.ps) : Nat → Option Inv := fun _ => none
noncomputable abbrev c_kPick : Cfg := cfgS (Try.f7).ntmps false []
def F_kPick (y : El sp_kPick.q) (x : Els sp_kPick.ps) : Prop :=
  (fun (i1 : Int) (i21 : Int) => i21 ≠ (0 : Int) ∧ (decide (Int.tmod i1 i21 < (0 : Int)) = true → ((-9223372036854775808 : Int) ≤ Int.tmod i1 i21 + i21 ∧ Int.tmod i1 i21 + i21 ≤ (9223372036854775807 : Int)) ∧ (Int.tmod i1 i21 + i21, ()) = (pickZ i1 i21, ())) ∧ (decide (Int.tmod i1 i21 < (0 : Int)) = false → (Int.tmod i1 i21, ()) = (pickZ i1 i21, ()))) x.1 x.2.1
theorem w_kPick (y : El sp_kPick.q) (x : Els sp_kPick.ps) : aW c_kPick (iv_kPick y x) Try.f7 sp_kPick y x = F_kPick y x := by kernel_rfl
theorem m_kPick (y : El (.un)) (x : Els [.it .i64, .it .i64]) (h2 : wfE (.un) y) (h3 : wfEs [.it .i64, .it .i64] x) (h4 : 0 < (x.2.1 : Int) ∧ (x.2.1 : Int) ≤ 4611686018427387904) : F_kPick y x := by
  unfold F_kPick
  dsimp only
  exact pick_law x.1 x.2.1 h4.1 h4.2
theorem fo_kPick : FnOk Try.prog 7 sp_kPick := fnOk_of (C := c_kPick) iv_kPick Try.func7 rfl (by kernel_rfl) tys_ok prims_nil mixed_ (Nat.le_refl _) rfl fun y x h1 h2 h3 h4 =>
  Eq.mpr (w_kPick y x) (m_kPick y x h2 h3 h4)
noncomputable def sp_osmall : Spec := { q := .un, ps := [.it .i64, .it .i64], rs := [tR], fresh := true, pre := fun _ _ => none, post := fun _ x => ((), (ofFr (fsmall x.1 x.2.1).1, ())) }
noncomputable def iv_osmall (y : El sp_osmall.q) (x : Els sp_osmall.ps) : Nat → Option Inv := fun _ => none
noncomputable abbrev c_osmall : Cfg := cfgS (Try.f24).ntmps false [(38, sp_rSmall.prim)]
def F_osmall (y : El sp_osmall.q) (x : Els sp_osmall.ps) : Prop :=
  ∀ (r : Ro [tR, Ty.it IntKind.i64]), r = pR (fsmall x.1 x.2.1) → (r.2.1, ()) = (ofFr (fsmall x.1 x.2.1).1, ())
theorem w_osmall (y : El sp_osmall.q) (x : Els sp_osmall.ps) : aW c_osmall (iv_osmall y x) Try.f24 sp_osmall y x = F_osmall y x := by kernel_rfl
theorem m_osmall (y : El (.un)) (x : Els [.it .i64, .it .i64]) (h2 : wfE (.un) y) (h3 : wfEs [.it .i64, .it .i64] x) : F_osmall y x := by
  unfold F_osmall
  rintro _ rfl
  rfl
theorem fo_osmall : FnOk Try.prog 24 sp_osmall := fnOk_of (C := c_osmall) iv_osmall Try.func24 rfl (by kernel_rfl) tys_ok (prims_cons (spec_prim fo_rSmall) prims_nil) mixed_ (Nat.le_refl _) rfl fun y x h1 h2 h3 h4 =>
  Eq.mpr (w_osmall y x) (m_osmall y x h2 h3)
def exT : El tTide := (⟨#[77, 50]⟩, (2, 1, ()), ofGa ⟨(fsmall 5 1).1, (fsmall 0 1).1⟩, ())
def exP : El tPort := (⟨#[72, 117, 108, 108]⟩, ofFr (fsmall 1 2).1, [exT], ())
noncomputable def sp_oexample : Spec := { q := .un, ps := [], rs := [tPort], fresh := true, pre := fun _ _ => none, post := fun _ x => ((), (exP, ())) }
noncomputable def iv_oexample (y : El sp_oexample.q) (x : Els sp_oexample.ps) : Nat → Option Inv := fun _ => none
noncomputable abbrev c_oexample : Cfg := cfgS (Try.f23).ntmps false [(24, sp_osmall.prim), (14, sp_gInt.prim)]
def F_oexample (y : El sp_oexample.q) (x : Els sp_oexample.ps) : Prop :=
  ∀ (r : Ro [tR]), r = ((), ofFr (fsmall (1 : Int) (2 : Int)).1, ()) → ∀ (r_1 : Ro [tG]), r_1 = ((), ofGa { re := (fsmall (5 : Int) (1 : Int)).1, im := (fsmall (0 : Int) (1 : Int)).1 }, ()) → (({ data := #[(72 : UInt8), (117 : UInt8), (108 : UInt8), (108 : UInt8)] }, r.2.1, [({ data := #[(77 : UInt8), (50 : UInt8)] }, ((2 : Int), (1 : Int), ()), r_1.2)], ()), ()) = (exP, ())
theorem w_oexample (y : El sp_oexample.q) (x : Els sp_oexample.ps) : aW c_oexample (iv_oexample y x) Try.f23 sp_oexample y x = F_oexample y x := by kernel_rfl
theorem m_oexample (y : El (.un)) (x : Els []) (h2 : wfE (.un) y) (h3 : wfEs [] x) : F_oexample y x := by
  unfold F_oexample
  rintro _ rfl _ rfl
  rfl
theorem fo_oexample : FnOk Try.prog 23 sp_oexample := fnOk_of (C := c_oexample) iv_oexample Try.func23 rfl (by kernel_rfl) tys_ok (prims_cons (spec_prim fo_osmall) (prims_cons (spec_prim fo_gInt) prims_nil)) mixed_ (Nat.le_refl _) rfl fun y x h1 h2 h3 h4 =>
  Eq.mpr (w_oexample y x) (m_oexample y x h2 h3)
theorem s_12 : fsmall 1 2 = (enc (1/2), 0) := fsmall_s (by decide) (by decide +kernel) (by decide +kernel)
theorem s_50 : fsmall 5 1 = (enc 5, 0) := fsmall_s (by decide) (by decide +kernel) (by decide +kernel)
theorem one0_eq : one0 = enc 0 := enc_zero.symm
theorem exT_eq : exT = (⟨#[77, 50]⟩, (2, 1, ()), ofGa (ge 5 0), ()) := by unfold exT; rw [s_50, fsmall_nought_]; rfl
theorem exP_eq : exP = (⟨#[72, 117, 108, 108]⟩, ofFr (enc (1/2)), [(⟨#[77, 50]⟩, (2, 1, ()), ofGa (ge 5 0), ())], ()) := by unfold exP; rw [exT_eq, s_12]
theorem exP_ok : portI exP = (0, 0) := by
  rw [exP_eq]
  unfold portI
  have n1 : nameS ⟨#[72, 117, 108, 108]⟩ = true := by decide +kernel
  have n2 : nameS ⟨#[77, 50]⟩ = true := by decide +kernel
  have r1 : rotC ((2, 1, ()) : El tRot) = 0 := by decide +kernel
  have g1 : gchk (ge 5 0) = 0 := gchk_s (by decide +kernel)
  have t1 : tchk ((⟨#[77, 50]⟩, (2, 1, ()), ofGa (ge 5 0), ()) : El tTide) = 0 := by
    unfold tchk
    rw [if_neg (by rw [n2]; decide), if_neg (by rw [r1]; decide)]
    exact g1
  unfold pcS
  dsimp only
  rw [if_neg (by rw [n1]; decide), if_neg (by rw [show toFr (ofFr (enc (1/2))) = enc (1/2) from rfl, fchk_s (by decide +kernel)]; decide), if_neg (by decide)]
  show pcF _ _ 0 1 = _
  rw [pcF_next (by exact t1) (by rfl)]
  rfl
theorem exP_wrong {t : Int} (h : tickE t = 0) : wrongE exP t = 0 := by
  unfold wrongE
  rw [exP_ok, if_neg (by decide), h]
theorem rp_1 : rpow 2 1 1 = ge (3/5) (4/5) := by
  show (⟨enc (mkRat (gpow 2 1 2).1 (nrmR 2 1 ^ 1).toNat), enc (mkRat (gpow 2 1 2).2 (nrmR 2 1 ^ 1).toNat)⟩ : Ga) = _
  rw [show mkRat (gpow 2 1 2).1 (nrmR 2 1 ^ 1).toNat = 3/5 by decide +kernel, show mkRat (gpow 2 1 2).2 (nrmR 2 1 ^ 1).toNat = 4/5 by decide +kernel]
  rfl
theorem rp_2 : rpow 2 1 2 = ge (-7/25) (24/25) := by
  show (⟨enc (mkRat (gpow 2 1 4).1 (nrmR 2 1 ^ 2).toNat), enc (mkRat (gpow 2 1 4).2 (nrmR 2 1 ^ 2).toNat)⟩ : Ga) = _
  rw [show mkRat (gpow 2 1 4).1 (nrmR 2 1 ^ 2).toNat = -7/25 by decide +kernel, show mkRat (gpow 2 1 4).2 (nrmR 2 1 ^ 2).toNat = 24/25 by decide +kernel]
  rfl
theorem pR_1 : powR ((2, 1, ()) : El tRot) 1 = (ofGa (ge (3/5) (4/5)), 0, ()) := by
  rw [← pw_3 (by decide +kernel) (by decide)]
  exact congrArg (fun g => ((ofGa g, 0, ()) : El tG × Int × Unit)) rp_1
theorem pR_2 : powR ((2, 1, ()) : El tRot) 2 = (ofGa (ge (-7/25) (24/25)), 0, ()) := by
  rw [← pw_3 (by decide +kernel) (by decide)]
  exact congrArg (fun g => ((ofGa g, 0, ()) : El tG × Int × Unit)) rp_2
theorem nE_1 : numE ((⟨#[77, 50]⟩, (2, 1, ()), ofGa (ge 5 0), ()) : El tTide) 1 = (ge 3 4, 0) := by
  unfold numE
  dsimp only
  rw [pR_1, if_neg (by decide)]
  exact gmul_s (u := 3) (v := 0) (x := 4) (y := 0) (by decide +kernel) (by decide +kernel) (by decide +kernel) (by decide +kernel) (by decide +kernel) (by decide +kernel) (by decide +kernel)
theorem nE_2 : numE ((⟨#[77, 50]⟩, (2, 1, ()), ofGa (ge 5 0), ()) : El tTide) 2 = (ge (-7/5) (24/5), 0) := by
  unfold numE
  dsimp only
  rw [pR_2, if_neg (by decide)]
  exact gmul_s (u := -7/5) (v := 0) (x := 24/5) (y := 0) (by decide +kernel) (by decide +kernel) (by decide +kernel) (by decide +kernel) (by decide +kernel) (by decide +kernel) (by decide +kernel)
theorem exA {t : Int} {r i h : Rat} (k : tickE t = 0) (e : numE ((⟨#[77, 50]⟩, (2, 1, ()), ofGa (ge 5 0), ()) : El tTide) t = (ge r i, 0)) (s : (sm (1/2) && sm r && sm h) = true) (a : 1/2 + r = h) : AtE exP t = (enc h, 0) := by
  unfold AtE
  rw [exP_wrong k, if_neg (by decide), exP_eq]
  unfold atE
  dsimp only
  have z : fadd (toFr (ofFr (enc (1/2)))) one0 = (enc (1/2), 0) := by
    rw [one0_eq]
    exact fadd_s (p := 1/2) (q := 0) (by decide +kernel) (by decide +kernel)
  rw [z]
  have st : hgtS (enc (1/2), 0) [((⟨#[77, 50]⟩, (2, 1, ()), ofGa (ge 5 0), ()) : El tTide)] t 1 = (enc h, 0) := by
    rw [hg_add (i := 0) rfl (by show (numE ((⟨#[77, 50]⟩, (2, 1, ()), ofGa (ge 5 0), ()) : El tTide) t).2 = 0; rw [e])]
    show fadd (enc (1/2)) (numE ((⟨#[77, 50]⟩, (2, 1, ()), ofGa (ge 5 0), ()) : El tTide) t).1.re = _
    rw [e]
    exact fadd_s s a
  show endR (hgtS (enc (1/2), 0) [((⟨#[77, 50]⟩, (2, 1, ()), ofGa (ge 5 0), ()) : El tTide)] t 1) = _
  rw [st]
  rfl
theorem aw_1 : AtE exP 1 = (enc (7/2), 0) := exA (by decide) nE_1 (by decide +kernel) (by decide +kernel)
theorem aw_2 : AtE exP 2 = (enc (-9/10), 0) := exA (by decide) nE_2 (by decide +kernel) (by decide +kernel)
theorem aw_3 : SumE exP 1 = (ge 3 4, 0) := by
  unfold SumE
  rw [exP_wrong (by decide), if_neg (by decide), exP_eq]
  dsimp only
  show sumS [((⟨#[77, 50]⟩, (2, 1, ()), ofGa (ge 5 0), ()) : El tTide)] 1 1 = _
  rw [su_add (i := 0) rfl (by show (numE ((⟨#[77, 50]⟩, (2, 1, ()), ofGa (ge 5 0), ()) : El tTide) 1).2 = 0; rw [nE_1])]
  show gadd (gint 0 0) (numE ((⟨#[77, 50]⟩, (2, 1, ()), ofGa (ge 5 0), ()) : El tTide) 1).1 = _
  rw [nE_1, show gint 0 0 = ge 0 0 by unfold gint; rw [fsmall_nought_]; rfl]
  exact gadd_s (by decide +kernel) (by decide +kernel) (by decide +kernel)
theorem s_72 : fsmall 7 2 = (enc (7/2), 0) := fsmall_s (by decide) (by decide +kernel) (by decide +kernel)
theorem s_910 : fsmall (-9) 10 = (enc (-9/10), 0) := fsmall_s (by decide) (by decide +kernel) (by decide +kernel)
theorem s_31 : fsmall 3 1 = (enc 3, 0) := fsmall_s (by decide) (by decide +kernel) (by decide +kernel)
theorem s_41 : fsmall 4 1 = (enc 4, 0) := fsmall_s (by decide) (by decide +kernel) (by decide +kernel)
theorem gs_34 : gsame (ge 3 4) (ge 3 4) = true := by
  unfold gsame
  have : gchk2 (ge 3 4) (ge 3 4) = 0 := gchk2_s (by decide +kernel) (by decide +kernel)
  simp [this]
noncomputable def sp_oawake : Spec := { q := .un, ps := [], rs := [.bo], fresh := true, pre := fun _ _ => none, post := fun _ x => ((), (true, ())) }
noncomputable def iv_oawake (y : El sp_oawake.q) (x : Els sp_oawake.ps) : Nat → Option Inv := fun _ => none
noncomputable abbrev c_oawake : Cfg := cfgS (Try.f5).ntmps false [(23, sp_oexample.prim), (10, sp_xAt.prim), (12, sp_xSum.prim), (24, sp_osmall.prim), (11, sp_rSame.prim), (14, sp_gInt.prim), (16, sp_gSame.prim)]
def F_oawake (y : El sp_oawake.q) (x : Els sp_oawake.ps) : Prop :=
  ∀ (r : Ro [tPort]), r = ((), exP, ()) → ∀ (r_1 : Ro [tR, Ty.it IntKind.i64]), r_1 = pR (AtE r.2.1 (1 : Int)) → ∀ (r_2 : Ro [tR, Ty.it IntKind.i64]), r_2 = pR (AtE r.2.1 (2 : Int)) → ∀ (r_3 : Ro [tG, Ty.it IntKind.i64]), r_3 = pG (SumE r.2.1 (1 : Int)) → ((r_1.2.2.1 == (0 : Int)) = true → ∀ (r : Ro [tR]), r = ((), ofFr (fsmall (7 : Int) (2 : Int)).1, ()) → ∀ (r_4 : Ro [Ty.bo]), r_4 = ((), decide (toFr r_1.2.1 = toFr r.2.1), ()) → (r_4.2.1 = true → ((r_2.2.2.1 == (0 : Int)) = true → ∀ (r : Ro [tR]), r = ((), ofFr (fsmall (-9 : Int) (10 : Int)).1, ()) → ∀ (r_5 : Ro [Ty.bo]), r_5 = ((), decide (toFr r_2.2.1 = toFr r.2.1), ()) → (r_5.2.1 = true → ((r_3.2.2.1 == (0 : Int)) = true → ∀ (r : Ro [tG]), r = ((), ofGa { re := (fsmall (3 : Int) (1 : Int)).1, im := (fsmall (4 : Int) (1 : Int)).1 }, ()) → ∀ (r_6 : Ro [Ty.bo]), r_6 = ((), gsame (toGa r_3.2.1) (toGa r.2.1), ()) → r_6.2 = (true, ())) ∧ ((r_3.2.2.1 == (0 : Int)) = false → (false, ()) = (true, ()))) ∧ (r_5.2.1 = false → (false, ()) = (true, ()))) ∧ ((r_2.2.2.1 == (0 : Int)) = false → (false, ()) = (true, ()))) ∧ (r_4.2.1 = false → (false, ()) = (true, ()))) ∧ ((r_1.2.2.1 == (0 : Int)) = false → (false, ()) = (true, ()))
theorem w_oawake (y : El sp_oawake.q) (x : Els sp_oawake.ps) : aW c_oawake (iv_oawake y x) Try.f5 sp_oawake y x = F_oawake y x := by kernel_rfl
theorem m_oawake (y : El (.un)) (x : Els []) (h2 : wfE (.un) y) (h3 : wfEs [] x) : F_oawake y x := by
  unfold F_oawake
  rintro _ rfl _ rfl _ rfl _ rfl
  dsimp only
  rw [aw_1, aw_2, aw_3, s_72, s_910, s_31, s_41]
  refine ⟨fun _ => ?_, fun h => absurd h (by decide)⟩
  rintro _ rfl _ rfl
  refine ⟨fun _ => ⟨fun _ => ?_, fun h => absurd h (by decide)⟩, fun h => absurd h (by simp [toFr, ofFr, pR])⟩
  rintro _ rfl _ rfl
  refine ⟨fun _ => ⟨fun _ => ?_, fun h => absurd h (by decide)⟩, fun h => absurd h (by simp [toFr, ofFr, pR])⟩
  rintro _ rfl _ rfl
  exact congrArg (fun b => (b, ())) gs_34
theorem fo_oawake : FnOk Try.prog 5 sp_oawake := fnOk_of (C := c_oawake) iv_oawake Try.func5 rfl (by kernel_rfl) tys_ok (prims_cons (spec_prim fo_oexample) (prims_cons (spec_prim fo_xAt) (prims_cons (spec_prim fo_xSum) (prims_cons (spec_prim fo_osmall) (prims_cons (spec_prim fo_rSame) (prims_cons (spec_prim fo_gInt) (prims_cons (spec_prim fo_gSame) prims_nil))))))) mixed_ (Nat.le_refl _) rfl fun y x h1 h2 h3 h4 =>
  Eq.mpr (w_oawake y x) (m_oawake y x h2 h3)
def p_sure (p : Prim) : Prim := fun az O n => match p az O n with
  | some (c, G) => match G.ef with
    | ⟨.c (.sc (.bool b)), ob, k⟩ => some (some (oc c (b = true)), .e ⟨.c .tt, ob, k⟩)
    | _ => none
  | none => none
theorem Sim.tt {gp : Option Nat} {Z0 : Nat → Prop} {w0 : Base} {w : World} {N : Nat} {d : Option Nat} {D : Nat → Prop} {c : Cf} {T : Nat → Option AV} {O : Store} {tm : Array Value} (h : Sim gp Z0 w0 N D c (upT T d (.c (.sc (.bool true)))) O tm w) : Sim gp Z0 w0 N D c (upT T d (.c .tt)) O tm w := by
  cases d with
  | none => exact h
  | some d =>
    exact { h with
      tmp := fun t v hv => by
        have hv : (bif Nat.beq d t then some (.c .tt) else T t) = some v := hv
        cases e : Nat.beq d t with
        | true =>
          rw [e] at hv
          cases hv
          obtain ⟨u, h1, h2⟩ := h.tmp t (.c (.sc (.bool true))) (by show (bif Nat.beq d t then _ else _) = _; rw [e]; rfl)
          exact ⟨u, h1, h2.1⟩
        | false =>
          rw [e] at hv
          exact h.tmp t v (by show (bif Nat.beq d t then _ else _) = _; rw [e]; exact hv) }
theorem pr_sure {P : Program} {f : Nat} {p : Prim} (hp : PrimOk P f p) : PrimOk P f (p_sure p) := by
  refine ⟨hp.1, fun gp Z0 w0 N D c T O O' a w xs vs n cd G hS hO hl hv hG hD hc => ?_⟩
  unfold p_sure at hG
  cases h1 : p xs O' n with
  | none => rw [h1] at hG; cases hG
  | some q =>
    obtain ⟨c1, G1⟩ := q
    rw [h1] at hG
    dsimp only at hG
    split at hG
    · rename_i b ob k hef
      cases hG
      have hc : oc c1 (b = true) := hc
      have hb : b = true ∧ holds c1 := by
        cases c1 with
        | none => exact ⟨hc, trivial⟩
        | some X => exact ⟨hc.2, hc.1⟩
      obtain ⟨rfl, hc1⟩ := hb
      have := hp.2 gp Z0 w0 N D c T O O' a w xs vs n c1 G1 hS hO hl hv h1 (by rw [hef]; exact hD) hc1
      rw [hef] at this
      refine this.mono ?_
      rintro e w' ⟨v, c', rfl, h2⟩
      exact ⟨v, c', rfl, fun d hd => Sim.tt (h2 d hd)⟩
    · cases hG
def hf : Ob → Ob
  | .dp e t l m => .ty e t l m
  | o => o
def hlf (p : Nat × Ob) : Nat × Ob := (p.1, hf p.2)
def p_half (p : Prim) : Prim := fun az O n => match p az O n with
  | some (c, .e E) => some (c, .e { E with ob := E.ob.map hlf })
  | some (c, .g R val k) => some (c, .g R val fun r => { k r with ob := (k r).ob.map hlf })
  | none => none
def isDp : Option Ob → Bool
  | some (.dp _ _ _ _) => true
  | _ => false
def Cf.half (c : Cf) (ob : List (Nat × Ob)) : Cf := ⟨fun i => if isDp (look ob i) = true then (c.m i).map fun e => { e with ds := [] } else c.m i, fun g => c.Z g ∨ ∃ i e, isDp (look ob i) = true ∧ c.m i = some e ∧ g ∈ e.ds⟩
theorem look_hlf (ob : List (Nat × Ob)) (i : Nat) : look (ob.map hlf) i = (look ob i).map hf := by
  induction ob with
  | nil => rfl
  | cons p ob ih =>
    obtain ⟨k, v⟩ := p
    rw [List.map_cons, look]
    show (bif Nat.beq k i then some (hf v) else look (ob.map hlf) i) = (bif Nat.beq k i then some v else look ob i).map hf
    cases Nat.beq k i with
    | true => rfl
    | false => exact ih
theorem hf_live (o : Ob) : (hf o).live = o.live := by cases o <;> rfl
section
variable {c c' : Cf} {w : World}
structure Cf.Wk (c c' : Cf) : Prop where
  m : ∀ i e, c.m i = some e → ∃ e', c'.m i = some e' ∧ e'.bl = e.bl ∧ e'.ln = e.ln ∧ e'.cp = e.cp
  Z : ∀ g, c.Z g → c'.Z g
theorem RC.wk (hl : c.Wk c') {v : Value} : ∀ {x : Ce}, RC c w v x → RC c' w v x
  | .bad, h => h
  | .ud, h => h
  | .tt, h => h
  | .ff, h => h
  | .sc _, h => h
  | .nl, h => h
  | .sl _ _, h => RT.mono hl.Z (Stay.refl _ _) h
  | .lt _ _, h => RT.mono hl.Z (Stay.refl _ _) h
  | .lf _ _, h => RT.mono hl.Z (Stay.refl _ _) h
  | .oq _, h => h
  | .ow _, h => by
    obtain ⟨e, h1, h2⟩ := h
    obtain ⟨e', k1, k2, k3, k4⟩ := hl.m _ _ h1
    exact ⟨e', k1, by rw [k2, k3, k4]; exact h2⟩
  | .os _ _ _ _, h => by
    obtain ⟨e, A, h1, h2, h3, h4, h5⟩ := h
    obtain ⟨e', k1, k2, k3, k4⟩ := hl.m _ _ h1
    exact ⟨e', A, k1, by rw [k3]; exact h2, by rw [k4]; exact h3, by rw [k4, k2]; exact h4, h5⟩
  | .pv _ _, h => by
    obtain ⟨e, g, h1, h2, h3⟩ := h
    obtain ⟨e', k1, k2, k3, k4⟩ := hl.m _ _ h1
    exact ⟨e', g, k1, k2.trans h2, h3⟩
  | .pr _ _ _ _, h => by
    obtain ⟨e, g, h1, h2, h3, h4⟩ := h
    obtain ⟨e', k1, k2, k3, k4⟩ := hl.m _ _ h1
    exact ⟨e', g, k1, k2.trans h2, by rw [k3]; exact h3, h4⟩
  | .fv _ _, h => by
    obtain ⟨vs, h1, h2, h3⟩ := h
    refine ⟨vs, h1, h2, fun k i hk => ?_⟩
    obtain ⟨e, g, e1, e2, e3⟩ := h3 k i hk
    obtain ⟨e', k1, k2, k3, k4⟩ := hl.m _ _ e1
    exact ⟨e', g, k1, k2.trans e2, e3⟩
theorem RL.wk (hl : c.Wk c') {vs : List Value} {cs : List Ce} (h : RL c w vs cs) : RL c' w vs cs := ⟨h.1, fun i v x h1 h2 => (h.2 i v x h1 h2).wk hl⟩
theorem RA.wk (hl : c.Wk c') {v : Value} : ∀ {x : AV}, RA c w v x → RA c' w v x
  | .c _, h => RC.wk hl h
  | .pe _, h => by
    obtain ⟨g, o, vs, h1, h2, h3, h4⟩ := h
    exact ⟨g, o, vs, h1, hl.Z g h2, h3.wk hl, h4⟩
  | .ag _, h => by
    obtain ⟨vs, h1, h2⟩ := h
    exact ⟨vs, h1, h2.wk hl⟩
  | .tu _, h => by
    obtain ⟨vs, h1, h2, h3⟩ := h
    refine ⟨vs, h1, h2, fun i v p k1 k2 => ?_⟩
    have := h3 i v p k1 k2
    unfold RP at this ⊢
    split
    · rename_i hp
      rw [if_pos hp] at this
      obtain ⟨us, u1, u2⟩ := this
      exact ⟨us, u1, u2.wk hl⟩
    · rename_i hp
      rw [if_neg hp] at this
      obtain ⟨x, u1, u2⟩ := this
      exact ⟨x, u1, u2.wk hl⟩
end
section
variable {gp : Option Nat} {Z0 : Nat → Prop} {w0 : Base} {w : World} {N : Nat} {D : Nat → Prop} {c : Cf} {T : Nat → Option AV} {O : Store} {tm : Array Value} {ob : List (Nat × Ob)}
theorem half_wk (c : Cf) (ob : List (Nat × Ob)) : c.Wk (c.half ob) := ⟨fun i e h => by
  unfold Cf.half
  dsimp only
  split
  · exact ⟨{ e with ds := [] }, by rw [h]; rfl, rfl, rfl, rfl⟩
  · exact ⟨e, h, rfl, rfl, rfl⟩, fun g h => .inl h⟩
theorem half_m {i : Nat} {e : Ent} (h : (c.half ob).m i = some e) : ∃ e', c.m i = some e' ∧ (∀ g, e.has g → e'.has g) ∧ (e = e' ∨ isDp (look ob i) = true ∧ e = { e' with ds := [] }) := by
  unfold Cf.half at h
  dsimp only at h
  split at h
  · rename_i hd
    cases hm : c.m i with
    | none => rw [hm] at h; cases h
    | some e' =>
      rw [hm] at h
      cases h
      refine ⟨e', rfl, fun g hg => ?_, .inr ⟨hd, rfl⟩⟩
      rw [Ent.has_one rfl] at hg
      exact Ent.has_bl hg
  · exact ⟨e, h, fun _ h => h, .inl rfl⟩
theorem half_o {i : Nat} {o : Ob} (h : upO O (ob.map hlf) i = some o) : ∃ o', upO O ob i = some o' ∧ o'.live = o.live ∧ (look ob i = some o' ∧ o = hf o' ∨ look ob i = none ∧ o = o') := by
  unfold upO at h ⊢
  rw [look_hlf] at h
  cases hl : look ob i with
  | none => rw [hl] at h; exact ⟨o, h, rfl, .inr ⟨rfl, rfl⟩⟩
  | some o' =>
    rw [hl] at h
    cases h
    exact ⟨o', rfl, (hf_live o').symm, .inl ⟨rfl, rfl⟩⟩
theorem isDp_some {x : Option Ob} (h : isDp x = true) : ∃ e t l m, x = some (.dp e t l m) := by
  unfold isDp at h
  split at h
  · exact ⟨_, _, _, _, rfl⟩
  · cases h
theorem dp_ty {i et m : Nat} {t : Ty} {l : List (El t)} {e : Ent} (h1 : c.m i = some e) (hd : isDp (look ob i) = true) (h : ObOk c w i (.dp et t l m)) : ObOk (c.half ob) w i (.ty et t l m) := by
  obtain ⟨e', k1, k2, k3, k4, k5⟩ := h
  rw [h1] at k1
  cases k1
  have hm : (c.half ob).m i = some { e with ds := [] } := by
    unfold Cf.half
    dsimp only
    rw [if_pos hd, h1]
    rfl
  rcases k5 with ⟨b1, b2, b3, b4, b5, b6⟩ | ⟨g, cp, cells, bb, q1, q2, q3, q4, q5, q6, q7, q8, q9, q10⟩
  · subst b4
    subst b5
    exact ⟨_, hm, rfl, b2, .inl ⟨b1, b3, rfl, rfl⟩⟩
  · unfold entV at q1
    obtain ⟨q1, _⟩ := List.cons.inj q1
    injection q1 with r1 r2 r3
    have hb : e.bl = some g := by
      cases hb : e.bl with
      | none => rw [hb] at r1; cases r1
      | some g' => rw [hb] at r1; cases r1; rfl
    have hds : e.ds = bb.flatten := by
      unfold Ent.all at q2
      rw [hb] at q2
      exact (List.cons.inj q2).2
    refine ⟨_, hm, rfl, r2, .inr ⟨g, cells, hb, ?_, ?_, ?_, ?_, fun j hj => ?_, fun j us hj p u hu => ?_⟩⟩
    · rw [k4]
      exact q4
    · show _ = e.cp * _
      rw [r3]
      exact q5
    · show _ ≤ e.cp
      rw [r3]
      exact q6
    · show e.cp ≤ _
      rw [r3]
      exact q7
    · have hbl : j < bb.length := by omega
      refine ⟨_, (q9 j hj _ (List.getElem?_eq_getElem hbl)).rt k3 (fun k hk => .inr ⟨i, e, hd, h1, ?_⟩), fun p u hu => ?_⟩
      · rw [hds]
        exact List.mem_flatten.2 ⟨_, List.getElem_mem hbl, hk⟩
      · rw [Nat.zero_add]
        exact cells_at q4 rfl p u hu
    · have := cells_at q4 (q10 j us hj) p u hu
      rw [Nat.add_mul] at this
      rw [show l.length * t.size + (j * t.size + p) = l.length * t.size + j * t.size + p by omega]
      exact this
theorem ObOk.wk {i : Nat} : ∀ {o : Ob}, isDp (look ob i) = false → ObOk c w i o → ObOk (c.half ob) w i o := by
  intro o hd h
  have hm : ∀ e, c.m i = some e → (c.half ob).m i = some e := fun e he => by
    unfold Cf.half
    dsimp only
    rw [if_neg (by rw [hd]; decide)]
    exact he
  have W := half_wk c ob
  cases o with
  | var cs =>
    obtain ⟨e, g, vs, et, k1, k2, k3, k4, k5⟩ := h
    exact ⟨e, g, vs, et, hm e k1, k2, k3, k4, k5.wk W⟩
  | ty et t l m =>
    obtain ⟨e, k1, k2, k3, k4⟩ := h
    refine ⟨e, hm e k1, k2, k3, k4.imp id ?_⟩
    rintro ⟨g, vs, b1, b2, b3, b4, b5, b6, b7⟩
    exact ⟨g, vs, b1, b2, b3, b4, b5, b6.mono W.Z (Stay.refl _ _) rfl, b7⟩
  | ce et t es =>
    obtain ⟨e, g, vs, k1, k2, k3, k4, k5, k6, k7, k8, k9⟩ := h
    exact ⟨e, g, vs, hm e k1, k2, k3, k4, k5, k6, k7, k8, fun j cs hj => ⟨(k9 j cs hj).1, (k9 j cs hj).2.wk W⟩⟩
  | fz t l m =>
    obtain ⟨e, k1, k2, k3⟩ := h
    refine ⟨e, hm e k1, k2, k3.imp id ?_⟩
    rintro ⟨g, b1, b2, b3, b4, b5, b6⟩
    exact ⟨g, b1, W.Z g b2, b3, b4, b5.mono W.Z (Stay.refl _ _) rfl, b6⟩
  | dp et t l m =>
    obtain ⟨e, k1, k2⟩ := h
    exact ⟨e, hm e k1, k2⟩
  | dead => trivial
theorem Sim.half (S : Sim gp Z0 w0 N D c T (upO O ob) tm w) : Sim gp Z0 w0 N D (c.half ob) T (upO O (ob.map hlf)) tm w := by
  have W := half_wk c ob
  have up : ∀ {k : Nat} {o : Ob}, look ob k = some o → upO O ob k = some o := fun h => by unfold upO; rw [h]
  refine ⟨fun t v h => ?_, fun i o h => ?_, fun i j o p e f g h1 h2 h3 h4 h5 h6 h7 h8 h9 => ?_, fun i o e g h1 h2 h3 h4 hZ => ?_, fun g h => ?_, fun i o e g h1 h2 h3 h4 => ?_, fun i e h => ?_, S.gr, fun g h => ?_, S.sz, fun k hk => ?_, fun g h => .inl (S.z0 g h), w0.mono (fun g h => .inl h) (Stay.refl _ _) S.zg⟩
  · obtain ⟨u, h1, h2⟩ := S.tmp t v h
    exact ⟨u, h1, h2.wk W⟩
  · obtain ⟨o', h1, h2, h3⟩ := half_o h
    have ho := S.obj i o' h1
    rcases h3 with ⟨h3, rfl⟩ | ⟨h3, rfl⟩
    · cases o' with
      | dp et t l m =>
        obtain ⟨e, k1, k2⟩ := id ho
        exact dp_ty k1 (by rw [h3]; rfl) ho
      | var cs => exact ho.wk (by rw [h3]; rfl)
      | ty et t l m => exact ho.wk (by rw [h3]; rfl)
      | ce et t es => exact ho.wk (by rw [h3]; rfl)
      | fz t l m => exact ho.wk (by rw [h3]; rfl)
      | dead => trivial
    · exact ho.wk (by rw [h3]; rfl)
  · obtain ⟨o', a1, a2, _⟩ := half_o h1
    obtain ⟨p', b1, b2, _⟩ := half_o h2
    obtain ⟨e', c1, c2, _⟩ := half_m h6
    obtain ⟨f', d1, d2, _⟩ := half_m h7
    exact S.inj i j o' p' e' f' g a1 b1 (a2.trans h3) (b2.trans h4) h5 c1 d1 (c2 g h8) (d2 g h9)
  · obtain ⟨o', a1, a2, a3⟩ := half_o h1
    obtain ⟨e', c1, c2, c3⟩ := half_m h3
    rcases hZ with hZ | ⟨k, ek, z1, z2, z3⟩
    · exact S.zo i o' e' g a1 (a2.trans h2) c1 (c2 g h4) hZ
    · obtain ⟨et, t, l, m, z4⟩ := isDp_some z1
      have hk : ek.has g := List.mem_append_right _ z3
      by_cases hik : k = i
      · subst hik
        rw [c1] at z2
        cases z2
        rcases c3 with rfl | ⟨_, rfl⟩
        · rcases a3 with ⟨a3, a4⟩ | ⟨a3, _⟩
          · have hm : (c.half ob).m k = some { e with ds := [] } := by
              unfold Cf.half
              dsimp only
              rw [if_pos z1, c1]
              rfl
            rw [hm] at h3
            have : e.ds = [] := by
              have := Option.some.inj h3
              rw [← this]
            rw [this] at z3
            cases z3
          · rw [z4] at a3
            cases a3
        · rw [Ent.has_one rfl] at h4
          have h4 : e'.bl = some g := h4
          obtain ⟨e2, k1, k2, _⟩ := S.obj k _ (up z4)
          rw [c1] at k1
          cases k1
          unfold Ent.all at k2
          rw [h4] at k2
          exact (List.nodup_cons.1 k2).1 z3
      · exact S.inj k i _ o' ek e' g (up z4) a1 rfl (a2.trans h2) hik z2 c1 hk (c2 g h4)
  · rcases h with h | ⟨k, ek, z1, z2, z3⟩
    · exact S.zl g h
    · obtain ⟨et, t, l, m, z4⟩ := isDp_some z1
      exact (S.obj k _ (up z4)).lt rfl ek g z2 (List.mem_append_right _ z3)
  · obtain ⟨o', a1, a2, _⟩ := half_o h1
    obtain ⟨e', c1, c2, _⟩ := half_m h3
    exact S.bs i o' e' g a1 (a2.trans h2) c1 (c2 g h4)
  · obtain ⟨e', c1, _⟩ := half_m h
    exact S.dom i e' c1
  · rcases h with h | ⟨k, ek, z1, z2, z3⟩
    · exact S.zz g h
    · obtain ⟨et, t, l, m, z4⟩ := isDp_some z1
      have hk : ek.has g := List.mem_append_right _ z3
      rcases S.bs k _ ek g (up z4) rfl z2 hk with h | h
      · exact .inr h
      · exfalso
        obtain ⟨cs, e0, g1, g2, g3⟩ := S.gpv g h
        refine S.inj 0 k _ _ e0 ek g g1 (up z4) rfl rfl (fun e => ?_) g2 z2 (Ent.has_bl g3) hk
        rw [← e] at z4
        have := up z4
        rw [g1] at this
        cases this
  · obtain ⟨cs, e, h1, h2, h3⟩ := S.gpv k hk
    have hd : isDp (look ob 0) = false := by
      cases hd : isDp (look ob 0) with
      | false => rfl
      | true =>
        obtain ⟨et, t, l, m, z4⟩ := isDp_some hd
        have := up z4
        rw [h1] at this
        cases this
    refine ⟨cs, e, ?_, ?_, h3⟩
    · unfold upO at h1 ⊢
      rw [look_hlf]
      cases hl : look ob 0 with
      | none => rw [hl] at h1; exact h1
      | some o => rw [hl] at h1; cases h1; rfl
    · unfold Cf.half
      dsimp only
      rw [if_neg (by rw [hd]; decide)]
      exact h2
end
theorem pr_half {P : Program} {f : Nat} {p : Prim} (hp : PrimOk P f p) : PrimOk P f (p_half p) := by
  refine ⟨hp.1, fun gp Z0 w0 N D c T O O' a w xs vs n cd G hS hO hl hv hG hD hc => ?_⟩
  unfold p_half at hG
  cases h1 : p xs O' n with
  | none => rw [h1] at hG; cases hG
  | some q =>
    obtain ⟨c1, G1⟩ := q
    rw [h1] at hG
    have key : c1 = cd ∧ G.ef.k = G1.ef.k ∧ G.ef.v = G1.ef.v ∧ G.ef.ob = G1.ef.ob.map hlf := by
      cases G1 with
      | e E => cases hG; exact ⟨rfl, rfl, rfl, rfl⟩
      | g R val k => cases hG; exact ⟨rfl, rfl, rfl, rfl⟩
    obtain ⟨rfl, e1, e2, e3⟩ := key
    have := hp.2 gp Z0 w0 N D c T O O' a w xs vs n c1 G1 hS hO hl hv h1 (by rw [← e1]; exact hD) hc
    refine this.mono ?_
    rintro e w' ⟨v, c', rfl, h2⟩
    refine ⟨v, c'.half G1.ef.ob, rfl, fun d hd => ?_⟩
    rw [e1, e2, e3]
    exact (h2 d hd).half
def sp_clone : Spec := { q := .un, ps := [tW32], rs := [tW32], fresh := true, pre := fun _ x => some (x.1.length ≤ 35184372088832), post := fun _ x => ((), (x.1, ())) }
theorem fo_clone : FnOk Try.prog 57 sp_clone := by
  refine ⟨callFunc_enter Try.func57 (by kernel_rfl) rfl, fun Z w gv vs y x hZ hv hp _ _ => ?_⟩
  obtain ⟨xs, u⟩ := x
  match vs, hv with
  | [v], ⟨h1, _⟩ =>
    obtain ⟨A, c, rfl, k1, kw⟩ := rv_wd h1
    refine (clone_any A xs c w k1 hp).mono fun e w' ⟨A', c', e1, e2, e3⟩ => ?_
    subst e1
    exact told_new (S := sp_clone) (r := (xs, ())) (us := [.slice A' xs.length c']) (bs := blkA A') rfl rfl (.inl ⟨_, rfl, rfl⟩) hZ ⟨_, [], (List.append_nil _).symm, rq_own e2 kw, rfl⟩ (blkA1_nodup A') (blkA1_base e2) e3
end Go.Proofs.Ytemlaompalbgiaa
