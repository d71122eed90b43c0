/- Texts of this claim, joined: B32 P10 B33. -/
import Derived.Test.YtifonmdcicegdaaQt
set_option linter.unusedVariables false
set_option linter.unusedSimpArgs false
namespace Go.Proofs.Ytifonmdcicegdaa
open Go Go.RowKit

def spanS (p : El tPort) (a : Int) : Nat → List (El tR) × Int
  | 0 => ([], 0)
  | k + 1 => if (spanS p a k).2 ≠ 0 then spanS p a k else if (atE p (a + k)).2 ≠ 0 then ([], (atE p (a + k)).2) else ((spanS p a k).1 ++ [ofFr (atE p (a + k)).1], 0)
def SpanE (p : El tPort) (a b : Int) : List (El tR) × Int := if (portI p).1 ≠ 0 then ([], (portI p).1) else if a < 0 ∨ 1025 < b ∨ b < a then ([], 2) else spanS p a (b - a).toNat
section
variable {p : El tPort} {a b : Int} {k : Nat}
theorem sp_stay (h : (spanS p a k).2 ≠ 0) : ∀ j, spanS p a (k + j) = spanS p a k
  | 0 => rfl
  | j + 1 => by
    have ih := sp_stay h j
    show (if (spanS p a (k + j)).2 ≠ 0 then spanS p a (k + j) else _) = _
    rw [ih, if_pos h]
theorem sp_bad (h : (spanS p a k).2 = 0) (m : (atE p (a + k)).2 ≠ 0) : spanS p a (k + 1) = ([], (atE p (a + k)).2) := (if_neg (fun c => c h)).trans (if_pos m)
theorem sp_add (h : (spanS p a k).2 = 0) (m : (atE p (a + k)).2 = 0) : spanS p a (k + 1) = ((spanS p a k).1 ++ [ofFr (atE p (a + k)).1], 0) := (if_neg (fun c => c h)).trans (if_neg (fun c => c m))
theorem sp_err {n : Nat} (h : (spanS p a (k + 1)).2 ≠ 0) (hk : k + 1 ≤ n) : spanS p a n = spanS p a (k + 1) := by
  have e := sp_stay h (n - (k + 1))
  rw [show k + 1 + (n - (k + 1)) = n by omega] at e
  exact e
theorem sp_len (h : (spanS p a k).2 = 0) : (spanS p a k).1.length = k := by
  induction k with
  | zero => rfl
  | succ k ih =>
    have h0 : (spanS p a k).2 = 0 := by
      refine Decidable.byContradiction fun c => ?_
      have := sp_stay c 1
      rw [this] at h
      exact c h
    have h1 : (atE p (a + k)).2 = 0 := by
      refine Decidable.byContradiction fun c => ?_
      rw [sp_bad h0 c] at h
      exact c h
    rw [sp_add h0 h1]
    simp [ih h0]
theorem sE_1 (h : (portI p).1 ≠ 0) : SpanE p a b = ([], (portI p).1) := if_pos h
theorem sE_2 (h : (portI p).1 = 0) (c : a < 0 ∨ 1025 < b ∨ b < a) : SpanE p a b = ([], 2) := (if_neg (fun c => c h)).trans (if_pos c)
theorem sE_3 (h : (portI p).1 = 0) (c : ¬ (a < 0 ∨ 1025 < b ∨ b < a)) : SpanE p a b = spanS p a (b - a).toNat := (if_neg (fun c => c h)).trans (if_neg c)
end
noncomputable def sp_xSpan : Spec := { q := .un, ps := [tPort, .it .i64, .it .i64], rs := [.sl tR, .it .i64], fresh := true, pre := fun _ _ => none, post := fun _ x => ((), ((SpanE x.1 x.2.1 x.2.2.1).1, (SpanE x.1 x.2.1 x.2.2.1).2, ())) }
noncomputable def iv_xSpan (y : El sp_xSpan.q) (x : Els sp_xSpan.ps) : Nat → Option Inv := fun k => if k = 0 then some { X := Nat, tm := fun i => [(2, .c (.sc (.int .i64 x.2.2.1))), (3, .c (.pv 1 0)), (9, .c (.ow 2)), (10, .c (.sc (.int .i64 (x.2.1 + i))))], ob := fun i => [(1, .var (cel tPort x.1)), (2, .dp 24 tR (spanS x.1 x.2.1 i).1 0)], n := 3, I := fun i => i ≤ (x.2.2.1 - x.2.1).toNat ∧ (spanS x.1 x.2.1 i).2 = 0, μ := fun i => (x.2.2.1 - x.2.1).toNat - i } else none
noncomputable abbrev c_xSpan : Cfg := { cfgS (Try.f8).ntmps false [(13, sp_pCheck.prim), (29, sp_xat.prim)] with dp := [(24, tR)] }
def F_xSpan (y : El sp_xSpan.q) (x : Els sp_xSpan.ps) : Prop :=
  (fun (i21 : Int) (i221 : Int) => ∀ (r : El Ty.un × Els [tFault]), r = ((), portR x.1, ()) → ((r.2.1.1 != (0 : Int)) = true → ([], r.2.1.1, ()) = ((SpanE x.1 i21 i221).1, (SpanE x.1 i21 i221).2, ())) ∧ ((r.2.1.1 != (0 : Int)) = false → (decide (i21 < (0 : Int)) = true → ([], (2 : Int), ()) = ((SpanE x.1 i21 i221).1, (SpanE x.1 i21 i221).2, ())) ∧ (decide (i21 < (0 : Int)) = false → (decide (i221 > (1025 : Int)) = true → ([], (2 : Int), ()) = ((SpanE x.1 i21 i221).1, (SpanE x.1 i21 i221).2, ())) ∧ (decide (i221 > (1025 : Int)) = false → (decide (i21 > i221) = true → ([], (2 : Int), ()) = ((SpanE x.1 i21 i221).1, (SpanE x.1 i21 i221).2, ())) ∧ (decide (i21 > i221) = false → (∃ (x_1 : Nat), i221 = i221 ∧ i21 + (↑x_1 : Int) = i21 ∧ x.1.1 = x.1.1 ∧ x.1.2.1.1 = x.1.2.1.1 ∧ x.1.2.1.2.1 = x.1.2.1.2.1 ∧ x.1.2.1.2.2.1 = x.1.2.1.2.2.1 ∧ x.1.2.2.1 = x.1.2.2.1 ∧ (spanS x.1 i21 x_1).1 = [] ∧ x_1 ≤ Int.toNat (i221 - i21) ∧ (spanS x.1 i21 x_1).2 = (0 : Int)) ∧ ∀ (x_1 : Nat), x_1 ≤ Int.toNat (i221 - i21) ∧ (spanS x.1 i21 x_1).2 = (0 : Int) → (decide (i21 + (↑x_1 : Int) < i221) = true → ∀ (r : El Ty.un × Els [tR, Ty.it IntKind.i64]), r = ((), ((atE x.1 (i21 + (↑x_1 : Int))).1.neg, (atE x.1 (i21 + (↑x_1 : Int))).1.num, (atE x.1 (i21 + (↑x_1 : Int))).1.den, ()), (atE x.1 (i21 + (↑x_1 : Int))).2, ()) → ((r.2.2.1 != (0 : Int)) = true → ([], r.2.2) = ((SpanE x.1 i21 i221).1, (SpanE x.1 i21 i221).2, ())) ∧ ((r.2.2.1 != (0 : Int)) = false → (spanS x.1 i21 x_1).1.length + [r.2.1].length ≤ (1073741824 : Nat) ∧ ((-9223372036854775808 : Int) ≤ i21 + (↑x_1 : Int) + (1 : Int) ∧ i21 + (↑x_1 : Int) + (1 : Int) ≤ (9223372036854775807 : Int)) ∧ ∃ (x' : Nat), i221 = i221 ∧ i21 + (↑x' : Int) = i21 + (↑x_1 : Int) + (1 : Int) ∧ x.1.1 = x.1.1 ∧ x.1.2.1.1 = x.1.2.1.1 ∧ x.1.2.1.2.1 = x.1.2.1.2.1 ∧ x.1.2.1.2.2.1 = x.1.2.1.2.2.1 ∧ x.1.2.2.1 = x.1.2.2.1 ∧ (spanS x.1 i21 x').1 = (spanS x.1 i21 x_1).1 ++ [r.2.1] ∧ (x' ≤ Int.toNat (i221 - i21) ∧ (spanS x.1 i21 x').2 = (0 : Int)) ∧ Int.toNat (i221 - i21) - x' < Int.toNat (i221 - i21) - x_1)) ∧ (decide (i21 + (↑x_1 : Int) < i221) = false → ((spanS x.1 i21 x_1).1, (0 : Int), ()) = ((SpanE x.1 i21 i221).1, (SpanE x.1 i21 i221).2, ()))))))) x.2.1 x.2.2.1
set_option maxRecDepth 100000 in
theorem w_xSpan (y : El sp_xSpan.q) (x : Els sp_xSpan.ps) : aw c_xSpan (iv_xSpan y x) (codeOf Try.f8) 0 (retQ c_xSpan sp_xSpan (Try.f8).results.toList y x) (startT sp_xSpan x) (startO sp_xSpan y) 1 = F_xSpan y x := by kernel_rfl
theorem m_xSpan (y : El (.un)) (x : Els [tPort, .it .i64, .it .i64]) (h2 : wfE (.un) y) (h3 : wfEs [tPort, .it .i64, .it .i64] x) : F_xSpan y x := by
  unfold F_xSpan
  dsimp only
  rintro _ rfl
  refine ⟨fun h => ?_, fun h => ?_⟩
  · have h : (portI x.1).1 ≠ 0 := neT h
    rw [sE_1 h]
    rfl
  · have h : (portI x.1).1 = 0 := neF h
    refine ⟨fun a => ?_, fun a => ⟨fun b => ?_, fun b => ⟨fun c => ?_, fun c => ?_⟩⟩⟩
    · rw [sE_2 h (.inl (ltT a))]
    · rw [sE_2 h (.inr (.inl (gtT b)))]
    · rw [sE_2 h (.inr (.inr (gtT c)))]
    · have a := ltF a
      have b := gtF b
      have c := gtF c
      rw [sE_3 h (by omega)]
      refine ⟨⟨0, rfl, Int.add_zero _, rfl, rfl, rfl, rfl, rfl, rfl, Nat.zero_le _, rfl⟩, fun k hk => ⟨fun l => ?_, fun l => ?_⟩⟩
      · obtain ⟨hk, h0⟩ := hk
        have l := ltT l
        have kl : k + 1 ≤ Int.toNat (x.2.2.1 - x.2.1) := by omega
        rintro _ rfl
        refine ⟨fun m => ?_, fun m => ?_⟩
        · have e := sp_bad h0 (neT m)
          rw [sp_err (by rw [e]; exact neT m) kl, e]
        · have e := sp_add h0 (neF m)
          have len := sp_len h0
          refine ⟨by rw [len]; show k + 1 ≤ _; omega, by omega, k + 1, ?_⟩
          and_intros
          all_goals first | rfl | exact kl | (rw [e] <;> rfl) | omega
      · obtain ⟨hk, h0⟩ := hk
        have l := ltF l
        have ek : k = Int.toNat (x.2.2.1 - x.2.1) := by omega
        rw [← ek, h0]
set_option maxRecDepth 100000 in
theorem fo_xSpan : FnOk Try.prog 8 sp_xSpan := fnOk_of (C := c_xSpan) iv_xSpan Try.func8 rfl (by kernel_rfl) tys_ok (prims_cons (spec_prim fo_pCheck) (prims_cons (spec_prim fo_xat) prims_nil)) mixed_ (Nat.le_refl _) rfl fun y x h1 h2 h3 h4 =>
  Eq.mpr (w_xSpan y x) (m_xSpan y x h2 h3)
def bitsZ (n : Int) : Int := if n ≤ 0 then 0 else ((n.toNat.log2 + 1 : Nat) : Int)
theorem bits_0 {n : Int} (h : n ≤ 0) : bitsZ n = 0 := if_pos h
theorem bits_half {n : Int} (h : 0 < n) : bitsZ n = bitsZ (n / 2) + 1 := by
  obtain ⟨m, rfl⟩ : ∃ m : Nat, n = m := ⟨n.toNat, by omega⟩
  have e2 : ((m : Int) / 2) = ((m / 2 : Nat) : Int) := by omega
  rw [e2]
  unfold bitsZ
  rw [if_neg (by omega), Int.toNat_natCast]
  by_cases k : m < 2
  · obtain rfl : m = 1 := by omega
    decide
  · rw [if_neg (by omega), Int.toNat_natCast, Nat.log2_def m, if_pos (by omega)]
    omega
theorem bits_rng {n : Int} (h : n ≤ 9223372036854775807) : 0 ≤ bitsZ n ∧ bitsZ n ≤ 63 := by
  unfold bitsZ
  split
  · omega
  · rename_i k
    have : n.toNat.log2 < 63 := (Nat.log2_lt (by omega)).2 (by omega)
    omega
noncomputable def sp_lbits : Spec := { q := .un, ps := [.it .i64], rs := [.it .i64], fresh := true, pre := fun _ _ => none, post := fun _ x => ((), (bitsZ x.1, ())) }
noncomputable def iv_lbits (y : El sp_lbits.q) (x : Els sp_lbits.ps) : Nat → Option Inv := fun k => if k = 0 then some { X := Int × Nat, tm := fun i => [(0, .c (.sc (.int .i64 i.1))), (3, .c (.sc (.int .i64 i.2)))], ob := fun _ => [], n := 1, I := fun i => bitsZ i.1 + i.2 = bitsZ x.1 ∧ i.1 ≤ 9223372036854775807, μ := fun i => i.1.toNat } else none
noncomputable abbrev c_lbits : Cfg := cfgS (Try.f63).ntmps false []
def F_lbits (y : El sp_lbits.q) (x : Els sp_lbits.ps) : Prop :=
  (∃ (x_1 : Int × Nat), x_1.1 = x.1 ∧ (↑x_1.2 : Int) = (0 : Int) ∧ bitsZ x_1.1 + (↑x_1.2 : Int) = bitsZ x.1 ∧ x_1.1 ≤ (9223372036854775807 : Int)) ∧ ∀ (x_1 : Int × Nat), bitsZ x_1.1 + (↑x_1.2 : Int) = bitsZ x.1 ∧ x_1.1 ≤ (9223372036854775807 : Int) → (decide (x_1.1 > (0 : Int)) = true → ((-9223372036854775808 : Int) ≤ (↑x_1.2 : Int) + (1 : Int) ∧ (↑x_1.2 : Int) + (1 : Int) ≤ (9223372036854775807 : Int)) ∧ ((0 : Int) ≤ x_1.1 ∧ (0 : Int) < (2 : Int)) ∧ ∃ (x' : Int × Nat), x'.1 = x_1.1 / (2 : Int) ∧ (↑x'.2 : Int) = (↑x_1.2 : Int) + (1 : Int) ∧ (bitsZ x'.1 + (↑x'.2 : Int) = bitsZ x.1 ∧ x'.1 ≤ (9223372036854775807 : Int)) ∧ x'.1.toNat < x_1.1.toNat) ∧ (decide (x_1.1 > (0 : Int)) = false → ((↑x_1.2 : Int), ()) = (bitsZ x.1, ()))
set_option maxRecDepth 100000 in
theorem w_lbits (y : El sp_lbits.q) (x : Els sp_lbits.ps) : aw c_lbits (iv_lbits y x) (codeOf Try.f63) 0 (retQ c_lbits sp_lbits (Try.f63).results.toList y x) (startT sp_lbits x) (startO sp_lbits y) 1 = F_lbits y x := by kernel_rfl
theorem m_lbits (y : El (.un)) (x : Els [.it .i64]) (h2 : wfE (.un) y) (h3 : wfEs [.it .i64] x) : F_lbits y x := by
  unfold F_lbits
  have hx : x.1 ≤ 9223372036854775807 := h3.1.2
  refine ⟨⟨(x.1, 0), rfl, rfl, by rw [show ((0 : Nat) : Int) = 0 from rfl, Int.add_zero], hx⟩, fun i hi => ⟨fun l => ?_, fun l => ?_⟩⟩
  all_goals obtain ⟨e, hi⟩ := hi
  · have l := gtT l
    have b := bits_half l
    have r := bits_rng hi
    have r0 := bits_rng (show x.1 ≤ 9223372036854775807 from h3.1.2)
    refine ⟨by omega, ⟨by omega, by decide⟩, (i.1 / 2, i.2 + 1), rfl, rfl, ⟨?_, ?_⟩, ?_⟩
    · show bitsZ (i.1 / 2) + ((i.2 + 1 : Nat) : Int) = _
      omega
    · show i.1 / 2 ≤ _
      omega
    · show (i.1 / 2).toNat < _
      omega
  · have l := gtF l
    rw [← e, bits_0 l, Int.zero_add]
set_option maxRecDepth 100000 in
theorem fo_lbits : FnOk Try.prog 63 sp_lbits := fnOk_of (C := c_lbits) iv_lbits Try.func63 rfl (by kernel_rfl) tys_ok prims_nil mixed_ (Nat.le_refl _) rfl fun y x h1 h2 h3 h4 =>
  Eq.mpr (w_lbits y x) (m_lbits y x h2 h3)
def wordsZ (r : El tRot) (t : Int) : Int := if t < 0 ∨ 1024 < t ∨ rA r < 1 ∨ 1000 < rA r ∨ rB r < -1000 ∨ 1000 < rB r then 0 else if 200 < t ∧ (40 < rA r ∨ 40 < rB r ∨ rB r < -40) then 1000000 else t * bitsZ (rA r * rA r + rB r * rB r) / 32 + 1
section
variable {r : El tRot} {t : Int}
theorem w_1 (h : t < 0 ∨ 1024 < t ∨ rA r < 1 ∨ 1000 < rA r ∨ rB r < -1000 ∨ 1000 < rB r) : ((0 : Int), ()) = (wordsZ r t, ()) := by unfold wordsZ; rw [if_pos h]
theorem w_2 (h : ¬ (t < 0 ∨ 1024 < t ∨ rA r < 1 ∨ 1000 < rA r ∨ rB r < -1000 ∨ 1000 < rB r)) (k : 200 < t ∧ (40 < rA r ∨ 40 < rB r ∨ rB r < -40)) : ((1000000 : Int), ()) = (wordsZ r t, ()) := by unfold wordsZ; rw [if_neg h, if_pos k]
theorem w_3 (h : ¬ (t < 0 ∨ 1024 < t ∨ rA r < 1 ∨ 1000 < rA r ∨ rB r < -1000 ∨ 1000 < rB r)) (k : ¬ (200 < t ∧ (40 < rA r ∨ 40 < rB r ∨ rB r < -40))) : (t * bitsZ (rA r * rA r + rB r * rB r) / 32 + 1, ()) = (wordsZ r t, ()) := by unfold wordsZ; rw [if_neg h, if_neg k]
theorem w_c1 (a : 0 ≤ t) (b : t ≤ 1024) (c : 1 ≤ rA r) (d : rA r ≤ 1000) (e : -1000 ≤ rB r) (f : rB r ≤ 1000) : ¬ (t < 0 ∨ 1024 < t ∨ rA r < 1 ∨ 1000 < rA r ∨ rB r < -1000 ∨ 1000 < rB r) := by omega
theorem w_c2 (a : rA r ≤ 40) (b : rB r ≤ 40) (c : -40 ≤ rB r) : ¬ (200 < t ∧ (40 < rA r ∨ 40 < rB r ∨ rB r < -40)) := by omega
theorem w_c3 (a : t ≤ 200) : ¬ (200 < t ∧ (40 < rA r ∨ 40 < rB r ∨ rB r < -40)) := by omega
theorem sq_1000 {z : Int} (h : -1000 ≤ z) (k : z ≤ 1000) : 0 ≤ z * z ∧ z * z ≤ 1000000 := by
  have e : (z * z).natAbs ≤ 1000 * 1000 := by rw [Int.natAbs_mul]; exact Nat.mul_le_mul (by omega) (by omega)
  have f : 0 ≤ z * z := by
    rcases Int.le_total 0 z with p | p
    · exact Int.mul_nonneg p p
    · exact Int.mul_nonneg_of_nonpos_of_nonpos p p
  omega
theorem tb_rng {b : Int} (h : ¬ (t < 0 ∨ 1024 < t ∨ rA r < 1 ∨ 1000 < rA r ∨ rB r < -1000 ∨ 1000 < rB r)) (hb : 0 ≤ b ∧ b ≤ 63) : 0 ≤ t * b ∧ t * b ≤ 64512 := by
  refine ⟨Int.mul_nonneg (by omega) hb.1, ?_⟩
  have := Int.mul_le_mul (show t ≤ 1024 by omega) hb.2 hb.1 (show (0 : Int) ≤ 1024 by decide)
  omega
theorem words_rng (r : El tRot) (t : Int) : 0 ≤ wordsZ r t ∧ wordsZ r t ≤ 1000000 := by
  unfold wordsZ
  split
  · omega
  · rename_i h
    split
    · omega
    · have hs : rA r * rA r + rB r * rB r ≤ 9223372036854775807 := by
        have e1 : (rA r * rA r).natAbs ≤ 1000 * 1000 := by rw [Int.natAbs_mul]; exact Nat.mul_le_mul (by omega) (by omega)
        have e2 : (rB r * rB r).natAbs ≤ 1000 * 1000 := by rw [Int.natAbs_mul]; exact Nat.mul_le_mul (by omega) (by omega)
        omega
      have := tb_rng h (bits_rng hs)
      omega
end
noncomputable def sp_lwords : Spec := { q := .un, ps := [tRot, .it .i64], rs := [.it .i64], fresh := true, pre := fun _ _ => none, post := fun _ x => ((), (wordsZ x.1 x.2.1, ())) }
noncomputable def iv_lwords (y : El sp_lwords.q) (x : Els sp_lwords.ps) : Nat → Option Inv := fun _ => none
noncomputable abbrev c_lwords : Cfg := cfgS (Try.f36).ntmps false [(63, sp_lbits.prim)]
def F_lwords (y : El sp_lwords.q) (x : Els sp_lwords.ps) : Prop :=
  (fun (i21 : Int) (i11 : Int) (i121 : Int) => (decide (i21 < (0 : Int)) = true → ((0 : Int), ()) = (wordsZ x.1 i21, ())) ∧ (decide (i21 < (0 : Int)) = false → (decide (i21 > (1024 : Int)) = true → ((0 : Int), ()) = (wordsZ x.1 i21, ())) ∧ (decide (i21 > (1024 : Int)) = false → (decide (IntKind.i64.wrap i11 < (1 : Int)) = true → ((0 : Int), ()) = (wordsZ x.1 i21, ())) ∧ (decide (IntKind.i64.wrap i11 < (1 : Int)) = false → (decide (IntKind.i64.wrap i11 > (1000 : Int)) = true → ((0 : Int), ()) = (wordsZ x.1 i21, ())) ∧ (decide (IntKind.i64.wrap i11 > (1000 : Int)) = false → (decide (IntKind.i64.wrap i121 < (-1000 : Int)) = true → ((0 : Int), ()) = (wordsZ x.1 i21, ())) ∧ (decide (IntKind.i64.wrap i121 < (-1000 : Int)) = false → (decide (IntKind.i64.wrap i121 > (1000 : Int)) = true → ((0 : Int), ()) = (wordsZ x.1 i21, ())) ∧ (decide (IntKind.i64.wrap i121 > (1000 : Int)) = false → (decide (i21 > (200 : Int)) = true → (decide (IntKind.i64.wrap i11 > (40 : Int)) = true → ((1000000 : Int), ()) = (wordsZ x.1 i21, ())) ∧ (decide (IntKind.i64.wrap i11 > (40 : Int)) = false → (decide (IntKind.i64.wrap i121 > (40 : Int)) = true → ((1000000 : Int), ()) = (wordsZ x.1 i21, ())) ∧ (decide (IntKind.i64.wrap i121 > (40 : Int)) = false → (decide (IntKind.i64.wrap i121 < (-40 : Int)) = true → ((1000000 : Int), ()) = (wordsZ x.1 i21, ())) ∧ (decide (IntKind.i64.wrap i121 < (-40 : Int)) = false → ((-9223372036854775808 : Int) ≤ IntKind.i64.wrap i11 * IntKind.i64.wrap i11 ∧ IntKind.i64.wrap i11 * IntKind.i64.wrap i11 ≤ (9223372036854775807 : Int)) ∧ ((-9223372036854775808 : Int) ≤ IntKind.i64.wrap i121 * IntKind.i64.wrap i121 ∧ IntKind.i64.wrap i121 * IntKind.i64.wrap i121 ≤ (9223372036854775807 : Int)) ∧ ((-9223372036854775808 : Int) ≤ IntKind.i64.wrap i11 * IntKind.i64.wrap i11 + IntKind.i64.wrap i121 * IntKind.i64.wrap i121 ∧ IntKind.i64.wrap i11 * IntKind.i64.wrap i11 + IntKind.i64.wrap i121 * IntKind.i64.wrap i121 ≤ (9223372036854775807 : Int)) ∧ ∀ (r : El Ty.un × Els [Ty.it IntKind.i64]), r = ((), bitsZ (IntKind.i64.wrap i11 * IntKind.i64.wrap i11 + IntKind.i64.wrap i121 * IntKind.i64.wrap i121), ()) → ((-9223372036854775808 : Int) ≤ i21 * r.2.1 ∧ i21 * r.2.1 ≤ (9223372036854775807 : Int)) ∧ ((0 : Int) ≤ i21 * r.2.1 ∧ (0 : Int) < (32 : Int)) ∧ ((-9223372036854775808 : Int) ≤ i21 * r.2.1 / (32 : Int) + (1 : Int) ∧ i21 * r.2.1 / (32 : Int) + (1 : Int) ≤ (9223372036854775807 : Int)) ∧ (i21 * r.2.1 / (32 : Int) + (1 : Int), ()) = (wordsZ x.1 i21, ()))))) ∧ (decide (i21 > (200 : Int)) = false → ((-9223372036854775808 : Int) ≤ IntKind.i64.wrap i11 * IntKind.i64.wrap i11 ∧ IntKind.i64.wrap i11 * IntKind.i64.wrap i11 ≤ (9223372036854775807 : Int)) ∧ ((-9223372036854775808 : Int) ≤ IntKind.i64.wrap i121 * IntKind.i64.wrap i121 ∧ IntKind.i64.wrap i121 * IntKind.i64.wrap i121 ≤ (9223372036854775807 : Int)) ∧ ((-9223372036854775808 : Int) ≤ IntKind.i64.wrap i11 * IntKind.i64.wrap i11 + IntKind.i64.wrap i121 * IntKind.i64.wrap i121 ∧ IntKind.i64.wrap i11 * IntKind.i64.wrap i11 + IntKind.i64.wrap i121 * IntKind.i64.wrap i121 ≤ (9223372036854775807 : Int)) ∧ ∀ (r : El Ty.un × Els [Ty.it IntKind.i64]), r = ((), bitsZ (IntKind.i64.wrap i11 * IntKind.i64.wrap i11 + IntKind.i64.wrap i121 * IntKind.i64.wrap i121), ()) → ((-9223372036854775808 : Int) ≤ i21 * r.2.1 ∧ i21 * r.2.1 ≤ (9223372036854775807 : Int)) ∧ ((0 : Int) ≤ i21 * r.2.1 ∧ (0 : Int) < (32 : Int)) ∧ ((-9223372036854775808 : Int) ≤ i21 * r.2.1 / (32 : Int) + (1 : Int) ∧ i21 * r.2.1 / (32 : Int) + (1 : Int) ≤ (9223372036854775807 : Int)) ∧ (i21 * r.2.1 / (32 : Int) + (1 : Int), ()) = (wordsZ x.1 i21, ()))))))))) x.2.1 x.1.1 x.1.2.1
set_option maxRecDepth 100000 in
theorem w_lwords (y : El sp_lwords.q) (x : Els sp_lwords.ps) : aw c_lwords (iv_lwords y x) (codeOf Try.f36) 0 (retQ c_lwords sp_lwords (Try.f36).results.toList y x) (startT sp_lwords x) (startO sp_lwords y) 1 = F_lwords y x := by kernel_rfl
theorem m_lwords (y : El (.un)) (x : Els [tRot, .it .i64]) (h2 : wfE (.un) y) (h3 : wfEs [tRot, .it .i64] x) : F_lwords y x := by
  unfold F_lwords
  dsimp only
  simp only [wrap64_32 (i32_rng h3.1.1), wrap64_32 (i32_rng h3.1.2.1)]
  refine ⟨fun a => w_1 (.inl (ltT a)), fun a => ⟨fun b => w_1 (.inr (.inl (gtT b))), fun b => ⟨fun c => w_1 (.inr (.inr (.inl (ltT c)))), fun c => ⟨fun d => w_1 (.inr (.inr (.inr (.inl (gtT d))))), fun d => ⟨fun e => w_1 (.inr (.inr (.inr (.inr (.inl (ltT e)))))), fun e => ⟨fun f => w_1 (.inr (.inr (.inr (.inr (.inr (gtT f)))))), fun f => ?_⟩⟩⟩⟩⟩⟩
  have c1 := w_c1 (r := x.1) (ltF a) (gtF b) (ltF c) (gtF d) (ltF e) (gtF f)
  have s1 := sq_1000 (z := x.1.1) (Int.le_trans (by decide) (ltF c)) (gtF d)
  have s2 := sq_1000 (z := x.1.2.1) (ltF e) (gtF f)
  refine ⟨fun g => ⟨fun h => w_2 c1 ⟨gtT g, .inl (gtT h)⟩, fun h => ⟨fun i => w_2 c1 ⟨gtT g, .inr (.inl (gtT i))⟩, fun i => ⟨fun j => w_2 c1 ⟨gtT g, .inr (.inr (ltT j))⟩, fun j => ?_⟩⟩⟩, fun g => ?_⟩
  · have c2 := w_c2 (r := x.1) (t := x.2.1) (gtF h) (gtF i) (ltF j)
    refine ⟨⟨by omega, by omega⟩, ⟨by omega, by omega⟩, ⟨by omega, by omega⟩, ?_⟩
    rintro _ rfl
    have tb := tb_rng (r := x.1) (t := x.2.1) (b := bitsZ (x.1.1 * x.1.1 + x.1.2.1 * x.1.2.1)) c1 (bits_rng (Int.le_trans (Int.add_le_add s1.2 s2.2) (by decide)))
    dsimp only
    exact ⟨⟨Int.le_trans (by decide) tb.1, Int.le_trans tb.2 (by decide)⟩, ⟨tb.1, by decide⟩, ⟨by have := Int.ediv_nonneg tb.1 (show (0 : Int) ≤ 32 by decide); omega, by have := Int.ediv_le_self 32 tb.1; omega⟩, w_3 (r := x.1) c1 c2⟩
  · have c2 := w_c3 (r := x.1) (gtF g)
    refine ⟨⟨by omega, by omega⟩, ⟨by omega, by omega⟩, ⟨by omega, by omega⟩, ?_⟩
    rintro _ rfl
    have tb := tb_rng (r := x.1) (t := x.2.1) (b := bitsZ (x.1.1 * x.1.1 + x.1.2.1 * x.1.2.1)) c1 (bits_rng (Int.le_trans (Int.add_le_add s1.2 s2.2) (by decide)))
    dsimp only
    exact ⟨⟨Int.le_trans (by decide) tb.1, Int.le_trans tb.2 (by decide)⟩, ⟨tb.1, by decide⟩, ⟨by have := Int.ediv_nonneg tb.1 (show (0 : Int) ≤ 32 by decide); omega, by have := Int.ediv_le_self 32 tb.1; omega⟩, w_3 (r := x.1) c1 c2⟩
set_option maxRecDepth 100000 in
theorem fo_lwords : FnOk Try.prog 36 sp_lwords := fnOk_of (C := c_lwords) iv_lwords Try.func36 rfl (by kernel_rfl) tys_ok (prims_cons (spec_prim fo_lbits) prims_nil) mixed_ (Nat.le_refl _) rfl fun y x h1 h2 h3 h4 =>
  Eq.mpr (w_lwords y x) (m_lwords y x h2 h3)
def wsum (l : List (El tTide)) (t : Int) : Nat → Int
  | 0 => 0
  | i + 1 => wsum l t i + wordsZ (tdAt l i).2.1 t
def workZ (p : El tPort) (t : Int) : Int := if 40 < p.2.2.1.length then 0 else p.2.2.1.length * wsum p.2.2.1 t p.2.2.1.length * wsum p.2.2.1 t p.2.2.1.length
theorem wsum_rng (l : List (El tTide)) (t : Int) : ∀ i, 0 ≤ wsum l t i ∧ wsum l t i ≤ 1000000 * i
  | 0 => ⟨Int.le_refl _, by show (0 : Int) ≤ 1000000 * ((0 : Nat) : Int); decide⟩
  | i + 1 => by
    have ih := wsum_rng l t i
    have w := words_rng (tdAt l i).2.1 t
    have e : wsum l t (i + 1) = wsum l t i + wordsZ (tdAt l i).2.1 t := rfl
    rw [e]
    omega
theorem wk_rng {n s : Int} (hn : 0 ≤ n ∧ n ≤ 40) (hs : 0 ≤ s ∧ s ≤ 40000000) : (0 ≤ n * s ∧ n * s ≤ 1600000000) ∧ 0 ≤ n * s * s ∧ n * s * s ≤ 64000000000000000 := by
  have a := Int.mul_nonneg hn.1 hs.1
  have b := Int.mul_le_mul hn.2 hs.2 hs.1 (show (0 : Int) ≤ 40 by decide)
  have c := Int.mul_nonneg a hs.1
  have d := Int.mul_le_mul (show n * s ≤ 1600000000 by omega) hs.2 hs.1 (show (0 : Int) ≤ 1600000000 by decide)
  omega
theorem work_rng (p : El tPort) (t : Int) : 0 ≤ workZ p t ∧ workZ p t ≤ 64000000000000000 := by
  unfold workZ
  split
  · omega
  · have := wsum_rng p.2.2.1 t p.2.2.1.length
    exact (wk_rng ⟨by omega, by omega⟩ ⟨this.1, by omega⟩).2
noncomputable def sp_lWork : Spec := { q := .un, ps := [tPort, .it .i64], rs := [.it .i64], fresh := true, pre := fun _ _ => none, post := fun _ x => ((), (workZ x.1 x.2.1, ())) }
noncomputable def iv_lWork (y : El sp_lWork.q) (x : Els sp_lWork.ps) : Nat → Option Inv := fun k => if k = 0 then some { X := Nat, tm := fun i => [(1, .c (.sc (.int .i64 x.2.1))), (2, .c (.pv 1 0)), (5, .c (.sc (.int .i64 (wsum x.1.2.2.1 x.2.1 i)))), (6, .c (.sc (.int .i64 i)))], ob := fun i => [(1, .var (cel tPort x.1))], n := 2, I := fun i => i ≤ x.1.2.2.1.length, μ := fun i => x.1.2.2.1.length - i } else none
noncomputable abbrev c_lWork : Cfg := cfgS (Try.f14).ntmps false [(36, sp_lwords.prim)]
def F_lWork (y : El sp_lWork.q) (x : Els sp_lWork.ps) : Prop :=
  (decide ((↑(List.length x.1.2.2.1) : Int) > (40 : Int)) = true → ((0 : Int), ()) = (workZ x.1 x.2.1, ())) ∧ (decide ((↑(List.length x.1.2.2.1) : Int) > (40 : Int)) = false → (∃ (x_1 : Nat), x.2.1 = x.2.1 ∧ wsum x.1.2.2.1 x.2.1 x_1 = (0 : Int) ∧ (↑x_1 : Int) = (0 : Int) ∧ x.1.1 = x.1.1 ∧ x.1.2.1.1 = x.1.2.1.1 ∧ x.1.2.1.2.1 = x.1.2.1.2.1 ∧ x.1.2.1.2.2.1 = x.1.2.1.2.2.1 ∧ x.1.2.2.1 = x.1.2.2.1 ∧ x_1.le (List.length x.1.2.2.1)) ∧ ∀ (x_1 : Nat), x_1.le (List.length x.1.2.2.1) → (decide ((↑x_1 : Int) < (↑(List.length x.1.2.2.1) : Int)) = true → ((0 : Int) ≤ (↑x_1 : Int) ∧ (↑x_1 : Int) < (↑(List.length x.1.2.2.1) : Int)) ∧ ∀ (r : El Ty.un × Els [Ty.it IntKind.i64]), r = ((), wordsZ (List.getD x.1.2.2.1 (↑x_1 : Int).toNat (dfl tTide)).2.1 x.2.1, ()) → ((-9223372036854775808 : Int) ≤ wsum x.1.2.2.1 x.2.1 x_1 + r.2.1 ∧ wsum x.1.2.2.1 x.2.1 x_1 + r.2.1 ≤ (9223372036854775807 : Int)) ∧ ((-9223372036854775808 : Int) ≤ (↑x_1 : Int) + (1 : Int) ∧ (↑x_1 : Int) + (1 : Int) ≤ (9223372036854775807 : Int)) ∧ ∃ (x' : Nat), x.2.1 = x.2.1 ∧ wsum x.1.2.2.1 x.2.1 x' = wsum x.1.2.2.1 x.2.1 x_1 + r.2.1 ∧ (↑x' : Int) = (↑x_1 : Int) + (1 : Int) ∧ x.1.1 = x.1.1 ∧ x.1.2.1.1 = x.1.2.1.1 ∧ x.1.2.1.2.1 = x.1.2.1.2.1 ∧ x.1.2.1.2.2.1 = x.1.2.1.2.2.1 ∧ x.1.2.2.1 = x.1.2.2.1 ∧ x'.le (List.length x.1.2.2.1) ∧ List.length x.1.2.2.1 - x' < List.length x.1.2.2.1 - x_1) ∧ (decide ((↑x_1 : Int) < (↑(List.length x.1.2.2.1) : Int)) = false → ((-9223372036854775808 : Int) ≤ (↑(List.length x.1.2.2.1) : Int) * wsum x.1.2.2.1 x.2.1 x_1 ∧ (↑(List.length x.1.2.2.1) : Int) * wsum x.1.2.2.1 x.2.1 x_1 ≤ (9223372036854775807 : Int)) ∧ ((-9223372036854775808 : Int) ≤ (↑(List.length x.1.2.2.1) : Int) * wsum x.1.2.2.1 x.2.1 x_1 * wsum x.1.2.2.1 x.2.1 x_1 ∧ (↑(List.length x.1.2.2.1) : Int) * wsum x.1.2.2.1 x.2.1 x_1 * wsum x.1.2.2.1 x.2.1 x_1 ≤ (9223372036854775807 : Int)) ∧ ((↑(List.length x.1.2.2.1) : Int) * wsum x.1.2.2.1 x.2.1 x_1 * wsum x.1.2.2.1 x.2.1 x_1, ()) = (workZ x.1 x.2.1, ())))
set_option maxRecDepth 100000 in
theorem w_lWork (y : El sp_lWork.q) (x : Els sp_lWork.ps) : aw c_lWork (iv_lWork y x) (codeOf Try.f14) 0 (retQ c_lWork sp_lWork (Try.f14).results.toList y x) (startT sp_lWork x) (startO sp_lWork y) 1 = F_lWork y x := by kernel_rfl
theorem m_lWork (y : El (.un)) (x : Els [tPort, .it .i64]) (h2 : wfE (.un) y) (h3 : wfEs [tPort, .it .i64] x) : F_lWork y x := by
  unfold F_lWork
  refine ⟨fun h => ?_, fun h => ⟨⟨0, rfl, rfl, rfl, rfl, rfl, rfl, rfl, rfl, Nat.zero_le _⟩, fun i hi => ⟨fun l => ?_, fun l => ?_⟩⟩⟩
  · have h := gtT h
    unfold workZ
    rw [if_pos (by omega)]
  · have hi : i ≤ x.1.2.2.1.length := hi
    have h := gtF h
    have l := ltT l
    have il : i + 1 ≤ x.1.2.2.1.length := by omega
    refine ⟨⟨by omega, l⟩, ?_⟩
    rintro _ rfl
    have w1 : 0 ≤ wordsZ (List.getD x.1.2.2.1 ((i : Int)).toNat (dfl tTide)).2.1 x.2.1 ∧ wordsZ (List.getD x.1.2.2.1 ((i : Int)).toNat (dfl tTide)).2.1 x.2.1 ≤ 1000000 := words_rng _ _
    have w2 := wsum_rng x.1.2.2.1 x.2.1 i
    dsimp only
    refine ⟨⟨by omega, by omega⟩, by omega, i + 1, ?_⟩
    and_intros
    all_goals first | rfl | exact il | omega
  · have hi : i ≤ x.1.2.2.1.length := hi
    have h := gtF h
    have l := ltF l
    have ei : i = x.1.2.2.1.length := by omega
    rw [ei]
    have w2 := wsum_rng x.1.2.2.1 x.2.1 x.1.2.2.1.length
    obtain ⟨k1, k2⟩ := wk_rng (n := x.1.2.2.1.length) (s := wsum x.1.2.2.1 x.2.1 x.1.2.2.1.length) ⟨by omega, by omega⟩ ⟨w2.1, by omega⟩
    refine ⟨⟨Int.le_trans (by decide) k1.1, Int.le_trans k1.2 (by decide)⟩, ⟨Int.le_trans (by decide) k2.1, Int.le_trans k2.2 (by decide)⟩, ?_⟩
    unfold workZ
    rw [if_neg (by omega)]
set_option maxRecDepth 100000 in
theorem fo_lWork : FnOk Try.prog 14 sp_lWork := fnOk_of (C := c_lWork) iv_lWork Try.func14 rfl (by kernel_rfl) tys_ok (prims_cons (spec_prim fo_lwords) prims_nil) mixed_ (Nat.le_refl _) rfl fun y x h1 h2 h3 h4 =>
  Eq.mpr (w_lWork y x) (m_lWork y x h2 h3)
def lsum (p : El tPort) (a : Int) : Nat → Int
  | 0 => 0
  | i + 1 => lsum p a i + workZ p (a + i)
def longZ (p : El tPort) (a b : Int) : Bool := if 40 < p.2.2.1.length ∨ a < 0 ∨ 1025 < b ∨ b < a ∨ 40 < b - a then decide (40 < p.2.2.1.length ∨ 0 ≤ a ∧ b ≤ 1025 ∧ a ≤ b) else decide (1000000 < lsum p a (b - a).toNat ∨ 201 < b ∧ 1 < b - a)
theorem lsum_rng (p : El tPort) (a : Int) : ∀ i, 0 ≤ lsum p a i ∧ lsum p a i ≤ 64000000000000000 * i
  | 0 => ⟨Int.le_refl _, by show (0 : Int) ≤ 64000000000000000 * ((0 : Nat) : Int); decide⟩
  | i + 1 => by
    have ih := lsum_rng p a i
    have w := work_rng p (a + i)
    have e : lsum p a (i + 1) = lsum p a i + workZ p (a + i) := rfl
    rw [e]
    omega
section
variable {p : El tPort} {a b : Int}
theorem lz_a (c : 40 < p.2.2.1.length ∨ a < 0 ∨ 1025 < b ∨ b < a ∨ 40 < b - a) : (decide (((p.2.2.1.length : Nat) : Int) > 40) = true → (true, ()) = (longZ p a b, ())) ∧ (decide (((p.2.2.1.length : Nat) : Int) > 40) = false → (decide (a ≥ 0) = true → (decide (b ≤ 1025) = true → (decide (a ≤ b), ()) = (longZ p a b, ())) ∧ (decide (b ≤ 1025) = false → (false, ()) = (longZ p a b, ()))) ∧ (decide (a ≥ 0) = false → (false, ()) = (longZ p a b, ()))) := by
  unfold longZ
  rw [if_pos c]
  refine ⟨fun h => ?_, fun h => ⟨fun i => ⟨fun j => ?_, fun j => ?_⟩, fun i => ?_⟩⟩
  all_goals
    simp only [decide_eq_true_eq, decide_eq_false_iff_not] at *
    refine congrArg (fun b => (b, ())) ?_
    rw [Bool.eq_iff_iff]
    simp only [decide_eq_true_eq, true_iff, Bool.false_eq_true, false_iff]
    omega
theorem lz_b (c : ¬ (40 < p.2.2.1.length ∨ a < 0 ∨ 1025 < b ∨ b < a ∨ 40 < b - a)) : longZ p a b = decide (1000000 < lsum p a (b - a).toNat ∨ 201 < b ∧ 1 < b - a) := if_neg c
end
noncomputable def sp_lLong : Spec := { q := .un, ps := [tPort, .it .i64, .it .i64], rs := [.bo], fresh := true, pre := fun _ _ => none, post := fun _ x => ((), (longZ x.1 x.2.1 x.2.2.1, ())) }
noncomputable def iv_lLong (y : El sp_lLong.q) (x : Els sp_lLong.ps) : Nat → Option Inv := fun k => if k = 0 then some { X := Nat, tm := fun i => [(1, .c (.sc (.int .i64 x.2.1))), (2, .c (.sc (.int .i64 x.2.2.1))), (3, .c (.pv 1 0)), (7, .c (.sc (.int .i64 (lsum x.1 x.2.1 i)))), (8, .c (.sc (.int .i64 (x.2.1 + i))))], ob := fun i => [(1, .var (cel tPort x.1))], n := 2, I := fun i => i ≤ (x.2.2.1 - x.2.1).toNat, μ := fun i => (x.2.2.1 - x.2.1).toNat - i } else none
noncomputable abbrev c_lLong : Cfg := cfgS (Try.f7).ntmps false [(14, sp_lWork.prim)]
def F_lLong (y : El sp_lLong.q) (x : Els sp_lLong.ps) : Prop :=
  (fun (i21 : Int) (i221 : Int) => (decide ((↑(List.length x.1.2.2.1) : Int) > (40 : Int)) = true → (decide ((↑(List.length x.1.2.2.1) : Int) > (40 : Int)) = true → (true, ()) = (longZ x.1 i21 i221, ())) ∧ (decide ((↑(List.length x.1.2.2.1) : Int) > (40 : Int)) = false → (decide (i21 ≥ (0 : Int)) = true → (decide (i221 ≤ (1025 : Int)) = true → (decide (i21 ≤ i221), ()) = (longZ x.1 i21 i221, ())) ∧ (decide (i221 ≤ (1025 : Int)) = false → (false, ()) = (longZ x.1 i21 i221, ()))) ∧ (decide (i21 ≥ (0 : Int)) = false → (false, ()) = (longZ x.1 i21 i221, ())))) ∧ (decide ((↑(List.length x.1.2.2.1) : Int) > (40 : Int)) = false → (decide (i21 < (0 : Int)) = true → (decide ((↑(List.length x.1.2.2.1) : Int) > (40 : Int)) = true → (true, ()) = (longZ x.1 i21 i221, ())) ∧ (decide ((↑(List.length x.1.2.2.1) : Int) > (40 : Int)) = false → (decide (i21 ≥ (0 : Int)) = true → (decide (i221 ≤ (1025 : Int)) = true → (decide (i21 ≤ i221), ()) = (longZ x.1 i21 i221, ())) ∧ (decide (i221 ≤ (1025 : Int)) = false → (false, ()) = (longZ x.1 i21 i221, ()))) ∧ (decide (i21 ≥ (0 : Int)) = false → (false, ()) = (longZ x.1 i21 i221, ())))) ∧ (decide (i21 < (0 : Int)) = false → (decide (i221 > (1025 : Int)) = true → (decide ((↑(List.length x.1.2.2.1) : Int) > (40 : Int)) = true → (true, ()) = (longZ x.1 i21 i221, ())) ∧ (decide ((↑(List.length x.1.2.2.1) : Int) > (40 : Int)) = false → (decide (i21 ≥ (0 : Int)) = true → (decide (i221 ≤ (1025 : Int)) = true → (decide (i21 ≤ i221), ()) = (longZ x.1 i21 i221, ())) ∧ (decide (i221 ≤ (1025 : Int)) = false → (false, ()) = (longZ x.1 i21 i221, ()))) ∧ (decide (i21 ≥ (0 : Int)) = false → (false, ()) = (longZ x.1 i21 i221, ())))) ∧ (decide (i221 > (1025 : Int)) = false → (decide (i21 > i221) = true → (decide ((↑(List.length x.1.2.2.1) : Int) > (40 : Int)) = true → (true, ()) = (longZ x.1 i21 i221, ())) ∧ (decide ((↑(List.length x.1.2.2.1) : Int) > (40 : Int)) = false → (decide (i21 ≥ (0 : Int)) = true → (decide (i221 ≤ (1025 : Int)) = true → (decide (i21 ≤ i221), ()) = (longZ x.1 i21 i221, ())) ∧ (decide (i221 ≤ (1025 : Int)) = false → (false, ()) = (longZ x.1 i21 i221, ()))) ∧ (decide (i21 ≥ (0 : Int)) = false → (false, ()) = (longZ x.1 i21 i221, ())))) ∧ (decide (i21 > i221) = false → ((-9223372036854775808 : Int) ≤ i221 - i21 ∧ i221 - i21 ≤ (9223372036854775807 : Int)) ∧ (decide (i221 - i21 > (40 : Int)) = true → (decide ((↑(List.length x.1.2.2.1) : Int) > (40 : Int)) = true → (true, ()) = (longZ x.1 i21 i221, ())) ∧ (decide ((↑(List.length x.1.2.2.1) : Int) > (40 : Int)) = false → (decide (i21 ≥ (0 : Int)) = true → (decide (i221 ≤ (1025 : Int)) = true → (decide (i21 ≤ i221), ()) = (longZ x.1 i21 i221, ())) ∧ (decide (i221 ≤ (1025 : Int)) = false → (false, ()) = (longZ x.1 i21 i221, ()))) ∧ (decide (i21 ≥ (0 : Int)) = false → (false, ()) = (longZ x.1 i21 i221, ())))) ∧ (decide (i221 - i21 > (40 : Int)) = false → (∃ (x_1 : Nat), i21 = i21 ∧ i221 = i221 ∧ lsum x.1 i21 x_1 = (0 : Int) ∧ i21 + (↑x_1 : Int) = i21 ∧ x.1.1 = x.1.1 ∧ x.1.2.1.1 = x.1.2.1.1 ∧ x.1.2.1.2.1 = x.1.2.1.2.1 ∧ x.1.2.1.2.2.1 = x.1.2.1.2.2.1 ∧ x.1.2.2.1 = x.1.2.2.1 ∧ x_1.le (Int.toNat (i221 - i21))) ∧ ∀ (x_1 : Nat), x_1.le (Int.toNat (i221 - i21)) → (decide (i21 + (↑x_1 : Int) < i221) = true → ∀ (r : El Ty.un × Els [Ty.it IntKind.i64]), r = ((), workZ x.1 (i21 + (↑x_1 : Int)), ()) → ((-9223372036854775808 : Int) ≤ lsum x.1 i21 x_1 + r.2.1 ∧ lsum x.1 i21 x_1 + r.2.1 ≤ (9223372036854775807 : Int)) ∧ ((-9223372036854775808 : Int) ≤ i21 + (↑x_1 : Int) + (1 : Int) ∧ i21 + (↑x_1 : Int) + (1 : Int) ≤ (9223372036854775807 : Int)) ∧ ∃ (x' : Nat), i21 = i21 ∧ i221 = i221 ∧ lsum x.1 i21 x' = lsum x.1 i21 x_1 + r.2.1 ∧ i21 + (↑x' : Int) = i21 + (↑x_1 : Int) + (1 : Int) ∧ x.1.1 = x.1.1 ∧ x.1.2.1.1 = x.1.2.1.1 ∧ x.1.2.1.2.1 = x.1.2.1.2.1 ∧ x.1.2.1.2.2.1 = x.1.2.1.2.2.1 ∧ x.1.2.2.1 = x.1.2.2.1 ∧ x'.le (Int.toNat (i221 - i21)) ∧ Int.toNat (i221 - i21) - x' < Int.toNat (i221 - i21) - x_1) ∧ (decide (i21 + (↑x_1 : Int) < i221) = false → (decide (lsum x.1 i21 x_1 > (1000000 : Int)) = true → (true, ()) = (longZ x.1 i21 i221, ())) ∧ (decide (lsum x.1 i21 x_1 > (1000000 : Int)) = false → (decide (i221 > (201 : Int)) = true → ((-9223372036854775808 : Int) ≤ i221 - i21 ∧ i221 - i21 ≤ (9223372036854775807 : Int)) ∧ (decide (i221 - i21 > (1 : Int)), ()) = (longZ x.1 i21 i221, ())) ∧ (decide (i221 > (201 : Int)) = false → (false, ()) = (longZ x.1 i21 i221, ())))))))))) x.2.1 x.2.2.1
set_option maxRecDepth 100000 in
theorem w_lLong (y : El sp_lLong.q) (x : Els sp_lLong.ps) : aw c_lLong (iv_lLong y x) (codeOf Try.f7) 0 (retQ c_lLong sp_lLong (Try.f7).results.toList y x) (startT sp_lLong x) (startO sp_lLong y) 1 = F_lLong y x := by kernel_rfl
theorem m_lLong (y : El (.un)) (x : Els [tPort, .it .i64, .it .i64]) (h2 : wfE (.un) y) (h3 : wfEs [tPort, .it .i64, .it .i64] x) : F_lLong y x := by
  unfold F_lLong
  dsimp only
  refine ⟨fun h => lz_a (.inl (by have := gtT h; omega)), fun h => ⟨fun a => lz_a (.inr (.inl (ltT a))), fun a => ⟨fun b => lz_a (.inr (.inr (.inl (gtT b)))), fun b => ⟨fun c => lz_a (.inr (.inr (.inr (.inl (gtT c))))), fun c => ?_⟩⟩⟩⟩
  have h := gtF h
  have a := ltF a
  have b := gtF b
  have c := gtF c
  refine ⟨by omega, fun d => lz_a (.inr (.inr (.inr (.inr (gtT d))))), fun d => ?_⟩
  have d := gtF d
  rw [lz_b (p := x.1) (a := x.2.1) (b := x.2.2.1) (by omega)]
  refine ⟨⟨0, rfl, rfl, rfl, Int.add_zero _, rfl, rfl, rfl, rfl, rfl, Nat.zero_le _⟩, fun k hk => ⟨fun l => ?_, fun l => ?_⟩⟩
  · have hk : k ≤ Int.toNat (x.2.2.1 - x.2.1) := hk
    have l := ltT l
    have kl : k + 1 ≤ Int.toNat (x.2.2.1 - x.2.1) := by omega
    rintro _ rfl
    have w1 := work_rng x.1 (x.2.1 + k)
    have w2 := lsum_rng x.1 x.2.1 k
    dsimp only
    refine ⟨⟨by omega, by omega⟩, by omega, k + 1, ?_⟩
    and_intros
    all_goals first | rfl | exact kl | omega
  · have hk : k ≤ Int.toNat (x.2.2.1 - x.2.1) := hk
    have l := ltF l
    have ek : k = Int.toNat (x.2.2.1 - x.2.1) := by omega
    rw [← ek]
    refine ⟨fun m => ?_, fun m => ⟨fun n => ⟨by omega, ?_⟩, fun n => ?_⟩⟩
    · rw [decide_eq_true (.inl (gtT m))]
    · have m := gtF m
      have n := gtT n
      refine congrArg (fun b => (b, ())) ?_
      rw [Bool.eq_iff_iff, decide_eq_true_eq, decide_eq_true_eq]
      exact ⟨fun o => .inr ⟨n, o⟩, fun o => by rcases o with o | o; exact absurd o (by omega); exact o.2⟩
    · have m := gtF m
      have n := gtF n
      rw [decide_eq_false (by omega)]
set_option maxRecDepth 100000 in
theorem fo_lLong : FnOk Try.prog 7 sp_lLong := fnOk_of (C := c_lLong) iv_lLong Try.func7 rfl (by kernel_rfl) tys_ok (prims_cons (spec_prim fo_lWork) prims_nil) mixed_ (Nat.le_refl _) rfl fun y x h1 h2 h3 h4 =>
  Eq.mpr (w_lLong y x) (m_lLong y x h2 h3)
end Go.Proofs.Ytifonmdcicegdaa

namespace Go.Proofs.Ytifonmdcicegdaa
open Go

/-- top and bottom of one word each -/
def sm (q : Rat) : Bool := decide (q.num.natAbs < 4294967296) && decide (q.den < 4294967296)
theorem wd_one_len {n : Nat} (h : n < 4294967296) : (wd n).length ≤ 1 := wd_len_le n 1 (by show (n : Int) < 4294967296; omega)
theorem sm_lng {q : Rat} (h : sm q = true) : ¬ lng q = true := by
  unfold sm at h
  simp only [Bool.and_eq_true, decide_eq_true_eq] at h
  exact lng_of (Nat.le_trans (wd_one_len h.1) (by decide)) (Nat.le_trans (wd_one_len h.2) (by decide))
theorem fchk_s {q : Rat} (h : sm q = true) : fchk (enc q) = 0 := fchk_enc q (sm_lng h)
section
variable {p q r : Rat}
theorem fadd_s (h : (sm p && sm q && sm r) = true) (e : p + q = r) : fadd (enc p) (enc q) = (enc r, 0) := by
  simp only [Bool.and_eq_true] at h
  rw [fadd_enc (sm_lng h.1.1) (sm_lng h.1.2), e, tell_ok (sm_lng h.2)]
theorem fsub_s (h : (sm p && sm q && sm r) = true) (e : p - q = r) : fsub (enc p) (enc q) = (enc r, 0) := by
  simp only [Bool.and_eq_true] at h
  show both (enc p) (enc q) _ = _
  rw [both_ok (sm_lng h.1.1) (sm_lng h.1.2), e, tell_ok (sm_lng h.2)]
theorem fmul_s (h : (sm p && sm q && sm r) = true) (e : p * q = r) : fmul (enc p) (enc q) = (enc r, 0) := by
  simp only [Bool.and_eq_true] at h
  show both (enc p) (enc q) _ = _
  rw [both_ok (sm_lng h.1.1) (sm_lng h.1.2), e, tell_ok (sm_lng h.2)]
theorem fsmall_s {n d : Int} (h0 : d ≠ 0) (h : sm r = true) (e : mkRat (sg (decide (n < 0) != decide (d < 0)) n.natAbs) d.natAbs = r) : fsmall n d = (enc r, 0) := by
  unfold fsmall
  rw [if_neg h0, e, tell_ok (sm_lng h)]
end
def ge (p q : Rat) : Ga := ⟨enc p, enc q⟩
theorem gchk_s {p q : Rat} (h : (sm p && sm q) = true) : gchk (ge p q) = 0 := by
  simp only [Bool.and_eq_true] at h
  unfold gchk fchk2 ge
  rw [fchk_s h.1, fchk_s h.2]
  rfl
theorem gchk2_s {p q r s : Rat} (h : (sm p && sm q) = true) (k : (sm r && sm s) = true) : gchk2 (ge p q) (ge r s) = 0 := by
  unfold gchk2
  rw [gchk_s h, gchk_s k]
  rfl
section
variable {a b c d u v x y r i : Rat}
theorem gadd_s (h : (sm a && sm b && (sm c && sm d) && (sm r && sm i)) = true) (e1 : a + c = r) (e2 : b + d = i) : gadd (ge a b) (ge c d) = (ge r i, 0) := by
  simp only [Bool.and_eq_true] at h
  obtain ⟨⟨⟨h1, h2⟩, h3, h4⟩, h5, h6⟩ := h
  have g : gchk2 (ge a b) (ge c d) = 0 := gchk2_s (by rw [h1, h2]; rfl) (by rw [h3, h4]; rfl)
  have f1 := fadd_s (p := a) (q := c) (r := r) (by rw [h1, h3, h5]; rfl) e1
  have f2 := fadd_s (p := b) (q := d) (r := i) (by rw [h2, h4, h6]; rfl) e2
  rw [gadd_4 g (by show (fadd (enc a) (enc c)).2 = 0; rw [f1]) (by show (fadd (enc b) (enc d)).2 = 0; rw [f2])]
  show ((⟨(fadd (enc a) (enc c)).1, (fadd (enc b) (enc d)).1⟩ : Ga), (0 : Int)) = _
  rw [f1, f2]
  rfl
theorem gmul_s (h : (sm a && sm b && (sm c && sm d) && (sm u && sm v && (sm x && sm y)) && (sm r && sm i)) = true) (e1 : a * c = u) (e2 : b * d = v) (e3 : u - v = r) (e4 : a * d = x) (e5 : b * c = y) (e6 : x + y = i) : gmul (ge a b) (ge c d) = (ge r i, 0) := by
  simp only [Bool.and_eq_true] at h
  obtain ⟨⟨⟨⟨h1, h2⟩, h3, h4⟩, ⟨h5, h6⟩, h7, h8⟩, h9, h10⟩ := h
  have g : gchk2 (ge a b) (ge c d) = 0 := gchk2_s (by rw [h1, h2]; rfl) (by rw [h3, h4]; rfl)
  have f1 := fmul_s (p := a) (q := c) (r := u) (by rw [h1, h3, h5]; rfl) e1
  have f2 := fmul_s (p := b) (q := d) (r := v) (by rw [h2, h4, h6]; rfl) e2
  have f3 := fsub_s (p := u) (q := v) (r := r) (by rw [h5, h6, h9]; rfl) e3
  have f4 := fmul_s (p := a) (q := d) (r := x) (by rw [h1, h4, h7]; rfl) e4
  have f5 := fmul_s (p := b) (q := c) (r := y) (by rw [h2, h3, h8]; rfl) e5
  have f6 := fadd_s (p := x) (q := y) (r := i) (by rw [h7, h8, h10]; rfl) e6
  have p1 : wpair 0 (enc a) (enc c) (enc b) (enc d) true = (enc r, 0) := by
    rw [wpair_3 (by rw [f1]) (by rw [f2]), f1, f2, f3]
  have p2 : wpair 0 (enc a) (enc d) (enc b) (enc c) false = (enc i, 0) := by
    rw [wpair_4 (by rw [f4]) (by rw [f5]), f4, f5, f6]
  have q1 : wpair 0 (ge a b).re (ge c d).re (ge a b).im (ge c d).im true = (enc r, 0) := p1
  have q2 : wpair 0 (ge a b).re (ge c d).im (ge a b).im (ge c d).re false = (enc i, 0) := p2
  rw [gmul_4 g (by rw [q1]) (by rw [q2]), q1, q2]
  rfl
end
end Go.Proofs.Ytifonmdcicegdaa

namespace Go.Proofs.Ytifonmdcicegdaa
open Go Go.RowKit

def pickZ (a n : Int) : Int := a % n
theorem pick_law (a n : Int) (h : 0 < n) (k : n ≤ 4611686018427387904) : n ≠ 0 ∧ (decide (Int.tmod a n < 0) = true → (-9223372036854775808 ≤ Int.tmod a n + n ∧ Int.tmod a n + n ≤ 9223372036854775807) ∧ (Int.tmod a n + n, ()) = (pickZ a n, ())) ∧ (decide (Int.tmod a n < 0) = false → (Int.tmod a n, ()) = (pickZ a n, ())) := by
  have e := @Int.tmod_eq_emod a n
  have m0 := Int.emod_nonneg a (show n ≠ 0 by omega)
  have m1 := Int.emod_lt_of_pos a h
  have ea : ((n.natAbs : Nat) : Int) = n := by omega
  refine ⟨by omega, fun l => ?_, fun l => ?_⟩
  · have l := ltT l
    unfold pickZ
    split at e
    · simp only [Int.natCast_zero, Int.sub_zero] at e
      omega
    · exact ⟨by omega, by rw [show Int.tmod a n + n = a % n by omega]⟩
  · have l := ltF l
    unfold pickZ
    split at e
    · simp only [Int.natCast_zero, Int.sub_zero] at e
      rw [e]
    · rw [show Int.tmod a n = a % n by omega]
noncomputable def sp_kPick : Spec := { q := .un, ps := [.it .i64, .it .i64], rs := [.it .i64], fresh := true, pre := fun _ x => some (0 < (x.2.1 : Int) ∧ (x.2.1 : Int) ≤ 4611686018427387904), post := fun _ x => ((), (pickZ x.1 x.2.1, ())) }
noncomputable def iv_kPick (y : El sp_kPick.q) (x : Els sp_kPick.ps) : Nat → Option Inv := fun _ => none
noncomputable abbrev c_kPick : Cfg := cfgS (Try.f9).ntmps false []
def F_kPick (y : El sp_kPick.q) (x : Els sp_kPick.ps) : Prop :=
  (fun (i1 : Int) (i21 : Int) => i21 ≠ (0 : Int) ∧ (decide (Int.tmod i1 i21 < (0 : Int)) = true → ((-9223372036854775808 : Int) ≤ Int.tmod i1 i21 + i21 ∧ Int.tmod i1 i21 + i21 ≤ (9223372036854775807 : Int)) ∧ (Int.tmod i1 i21 + i21, ()) = (pickZ i1 i21, ())) ∧ (decide (Int.tmod i1 i21 < (0 : Int)) = false → (Int.tmod i1 i21, ()) = (pickZ i1 i21, ()))) x.1 x.2.1
set_option maxRecDepth 100000 in
theorem w_kPick (y : El sp_kPick.q) (x : Els sp_kPick.ps) : aw c_kPick (iv_kPick y x) (codeOf Try.f9) 0 (retQ c_kPick sp_kPick (Try.f9).results.toList y x) (startT sp_kPick x) (startO sp_kPick y) 1 = F_kPick y x := by kernel_rfl
theorem m_kPick (y : El (.un)) (x : Els [.it .i64, .it .i64]) (h2 : wfE (.un) y) (h3 : wfEs [.it .i64, .it .i64] x) (h4 : 0 < (x.2.1 : Int) ∧ (x.2.1 : Int) ≤ 4611686018427387904) : F_kPick y x := by
  unfold F_kPick
  dsimp only
  exact pick_law x.1 x.2.1 h4.1 h4.2
set_option maxRecDepth 100000 in
theorem fo_kPick : FnOk Try.prog 9 sp_kPick := fnOk_of (C := c_kPick) iv_kPick Try.func9 rfl (by kernel_rfl) tys_ok prims_nil mixed_ (Nat.le_refl _) rfl fun y x h1 h2 h3 h4 =>
  Eq.mpr (w_kPick y x) (m_kPick y x h2 h3 h4)
def sameRs (l m : List (El tR)) : Bool := decide (l.map toFr = m.map toFr)
noncomputable def sp_kSameRatios : Spec := { q := .un, ps := [.sl tR, .sl tR], rs := [.bo], fresh := true, pre := fun _ _ => none, post := fun _ x => ((), (sameRs x.1 x.2.1, ())) }
noncomputable def iv_kSameRatios (y : El sp_kSameRatios.q) (x : Els sp_kSameRatios.ps) : Nat → Option Inv := fun k => if k = 0 then some { X := Nat, tm := fun i => [(0, .c (.sl tR x.1)), (1, .c (.sl tR x.2.1)), (5, .c (.sc (.int .i64 i)))], ob := fun _ => [], n := 1, I := fun i => i ≤ x.1.length ∧ x.1.length = x.2.1.length ∧ (x.1.take i).map toFr = (x.2.1.take i).map toFr, μ := fun i => x.1.length - i } else none
noncomputable abbrev c_kSameRatios : Cfg := cfgS (Try.f10).ntmps false [(30, sp_kSameRatio.prim)]
def F_kSameRatios (y : El sp_kSameRatios.q) (x : Els sp_kSameRatios.ps) : Prop :=
  (((↑(List.length x.1) : Int) != (↑(List.length x.2.1) : Int)) = true → (false, ()) = (sameRs x.1 x.2.1, ())) ∧ (((↑(List.length x.1) : Int) != (↑(List.length x.2.1) : Int)) = false → (∃ (x_1 : Nat), x.1 = x.1 ∧ x.2.1 = x.2.1 ∧ (↑x_1 : Int) = (0 : Int) ∧ x_1 ≤ List.length x.1 ∧ List.length x.1 = List.length x.2.1 ∧ List.map toFr (List.take x_1 x.1) = List.map toFr (List.take x_1 x.2.1)) ∧ ∀ (x_1 : Nat), x_1 ≤ List.length x.1 ∧ List.length x.1 = List.length x.2.1 ∧ List.map toFr (List.take x_1 x.1) = List.map toFr (List.take x_1 x.2.1) → (decide ((↑x_1 : Int) < (↑(List.length x.1) : Int)) = true → ((0 : Int) ≤ (↑x_1 : Int) ∧ (↑x_1 : Int) < (↑(List.length x.1) : Int)) ∧ ((0 : Int) ≤ (↑x_1 : Int) ∧ (↑x_1 : Int) < (↑(List.length x.2.1) : Int)) ∧ ∀ (r : El Ty.un × Els [Ty.bo]), r = ((), decide (toFr (List.getD x.1 (↑x_1 : Int).toNat (dfl tR)) = toFr (List.getD x.2.1 (↑x_1 : Int).toNat (dfl tR))), ()) → ((!r.2.1) = true → (false, ()) = (sameRs x.1 x.2.1, ())) ∧ ((!r.2.1) = false → ((-9223372036854775808 : Int) ≤ (↑x_1 : Int) + (1 : Int) ∧ (↑x_1 : Int) + (1 : Int) ≤ (9223372036854775807 : Int)) ∧ ∃ (x' : Nat), x.1 = x.1 ∧ x.2.1 = x.2.1 ∧ (↑x' : Int) = (↑x_1 : Int) + (1 : Int) ∧ (x' ≤ List.length x.1 ∧ List.length x.1 = List.length x.2.1 ∧ List.map toFr (List.take x' x.1) = List.map toFr (List.take x' x.2.1)) ∧ List.length x.1 - x' < List.length x.1 - x_1)) ∧ (decide ((↑x_1 : Int) < (↑(List.length x.1) : Int)) = false → (true, ()) = (sameRs x.1 x.2.1, ())))
set_option maxRecDepth 100000 in
theorem w_kSameRatios (y : El sp_kSameRatios.q) (x : Els sp_kSameRatios.ps) : aw c_kSameRatios (iv_kSameRatios y x) (codeOf Try.f10) 0 (retQ c_kSameRatios sp_kSameRatios (Try.f10).results.toList y x) (startT sp_kSameRatios x) (startO sp_kSameRatios y) 1 = F_kSameRatios y x := by kernel_rfl
theorem m_kSameRatios (y : El (.un)) (x : Els [.sl tR, .sl tR]) (h2 : wfE (.un) y) (h3 : wfEs [.sl tR, .sl tR] x) : F_kSameRatios y x := by
  unfold F_kSameRatios
  have hL : x.1.length ≤ 9223372036854775807 := h3.1.1
  refine ⟨fun h => ?_, fun h => ⟨⟨0, rfl, rfl, rfl, Nat.zero_le _, by have := neF h; omega, rfl⟩, fun i hi => ⟨fun hl => ?_, fun hl => ?_⟩⟩⟩
  · have h := neT h
    unfold sameRs
    rw [decide_eq_false (fun e => h (by have := congrArg List.length e; simp at this; omega))]
  · obtain ⟨h0, h1, h2⟩ := hi
    have hl := ltT hl
    have a1 : i < x.1.length := by omega
    have a2 : i < x.2.1.length := by omega
    have g1 : x.1.getD ((i : Int)).toNat (dfl tR) = x.1[i] := by
      rw [Int.toNat_natCast, List.getD_eq_getElem?_getD, List.getElem?_eq_getElem a1]; rfl
    have g2 : x.2.1.getD ((i : Int)).toNat (dfl tR) = x.2.1[i] := by
      rw [Int.toNat_natCast, List.getD_eq_getElem?_getD, List.getElem?_eq_getElem a2]; rfl
    rw [g1, g2]
    refine ⟨⟨by omega, hl⟩, ⟨by omega, by omega⟩, ?_⟩
    rintro _ rfl
    refine ⟨fun k => ?_, fun k => ⟨by omega, i + 1, rfl, rfl, rfl, ⟨a1, h1, ?_⟩, by omega⟩⟩
    · have k : toFr x.1[i] ≠ toFr x.2.1[i] := of_decide_eq_false (ntt k)
      unfold sameRs
      rw [decide_eq_false (fun e => k ?_)]
      have := congrArg (fun l => l[i]?) e
      simpa [List.getElem?_eq_getElem a1, List.getElem?_eq_getElem a2] using this
    · have k : toFr x.1[i] = toFr x.2.1[i] := of_decide_eq_true (nff k)
      rw [List.take_add_one, List.take_add_one, List.map_append, List.map_append, h2, List.getElem?_eq_getElem a1, List.getElem?_eq_getElem a2]
      simp [k]
  · obtain ⟨h0, h1, h2⟩ := hi
    have hl := ltF hl
    rw [List.take_of_length_le (by omega), List.take_of_length_le (by omega)] at h2
    unfold sameRs
    rw [decide_eq_true h2]
set_option maxRecDepth 100000 in
theorem fo_kSameRatios : FnOk Try.prog 10 sp_kSameRatios := fnOk_of (C := c_kSameRatios) iv_kSameRatios Try.func10 rfl (by kernel_rfl) tys_ok (prims_cons (spec_prim fo_kSameRatio) prims_nil) mixed_ (Nat.le_refl _) rfl fun y x h1 h2 h3 h4 =>
  Eq.mpr (w_kSameRatios y x) (m_kSameRatios y x h2 h3)
noncomputable def sp_osmall : Spec := { q := .un, ps := [.it .i64, .it .i64], rs := [tR], fresh := true, pre := fun _ _ => none, post := fun _ x => ((), (ofFr (fsmall x.1 x.2.1).1, ())) }
noncomputable def iv_osmall (y : El sp_osmall.q) (x : Els sp_osmall.ps) : Nat → Option Inv := fun _ => none
noncomputable abbrev c_osmall : Cfg := cfgS (Try.f28).ntmps false [(43, sp_rSmall.prim)]
def F_osmall (y : El sp_osmall.q) (x : Els sp_osmall.ps) : Prop :=
  ∀ (r : El Ty.un × Els [tR, Ty.it IntKind.i64]), r = pR (fsmall x.1 x.2.1) → (r.2.1, ()) = (ofFr (fsmall x.1 x.2.1).1, ())
set_option maxRecDepth 100000 in
theorem w_osmall (y : El sp_osmall.q) (x : Els sp_osmall.ps) : aw c_osmall (iv_osmall y x) (codeOf Try.f28) 0 (retQ c_osmall sp_osmall (Try.f28).results.toList y x) (startT sp_osmall x) (startO sp_osmall y) 1 = F_osmall y x := by kernel_rfl
theorem m_osmall (y : El (.un)) (x : Els [.it .i64, .it .i64]) (h2 : wfE (.un) y) (h3 : wfEs [.it .i64, .it .i64] x) : F_osmall y x := by
  unfold F_osmall
  rintro _ rfl
  rfl
set_option maxRecDepth 100000 in
theorem fo_osmall : FnOk Try.prog 28 sp_osmall := fnOk_of (C := c_osmall) iv_osmall Try.func28 rfl (by kernel_rfl) tys_ok (prims_cons (spec_prim fo_rSmall) prims_nil) mixed_ (Nat.le_refl _) rfl fun y x h1 h2 h3 h4 =>
  Eq.mpr (w_osmall y x) (m_osmall y x h2 h3)
def exT : El tTide := (⟨#[77, 50]⟩, (2, 1, ()), ofGa ⟨(fsmall 5 1).1, (fsmall 0 1).1⟩, ())
def exP : El tPort := (⟨#[72, 117, 108, 108]⟩, ofFr (fsmall 1 2).1, [exT], ())
noncomputable def sp_oexample : Spec := { q := .un, ps := [], rs := [tPort], fresh := true, pre := fun _ _ => none, post := fun _ x => ((), (exP, ())) }
noncomputable def iv_oexample (y : El sp_oexample.q) (x : Els sp_oexample.ps) : Nat → Option Inv := fun _ => none
noncomputable abbrev c_oexample : Cfg := cfgS (Try.f27).ntmps false [(28, sp_osmall.prim), (18, sp_gInt.prim)]
def F_oexample (y : El sp_oexample.q) (x : Els sp_oexample.ps) : Prop :=
  ∀ (r : El Ty.un × Els [tR]), r = ((), ofFr (fsmall (1 : Int) (2 : Int)).1, ()) → ∀ (r_1 : El Ty.un × Els [tG]), r_1 = ((), ofGa { re := (fsmall (5 : Int) (1 : Int)).1, im := (fsmall (0 : Int) (1 : Int)).1 }, ()) → (({ data := #[(72 : UInt8), (117 : UInt8), (108 : UInt8), (108 : UInt8)] }, r.2.1, [({ data := #[(77 : UInt8), (50 : UInt8)] }, ((2 : Int), (1 : Int), ()), r_1.2)], ()), ()) = (exP, ())
set_option maxRecDepth 100000 in
theorem w_oexample (y : El sp_oexample.q) (x : Els sp_oexample.ps) : aw c_oexample (iv_oexample y x) (codeOf Try.f27) 0 (retQ c_oexample sp_oexample (Try.f27).results.toList y x) (startT sp_oexample x) (startO sp_oexample y) 1 = F_oexample y x := by kernel_rfl
theorem m_oexample (y : El (.un)) (x : Els []) (h2 : wfE (.un) y) (h3 : wfEs [] x) : F_oexample y x := by
  unfold F_oexample
  rintro _ rfl _ rfl
  rfl
set_option maxRecDepth 100000 in
theorem fo_oexample : FnOk Try.prog 27 sp_oexample := fnOk_of (C := c_oexample) iv_oexample Try.func27 rfl (by kernel_rfl) tys_ok (prims_cons (spec_prim fo_osmall) (prims_cons (spec_prim fo_gInt) prims_nil)) mixed_ (Nat.le_refl _) rfl fun y x h1 h2 h3 h4 =>
  Eq.mpr (w_oexample y x) (m_oexample y x h2 h3)
end Go.Proofs.Ytifonmdcicegdaa

