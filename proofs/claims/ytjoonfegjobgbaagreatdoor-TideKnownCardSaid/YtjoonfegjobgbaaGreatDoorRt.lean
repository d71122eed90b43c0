/- Texts of this claim, joined: P10 P11 P12 E2 Sh2 H2 E6. -/
import Derived.Shelf.Small.Wraps
import Derived.Ground.MpProg
import Derived.Shelf.Pu.ParseUintPublic10
import Derived.Shelf.Strings.Search2
import Derived.Shelf.Strings.Trim
import Derived.Test.YtjoonfegjobgbaaGreatDoorProg
import Derived.Shelf.Strings.SlTrimAscii
import Derived.Lib.AtoiErrMem
import Derived.WideShapes
import Derived.Test.YtjoonfegjobgbaaGreatDoorRs
set_option linter.unusedVariables false
set_option linter.unusedSimpArgs false
set_option maxRecDepth 100000
namespace Go.Proofs.YtjoonfegjobgbaaGreatDoor
open Go
def sm (q : Rat) : Bool := decide (q.num.natAbs < 4294967296) && decide (q.den < 4294967296)
theorem wd_one_len {n : Nat} (h : n < 4294967296) : (wd n).length ≤ 1 := wd_len_le n 1 (by show (n : Int) < 4294967296; omega)
theorem sm_lng {q : Rat} (h : sm q = true) : ¬ lng q = true := by
  unfold sm at h
  simp only [Bool.and_eq_true, decide_eq_true_eq] at h
  exact lng_of (Nat.le_trans (wd_one_len h.1) (by decide)) (Nat.le_trans (wd_one_len h.2) (by decide))
theorem fchk_s {q : Rat} (h : sm q = true) : fchk (enc q) = 0 := fchk_enc q (sm_lng h)
section
variable {p q r : Rat}
theorem fadd_s (h : (sm p && sm q && sm r) = true) (e : p + q = r) : fadd (enc p) (enc q) = (enc r, 0) := by
  simp only [Bool.and_eq_true] at h
  rw [fadd_enc (sm_lng h.1.1) (sm_lng h.1.2), e, tell_ok (sm_lng h.2)]
theorem fsub_s (h : (sm p && sm q && sm r) = true) (e : p - q = r) : fsub (enc p) (enc q) = (enc r, 0) := by
  simp only [Bool.and_eq_true] at h
  show both (enc p) (enc q) _ = _
  rw [both_ok (sm_lng h.1.1) (sm_lng h.1.2), e, tell_ok (sm_lng h.2)]
theorem fmul_s (h : (sm p && sm q && sm r) = true) (e : p * q = r) : fmul (enc p) (enc q) = (enc r, 0) := by
  simp only [Bool.and_eq_true] at h
  show both (enc p) (enc q) _ = _
  rw [both_ok (sm_lng h.1.1) (sm_lng h.1.2), e, tell_ok (sm_lng h.2)]
theorem fsmall_s {n d : Int} (h0 : d ≠ 0) (h : sm r = true) (e : mkRat (sg (decide (n < 0) != decide (d < 0)) n.natAbs) d.natAbs = r) : fsmall n d = (enc r, 0) := by
  unfold fsmall
  rw [if_neg h0, e, tell_ok (sm_lng h)]
end
def ge (p q : Rat) : Ga := ⟨enc p, enc q⟩
theorem gchk_s {p q : Rat} (h : (sm p && sm q) = true) : gchk (ge p q) = 0 := by
  simp only [Bool.and_eq_true] at h
  unfold gchk fchk2 ge
  rw [fchk_s h.1, fchk_s h.2]
  rfl
theorem gchk2_s {p q r s : Rat} (h : (sm p && sm q) = true) (k : (sm r && sm s) = true) : gchk2 (ge p q) (ge r s) = 0 := by
  unfold gchk2
  rw [gchk_s h, gchk_s k]
  rfl
section
variable {a b c d u v x y r i : Rat}
theorem gmul_s (h : (sm a && sm b && (sm c && sm d) && (sm u && sm v && (sm x && sm y)) && (sm r && sm i)) = true) (e1 : a * c = u) (e2 : b * d = v) (e3 : u - v = r) (e4 : a * d = x) (e5 : b * c = y) (e6 : x + y = i) : gmul (ge a b) (ge c d) = (ge r i, 0) := by
  simp only [Bool.and_eq_true] at h
  obtain ⟨⟨⟨⟨h1, h2⟩, h3, h4⟩, ⟨h5, h6⟩, h7, h8⟩, h9, h10⟩ := h
  have g : gchk2 (ge a b) (ge c d) = 0 := gchk2_s (by rw [h1, h2]; rfl) (by rw [h3, h4]; rfl)
  have f1 := fmul_s (p := a) (q := c) (r := u) (by rw [h1, h3, h5]; rfl) e1
  have f2 := fmul_s (p := b) (q := d) (r := v) (by rw [h2, h4, h6]; rfl) e2
  have f3 := fsub_s (p := u) (q := v) (r := r) (by rw [h5, h6, h9]; rfl) e3
  have f4 := fmul_s (p := a) (q := d) (r := x) (by rw [h1, h4, h7]; rfl) e4
  have f5 := fmul_s (p := b) (q := c) (r := y) (by rw [h2, h3, h8]; rfl) e5
  have f6 := fadd_s (p := x) (q := y) (r := i) (by rw [h7, h8, h10]; rfl) e6
  have p1 : wpair 0 (enc a) (enc c) (enc b) (enc d) true = (enc r, 0) := by
    rw [wpair_3 (by rw [f1]) (by rw [f2]), f1, f2, f3]
  have p2 : wpair 0 (enc a) (enc d) (enc b) (enc c) false = (enc i, 0) := by
    rw [wpair_4 (by rw [f4]) (by rw [f5]), f4, f5, f6]
  have q1 : wpair 0 (ge a b).re (ge c d).re (ge a b).im (ge c d).im true = (enc r, 0) := p1
  have q2 : wpair 0 (ge a b).re (ge c d).im (ge a b).im (ge c d).re false = (enc i, 0) := p2
  rw [gmul_4 g (by rw [q1]) (by rw [q2]), q1, q2]
  rfl
end
end Go.Proofs.YtjoonfegjobgbaaGreatDoor
namespace Go.Proofs.YtjoonfegjobgbaaGreatDoor
theorem fmul_enc {p q : Rat} (h : ¬ lng p = true) (k : ¬ lng q = true) : fmul (enc p) (enc q) = tell (p * q) := both_ok h k
theorem fquo_enc {p q : Rat} (h : ¬ lng p = true) (k : ¬ lng q = true) (n : q ≠ 0) : fquo (enc p) (enc q) = tell (p / q) := (both_ok h k).trans (if_neg n)
def szw (n : Nat) (q : Rat) : Prop := (wd q.num.natAbs).length ≤ n ∧ (wd q.den).length ≤ n
section
variable {m n : Nat} {p q a b c d : Rat}
theorem szw.lng (h : szw n q) (k : n ≤ 2048) : ¬ lng q = true := lng_of (Nat.le_trans h.1 k) (Nat.le_trans h.2 k)
theorem szw_mk {x : Int} {d : Nat} (h0 : d ≠ 0) (h1 : (wd x.natAbs).length ≤ n) (h2 : (wd d).length ≤ n) : szw n (mkRat x d) := by
  have e := enc_mk (decide (x < 0)) x.natAbs d h0
  have es : sg (decide (x < 0)) x.natAbs = x := by
    unfold sg
    by_cases h : x < 0
    · rw [if_pos (by simpa using h)]; omega
    · rw [if_neg (by simpa using h)]; omega
  rw [es] at e
  have e1 : wd (mkRat x d).num.natAbs = wd (x.natAbs / Nat.gcd x.natAbs d) := congrArg Fr.num e
  have e2 : wd (mkRat x d).den = wd (d / Nat.gcd x.natAbs d) := congrArg Fr.den e
  refine ⟨?_, ?_⟩
  · rw [e1]
    exact Nat.le_trans (wd_len_mono (Nat.div_le_self _ _)) h1
  · rw [e2]
    exact Nat.le_trans (wd_len_mono (Nat.div_le_self _ _)) h2
theorem szw.add (h : szw m p) (k : szw n q) : szw (m + n + 1) (p + q) := by
  rw [Rat.add_def']
  obtain ⟨h1, h2⟩ := h
  obtain ⟨k1, k2⟩ := k
  refine szw_mk (Nat.mul_ne_zero p.den_nz q.den_nz) ?_ ?_
  · have a1 := wd_len_mono (Int.natAbs_add_le (p.num * q.den) (q.num * p.den))
    have a2 := wd_len_add (p.num * q.den).natAbs (q.num * p.den).natAbs
    rw [Int.natAbs_mul, Int.natAbs_mul, Int.natAbs_natCast, Int.natAbs_natCast] at a1 a2
    have a3 := wd_len_mul p.num.natAbs q.den
    have a4 := wd_len_mul q.num.natAbs p.den
    omega
  · have := wd_len_mul p.den q.den
    omega
theorem szw.mul (h : szw m p) (k : szw n q) : szw (m + n) (p * q) := by
  rw [Rat.mul_def']
  obtain ⟨h1, h2⟩ := h
  obtain ⟨k1, k2⟩ := k
  refine szw_mk (Nat.mul_ne_zero p.den_nz q.den_nz) ?_ ?_
  · rw [Int.natAbs_mul]
    have := wd_len_mul p.num.natAbs q.num.natAbs
    omega
  · have := wd_len_mul p.den q.den
    omega
theorem szw.neg (h : szw m p) : szw m (-p) := by
  unfold szw at h ⊢
  simpa using h
theorem szw.sub (h : szw m p) (k : szw n q) : szw (m + n + 1) (p - q) := by
  rw [Rat.sub_eq_add_neg]
  exact h.add k.neg
theorem szw.inv (h : szw m p) (h0 : p ≠ 0) : szw m p⁻¹ := by
  obtain ⟨h1, h2⟩ := h
  have n0 : p.num ≠ 0 := fun e => h0 (Rat.num_eq_zero.1 e)
  refine ⟨?_, ?_⟩
  · rw [Rat.num_inv, Int.natAbs_mul, Int.natAbs_natCast, Int.natAbs_sign_of_ne_zero n0, Nat.one_mul]
    exact h2
  · rw [Rat.den_inv, if_neg n0]
    exact h1
theorem szw.div (h : szw m p) (k : szw n q) (h0 : q ≠ 0) : szw (m + n) (p / q) := by
  rw [Rat.div_def]
  exact h.mul (k.inv h0)
theorem ge_chk (h : szw m a) (k : szw m b) (l : m ≤ 2048) : gchk (ge a b) = 0 := gchk_enc (h.lng l) (k.lng l)
theorem ge_chk2 (h1 : szw m a) (h2 : szw m b) (k1 : szw n c) (k2 : szw n d) (l : m ≤ 2048) (l' : n ≤ 2048) : gchk2 (ge a b) (ge c d) = 0 := gchk2_mk (ge_chk h1 h2 l) (ge_chk k1 k2 l')
theorem wpair_w {e f : Rat} {l : Bool} (h1 : szw m a) (h2 : szw n b) (k1 : szw m e) (k2 : szw n f) (s : (m + n) + (m + n) + 1 ≤ 2048) : wpair 0 (enc a) (enc b) (enc e) (enc f) l = (enc (if l = true then a * b - e * f else a * b + e * f), 0) := by
  have m1 : fmul (enc a) (enc b) = (enc (a * b), 0) := (fmul_enc (h1.lng (by omega)) (h2.lng (by omega))).trans (tell_ok ((h1.mul h2).lng (by omega)))
  have m2 : fmul (enc e) (enc f) = (enc (e * f), 0) := (fmul_enc (k1.lng (by omega)) (k2.lng (by omega))).trans (tell_ok ((k1.mul k2).lng (by omega)))
  cases l with
  | true =>
    rw [wpair_3 (by rw [m1]) (by rw [m2]), m1, m2, if_pos rfl]
    exact (fsub_enc ((h1.mul h2).lng (by omega)) ((k1.mul k2).lng (by omega))).trans (tell_ok (((h1.mul h2).sub (k1.mul k2)).lng s))
  | false =>
    rw [wpair_4 (by rw [m1]) (by rw [m2]), m1, m2, if_neg (by decide)]
    exact (fadd_enc ((h1.mul h2).lng (by omega)) ((k1.mul k2).lng (by omega))).trans (tell_ok (((h1.mul h2).add (k1.mul k2)).lng s))
theorem gmul_w (h1 : szw m a) (h2 : szw m b) (k1 : szw n c) (k2 : szw n d) (l : (m + n) + (m + n) + 1 ≤ 2048) : gmul (ge a b) (ge c d) = (ge (a * c - b * d) (a * d + b * c), 0) := by
  have g := ge_chk2 h1 h2 k1 k2 (by omega) (by omega)
  have q1 : wpair 0 (ge a b).re (ge c d).re (ge a b).im (ge c d).im true = (enc (a * c - b * d), 0) := wpair_w h1 k1 h2 k2 l
  have q2 : wpair 0 (ge a b).re (ge c d).im (ge a b).im (ge c d).re false = (enc (a * d + b * c), 0) := wpair_w h1 k2 h2 k1 l
  rw [gmul_4 g (by rw [q1]) (by rw [q2]), q1, q2]
  rfl
theorem gnorm_w (h1 : szw m a) (h2 : szw m b) (l : (m + m) + (m + m) + 1 ≤ 2048) : gnorm (ge a b) = (enc (a * a + b * b), 0) := by
  rw [gnorm_2 (ge_chk h1 h2 (by omega))]
  exact wpair_w (l := false) h1 h1 h2 h2 l
theorem gconj_w (h1 : szw m a) (h2 : szw m b) (l : m ≤ 2048) : gconj (ge a b) = (ge a (-b), 0) := gconj_enc (h1.lng l) (h2.lng l)
theorem enc_num0 {q : Rat} (h : (enc q).num.length = 0) : q = 0 := by
  have : q.num.natAbs = 0 := wd_len_zero.1 h
  exact Rat.num_eq_zero.1 (by omega)
theorem gzero_w (h1 : szw m a) (h2 : szw m b) (l : m ≤ 2048) : gzero (ge a b) = decide (a = 0 ∧ b = 0) := by
  unfold gzero
  refine decide_eq_decide.2 ⟨fun h => ⟨enc_num0 h.2.1, enc_num0 h.2.2⟩, fun h => ?_⟩
  obtain ⟨rfl, rfl⟩ := h
  exact ⟨ge_chk h1 h2 l, by decide +kernel, by decide +kernel⟩
theorem sq_nonneg (x : Rat) : 0 ≤ x * x := by
  rcases Rat.le_total (a := 0) (b := x) with h | h
  · exact Rat.mul_nonneg h h
  · have : 0 ≤ -x := by grind
    have := Rat.mul_nonneg this this
    grind
theorem norm_zero {x y : Rat} (h : x * x + y * y = 0) : x = 0 ∧ y = 0 := by
  have h1 := sq_nonneg x
  have h2 := sq_nonneg y
  have e1 : x * x = 0 := by grind
  have e2 : y * y = 0 := by grind
  exact ⟨by rcases Rat.mul_eq_zero.1 e1 with e | e <;> exact e, by rcases Rat.mul_eq_zero.1 e2 with e | e <;> exact e⟩
theorem gquo_w (h1 : szw m a) (h2 : szw m b) (k1 : szw n c) (k2 : szw n d) (l : (m + n) + (m + n) + 1 + ((n + n) + (n + n) + 1) ≤ 2048) (hz : ¬ (c = 0 ∧ d = 0)) : gquo (ge a b) (ge c d) = (ge ((a * c + b * d) / (c * c + d * d)) ((b * c - a * d) / (c * c + d * d)), 0) := by
  have g := ge_chk2 h1 h2 k1 k2 (by omega) (by omega)
  have z : gzero (ge c d) = false := by rw [gzero_w k1 k2 (by omega), decide_eq_false hz]
  have no := gnorm_w k1 k2 (by omega)
  have cj := gconj_w k1 k2 (by omega)
  have n0 : c * c + d * d ≠ 0 := fun e => hz (norm_zero e)
  have pr := gmul_w h1 h2 k1 k2.neg (by omega)
  have wb : (ge c d).Wf := ⟨enc_wf _, enc_wf _⟩
  have sn : szw ((n + n) + (n + n) + 1) (c * c + d * d) := (k1.mul k1).add (k2.mul k2)
  have s1 : szw ((m + n) + (m + n) + 1) (a * c - b * -d) := (h1.mul k1).sub (h2.mul k2.neg)
  have s2 : szw ((m + n) + (m + n) + 1) (a * -d + b * c) := (h1.mul k2.neg).add (h2.mul k1)
  have pr' : gmul (ge a b) (gconj (ge c d)).1 = (ge (a * c - b * -d) (a * -d + b * c), 0) := by rw [cj]; exact pr
  have f1 : fquo (gmul (ge a b) (gconj (ge c d)).1).1.re (gnorm (ge c d)).1 = (enc ((a * c + b * d) / (c * c + d * d)), 0) := by
    rw [pr', no]
    rw [show a * c + b * d = a * c - b * -d by grind]
    exact (fquo_enc (s1.lng (by omega)) (sn.lng (by omega)) n0).trans (tell_ok ((s1.div sn n0).lng l))
  have f2 : fquo (gmul (ge a b) (gconj (ge c d)).1).1.im (gnorm (ge c d)).1 = (enc ((b * c - a * d) / (c * c + d * d)), 0) := by
    rw [pr', no]
    rw [show b * c - a * d = a * -d + b * c by grind]
    exact (fquo_enc (s2.lng (by omega)) (sn.lng (by omega)) n0).trans (tell_ok ((s2.div sn n0).lng l))
  rw [gquo_7 g z (by rw [no]) wb (by rw [pr']) (by rw [f1]), f1, f2]
  rfl
end
end Go.Proofs.YtjoonfegjobgbaaGreatDoor
namespace Go.Proofs.YtjoonfegjobgbaaGreatDoor
open Go Go.RowKit
def sP (f : Fr) : Prop := fchk f = 0 ∧ toN f.num < 100 ∧ toN f.den < 100
def txR (f : Fr) : ByteArray := if toN f.den = 1 then (if f.neg = true then ⟨#[45]⟩ ++ dgB (toN f.num) else dgB (toN f.num)) else (if f.neg = true then ⟨#[45]⟩ ++ dgB (toN f.num) else dgB (toN f.num)) ++ (⟨#[47]⟩ ++ dgB (toN f.den))
theorem nrm_1 : nrm [1] := by
  rw [← wd_one]
  exact nrm_wd 1
theorem toN_1 : toN [1] = 1 := by rw [← wd_one, toN_wd]
theorem nrm_of {f : Fr} (wf : f.Wf) (h : fchk f = 0) : nrm f.num ∧ nrm f.den := by
  obtain ⟨q, rfl, _⟩ := fchk_ok wf h
  exact ⟨nrm_wd _, nrm_wd _⟩
theorem cmp1_T {n : Nat} (h : ((cmp n (toN [1]) : Int) != 0) = true) : n ≠ 1 := fun e => by
  rw [e, toN_1] at h
  exact absurd h (by decide)
theorem cmp1_F {n : Nat} (h : ((cmp n (toN [1]) : Int) != 0) = false) : n = 1 := by
  rw [toN_1] at h
  have h := bne_eq_false_iff_eq.1 h
  unfold cmp at h
  split at h
  · cases h
  · split at h
    · cases h
    · omega
noncomputable def sp_rPrint : Spec := { q := .un, ps := [tR], rs := [.st, .it .i64], fresh := true, pre := fun _ x => some (sP (toFr x.1)), post := fun _ x => ((), (txR (toFr x.1), 0, ())) }
noncomputable def iv_rPrint (y : El sp_rPrint.q) (x : Els sp_rPrint.ps) : Nat → Option Inv := fun _ => none
noncomputable abbrev c_rPrint : Cfg := cfgS (Tryz.f105).ntmps false [(24, sp_rCheck.prim), (150, sp_aPrint.prim), (84, sp_aCmp.prim)]
def F_rPrint (y : El sp_rPrint.q) (x : Els sp_rPrint.ps) : Prop :=
  ∀ (r : Ro [Ty.it IntKind.i64]), r = ((), fchk (toFr x.1), ()) → ((r.2.1 != (0 : Int)) = true → ((⟨#[]⟩ : ByteArray), r.2) = (txR (toFr x.1), (0 : El (Ty.it IntKind.i64)), ())) ∧ ((r.2.1 != (0 : Int)) = false → (x.1.2.1 = wd (toN x.1.2.1) ∧ toN x.1.2.1 < (100 : Nat)) ∧ ∀ (r : Ro [Ty.st, Ty.it IntKind.i64]), r = ((), dgB (toN x.1.2.1), (0 : El (Ty.it IntKind.i64)), ()) → (x.1.1 = true → (⟨#[(45 : UInt8)]⟩ : ByteArray).size + ByteArray.size r.2.1 ≤ (9223372036854775807 : Nat) ∧ (x.1.2.2.1 = wd (toN x.1.2.2.1) ∧ [(1 : Int)] = wd (toN [(1 : Int)])) ∧ ∀ (r_1 : Ro [Ty.it IntKind.i64]), r_1 = ((), cmp (toN x.1.2.2.1) (toN [(1 : Int)]), ()) → ((r_1.2.1 != (0 : Int)) = true → (x.1.2.2.1 = wd (toN x.1.2.2.1) ∧ toN x.1.2.2.1 < (100 : Nat)) ∧ ∀ (r_2 : Ro [Ty.st, Ty.it IntKind.i64]), r_2 = ((), dgB (toN x.1.2.2.1), (0 : El (Ty.it IntKind.i64)), ()) → (⟨#[(47 : UInt8)]⟩ : ByteArray).size + ByteArray.size r_2.2.1 ≤ (9223372036854775807 : Nat) ∧ ((⟨#[(45 : UInt8)]⟩ : ByteArray) ++ r.2.1).size + ((⟨#[(47 : UInt8)]⟩ : ByteArray) ++ r_2.2.1).size ≤ (9223372036854775807 : Nat) ∧ ((⟨#[(45 : UInt8)]⟩ : ByteArray) ++ r.2.1 ++ ((⟨#[(47 : UInt8)]⟩ : ByteArray) ++ r_2.2.1), (0 : Int), ()) = (txR (toFr x.1), (0 : El (Ty.it IntKind.i64)), ())) ∧ ((r_1.2.1 != (0 : Int)) = false → ((⟨#[(45 : UInt8)]⟩ : ByteArray) ++ r.2.1, (0 : Int), ()) = (txR (toFr x.1), (0 : El (Ty.it IntKind.i64)), ()))) ∧ (x.1.1 = false → (x.1.2.2.1 = wd (toN x.1.2.2.1) ∧ [(1 : Int)] = wd (toN [(1 : Int)])) ∧ ∀ (r_1 : Ro [Ty.it IntKind.i64]), r_1 = ((), cmp (toN x.1.2.2.1) (toN [(1 : Int)]), ()) → ((r_1.2.1 != (0 : Int)) = true → (x.1.2.2.1 = wd (toN x.1.2.2.1) ∧ toN x.1.2.2.1 < (100 : Nat)) ∧ ∀ (r_2 : Ro [Ty.st, Ty.it IntKind.i64]), r_2 = ((), dgB (toN x.1.2.2.1), (0 : El (Ty.it IntKind.i64)), ()) → (⟨#[(47 : UInt8)]⟩ : ByteArray).size + ByteArray.size r_2.2.1 ≤ (9223372036854775807 : Nat) ∧ ByteArray.size r.2.1 + ((⟨#[(47 : UInt8)]⟩ : ByteArray) ++ r_2.2.1).size ≤ (9223372036854775807 : Nat) ∧ (r.2.1 ++ ((⟨#[(47 : UInt8)]⟩ : ByteArray) ++ r_2.2.1), (0 : Int), ()) = (txR (toFr x.1), (0 : El (Ty.it IntKind.i64)), ())) ∧ ((r_1.2.1 != (0 : Int)) = false → (r.2.1, (0 : Int), ()) = (txR (toFr x.1), (0 : El (Ty.it IntKind.i64)), ()))))
theorem w_rPrint (y : El sp_rPrint.q) (x : Els sp_rPrint.ps) : aW c_rPrint (iv_rPrint y x) Tryz.f105 sp_rPrint y x = F_rPrint y x := by kernel_rfl
theorem m_rPrint (y : El (.un)) (x : Els [tR]) (h2 : wfE (.un) y) (h3 : wfEs [tR] x) (h4 : sP (toFr x.1)) : F_rPrint y x := by
  unfold F_rPrint
  have q : sP (toFr x.1) := h4
  obtain ⟨q0, q1, q2⟩ := q
  obtain ⟨n1, n2⟩ := nrm_of (wf_fr h3.1) q0
  have z1 := dgB_size _ q1
  have z2 := dgB_size _ q2
  have z3 : (⟨#[45]⟩ : ByteArray).size = 1 := rfl
  have z4 : (⟨#[47]⟩ : ByteArray).size = 1 := rfl
  rintro _ rfl
  refine ⟨fun h => absurd q0 (neT h), fun _ => ⟨⟨n1, q1⟩, ?_⟩⟩
  rintro _ rfl
  refine ⟨fun hn => ⟨?_, ⟨n2, nrm_1⟩, ?_⟩, fun hn => ⟨⟨n2, nrm_1⟩, ?_⟩⟩
  · show (⟨#[45]⟩ : ByteArray).size + (dgB (toN (toFr x.1).num)).size ≤ _
    omega
  · rintro _ rfl
    refine ⟨fun hd => ⟨⟨n2, q2⟩, ?_⟩, fun hd => ?_⟩
    · have hd := cmp1_T hd
      rintro _ rfl
      refine ⟨?_, ?_, ?_⟩
      · show (⟨#[47]⟩ : ByteArray).size + (dgB (toN (toFr x.1).den)).size ≤ _
        omega
      · show ((⟨#[45]⟩ : ByteArray) ++ dgB (toN (toFr x.1).num)).size + ((⟨#[47]⟩ : ByteArray) ++ dgB (toN (toFr x.1).den)).size ≤ _
        rw [ByteArray.size_append, ByteArray.size_append]
        omega
      · unfold txR
        rw [if_neg hd, if_pos (show (toFr x.1).neg = true from hn)]
    · have hd := cmp1_F hd
      unfold txR
      rw [if_pos hd, if_pos (show (toFr x.1).neg = true from hn)]
  · have hn' : ¬ (toFr x.1).neg = true := fun e => by
      have hn : (toFr x.1).neg = false := hn
      rw [hn] at e
      cases e
    rintro _ rfl
    refine ⟨fun hd => ⟨⟨n2, q2⟩, ?_⟩, fun hd => ?_⟩
    · have hd := cmp1_T hd
      rintro _ rfl
      refine ⟨?_, ?_, ?_⟩
      · show (⟨#[47]⟩ : ByteArray).size + (dgB (toN (toFr x.1).den)).size ≤ _
        omega
      · show (dgB (toN (toFr x.1).num)).size + ((⟨#[47]⟩ : ByteArray) ++ dgB (toN (toFr x.1).den)).size ≤ _
        rw [ByteArray.size_append]
        omega
      · unfold txR
        rw [if_neg hd, if_neg hn']
    · have hd := cmp1_F hd
      unfold txR
      rw [if_pos hd, if_neg hn']
theorem fo_rPrint : FnOk Tryz.prog 105 sp_rPrint := fnOk_of (C := c_rPrint) iv_rPrint Tryz.func105 rfl (by kernel_rfl) tys_ok (prims_cons (spec_prim fo_rCheck) (prims_cons (spec_prim fo_aPrint) (prims_cons (spec_prim fo_aCmp) prims_nil))) mixed_ (Nat.le_refl _) rfl fun y x h1 h2 h3 h4 =>
  Eq.mpr (w_rPrint y x) (m_rPrint y x h2 h3 h4)
theorem txR_size {f : Fr} (h : sP f) : (txR f).size ≤ 6 := by
  obtain ⟨_, q1, q2⟩ := h
  have z1 := dgB_size _ q1
  have z2 := dgB_size _ q2
  have z3 : (⟨#[45]⟩ : ByteArray).size = 1 := rfl
  have z4 : (⟨#[47]⟩ : ByteArray).size = 1 := rfl
  unfold txR
  repeat' split
  all_goals try simp only [ByteArray.size_append]
  all_goals omega
noncomputable def sp_gPrint : Spec := { q := .un, ps := [tG], rs := [.st, .it .i64], fresh := true, pre := fun _ x => some (sP (toFr x.1.1) ∧ sP (toFr x.1.2.1)), post := fun _ x => ((), (txR (toFr x.1.1) ++ ⟨#[32]⟩ ++ txR (toFr x.1.2.1), 0, ())) }
noncomputable def iv_gPrint (y : El sp_gPrint.q) (x : Els sp_gPrint.ps) : Nat → Option Inv := fun _ => none
noncomputable abbrev c_gPrint : Cfg := cfgS (Tryz.f39).ntmps false [(51, sp_gCheck.prim), (105, sp_rPrint.prim)]
def F_gPrint (y : El sp_gPrint.q) (x : Els sp_gPrint.ps) : Prop :=
  ∀ (r : Ro [Ty.it IntKind.i64]), r = ((), gchk (toGa x.1), ()) → ((r.2.1 != (0 : Int)) = true → ((⟨#[]⟩ : ByteArray), r.2) = (txR (toFr x.1.1) ++ (⟨#[(32 : UInt8)]⟩ : ByteArray) ++ txR (toFr x.1.2.1), (0 : El (Ty.it IntKind.i64)), ())) ∧ ((r.2.1 != (0 : Int)) = false → (fchk (toFr x.1.1) = (0 : Int) ∧ toN (toFr x.1.1).num < (100 : Nat) ∧ toN (toFr x.1.1).den < (100 : Nat)) ∧ ∀ (r : Ro [Ty.st, Ty.it IntKind.i64]), r = ((), txR (toFr x.1.1), (0 : El (Ty.it IntKind.i64)), ()) → (fchk (toFr x.1.2.1) = (0 : Int) ∧ toN (toFr x.1.2.1).num < (100 : Nat) ∧ toN (toFr x.1.2.1).den < (100 : Nat)) ∧ ∀ (r_1 : Ro [Ty.st, Ty.it IntKind.i64]), r_1 = ((), txR (toFr x.1.2.1), (0 : El (Ty.it IntKind.i64)), ()) → ByteArray.size r.2.1 + (⟨#[(32 : UInt8)]⟩ : ByteArray).size ≤ (9223372036854775807 : Nat) ∧ (r.2.1 ++ (⟨#[(32 : UInt8)]⟩ : ByteArray)).size + ByteArray.size r_1.2.1 ≤ (9223372036854775807 : Nat) ∧ (decide ((↑(r.2.1 ++ (⟨#[(32 : UInt8)]⟩ : ByteArray) ++ r_1.2.1).size : Int) > (65536 : Int)) = true → ((⟨#[]⟩ : ByteArray), (3 : Int), ()) = (txR (toFr x.1.1) ++ (⟨#[(32 : UInt8)]⟩ : ByteArray) ++ txR (toFr x.1.2.1), (0 : El (Ty.it IntKind.i64)), ())) ∧ (decide ((↑(r.2.1 ++ (⟨#[(32 : UInt8)]⟩ : ByteArray) ++ r_1.2.1).size : Int) > (65536 : Int)) = false → (r.2.1 ++ (⟨#[(32 : UInt8)]⟩ : ByteArray) ++ r_1.2.1, (0 : Int), ()) = (txR (toFr x.1.1) ++ (⟨#[(32 : UInt8)]⟩ : ByteArray) ++ txR (toFr x.1.2.1), (0 : El (Ty.it IntKind.i64)), ())))
theorem w_gPrint (y : El sp_gPrint.q) (x : Els sp_gPrint.ps) : aW c_gPrint (iv_gPrint y x) Tryz.f39 sp_gPrint y x = F_gPrint y x := by kernel_rfl
theorem m_gPrint (y : El (.un)) (x : Els [tG]) (h2 : wfE (.un) y) (h3 : wfEs [tG] x) (h4 : sP (toFr x.1.1) ∧ sP (toFr x.1.2.1)) : F_gPrint y x := by
  unfold F_gPrint
  have q : sP (toFr x.1.1) ∧ sP (toFr x.1.2.1) := h4
  obtain ⟨q1, q2⟩ := q
  have s1 := txR_size q1
  have s2 := txR_size q2
  have z3 : (⟨#[32]⟩ : ByteArray).size = 1 := rfl
  have s3 : (txR (toFr x.1.1) ++ ⟨#[32]⟩).size ≤ 7 := by rw [ByteArray.size_append]; omega
  have s4 : (txR (toFr x.1.1) ++ ⟨#[32]⟩ ++ txR (toFr x.1.2.1)).size ≤ 13 := by rw [ByteArray.size_append]; omega
  rintro _ rfl
  refine ⟨fun h => absurd (gchk_mk (a := toGa x.1) q1.1 q2.1) (neT h), fun _ => ⟨q1, ?_⟩⟩
  rintro _ rfl
  refine ⟨q2, ?_⟩
  rintro _ rfl
  refine ⟨?_, ?_, fun h => ?_, fun _ => rfl⟩
  · show (txR (toFr x.1.1)).size + (⟨#[32]⟩ : ByteArray).size ≤ _
    omega
  · show (txR (toFr x.1.1) ++ ⟨#[32]⟩).size + (txR (toFr x.1.2.1)).size ≤ _
    omega
  · have h := gtT h
    exact absurd (Int.ofNat_lt.1 h) (by show ¬ 65536 < (txR (toFr x.1.1) ++ ⟨#[32]⟩ ++ txR (toFr x.1.2.1)).size; omega)
theorem fo_gPrint : FnOk Tryz.prog 39 sp_gPrint := fnOk_of (C := c_gPrint) iv_gPrint Tryz.func39 rfl (by kernel_rfl) tys_ok (prims_cons (spec_prim fo_gCheck) (prims_cons (spec_prim fo_rPrint) prims_nil)) mixed_ (Nat.le_refl _) rfl fun y x h1 h2 h3 h4 =>
  Eq.mpr (w_gPrint y x) (m_gPrint y x h2 h3 h4)
noncomputable def sp_ffrac : Spec := { q := .un, ps := [.it .i64, .it .i64], rs := [tR], fresh := true, pre := fun _ _ => none, post := fun _ x => ((), (ofFr (fsmall x.1 x.2.1).1, ())) }
noncomputable def iv_ffrac (y : El sp_ffrac.q) (x : Els sp_ffrac.ps) : Nat → Option Inv := fun _ => none
noncomputable abbrev c_ffrac : Cfg := cfgS (Tryz.f52).ntmps false [(69, sp_rSmall.prim)]
def F_ffrac (y : El sp_ffrac.q) (x : Els sp_ffrac.ps) : Prop :=
  ∀ (r : Ro [tR, Ty.it IntKind.i64]), r = pR (fsmall x.1 x.2.1) → (r.2.1, ()) = (ofFr (fsmall x.1 x.2.1).1, ())
theorem w_ffrac (y : El sp_ffrac.q) (x : Els sp_ffrac.ps) : aW c_ffrac (iv_ffrac y x) Tryz.f52 sp_ffrac y x = F_ffrac y x := by kernel_rfl
theorem m_ffrac (y : El (.un)) (x : Els [.it .i64, .it .i64]) (h2 : wfE (.un) y) (h3 : wfEs [.it .i64, .it .i64] x) : F_ffrac y x := by
  unfold F_ffrac
  rintro _ rfl
  rfl
theorem fo_ffrac : FnOk Tryz.prog 52 sp_ffrac := fnOk_of (C := c_ffrac) iv_ffrac Tryz.func52 rfl (by kernel_rfl) tys_ok (prims_cons (spec_prim fo_rSmall) prims_nil) mixed_ (Nat.le_refl _) rfl fun y x h1 h2 h3 h4 =>
  Eq.mpr (w_ffrac y x) (m_ffrac y x h2 h3)
def fitG (a : Ga) : Bool := decide (gchk a = 0 ∧ a.re.num.length ≤ 20 ∧ a.re.den.length ≤ 20 ∧ a.im.num.length ≤ 20 ∧ a.im.den.length ≤ 20)
noncomputable def sp_gfit : Spec := { q := .un, ps := [tG], rs := [.bo], fresh := true, pre := fun _ _ => none, post := fun _ x => ((), (fitG (toGa x.1), ())) }
noncomputable def iv_gfit (y : El sp_gfit.q) (x : Els sp_gfit.ps) : Nat → Option Inv := fun _ => none
noncomputable abbrev c_gfit : Cfg := cfgS (Tryz.f47).ntmps false [(51, sp_gCheck.prim)]
def F_gfit (y : El sp_gfit.q) (x : Els sp_gfit.ps) : Prop :=
  ∀ (r : Ro [Ty.it IntKind.i64]), r = ((), gchk (toGa x.1), ()) → ((r.2.1 == (0 : Int)) = true → (decide ((x.1.1.2.1.length : Int) ≤ (20 : Int)) = true → (decide ((x.1.1.2.2.1.length : Int) ≤ (20 : Int)) = true → (decide ((x.1.2.1.2.1.length : Int) ≤ (20 : Int)) = true → (decide ((x.1.2.1.2.2.1.length : Int) ≤ (20 : Int)), ()) = (fitG (toGa x.1), ())) ∧ (decide ((x.1.2.1.2.1.length : Int) ≤ (20 : Int)) = false → (false, ()) = (fitG (toGa x.1), ()))) ∧ (decide ((x.1.1.2.2.1.length : Int) ≤ (20 : Int)) = false → (false, ()) = (fitG (toGa x.1), ()))) ∧ (decide ((x.1.1.2.1.length : Int) ≤ (20 : Int)) = false → (false, ()) = (fitG (toGa x.1), ()))) ∧ ((r.2.1 == (0 : Int)) = false → (false, ()) = (fitG (toGa x.1), ()))
theorem w_gfit (y : El sp_gfit.q) (x : Els sp_gfit.ps) : aW c_gfit (iv_gfit y x) Tryz.f47 sp_gfit y x = F_gfit y x := by kernel_rfl
theorem m_gfit (y : El (.un)) (x : Els [tG]) (h2 : wfE (.un) y) (h3 : wfEs [tG] x) : F_gfit y x := by
  unfold F_gfit
  rintro _ rfl
  unfold fitG
  refine ⟨fun h => ?_, fun h => ?_⟩
  · have h := eqT h
    refine ⟨fun h1 => ⟨fun h2 => ⟨fun h5 => ?_, fun h5 => ?_⟩, fun h2 => ?_⟩, fun h1 => ?_⟩
    · have h1 := leT h1
      have h2 := leT h2
      have h5 := leT h5
      refine congrArg (fun b => (b, ())) (decide_eq_decide.2 ⟨fun h6 => ⟨h, ?_, ?_, ?_, ?_⟩, fun h6 => ?_⟩)
      · exact Int.ofNat_le.1 h1
      · exact Int.ofNat_le.1 h2
      · exact Int.ofNat_le.1 h5
      · exact Int.ofNat_le.1 h6
      · exact Int.ofNat_le.2 h6.2.2.2.2
    · have h5 := leF h5
      rw [decide_eq_false (fun c => absurd (Int.ofNat_le.2 c.2.2.2.1) (Int.not_le.2 h5))]
    · have h2 := leF h2
      rw [decide_eq_false (fun c => absurd (Int.ofNat_le.2 c.2.2.1) (Int.not_le.2 h2))]
    · have h1 := leF h1
      rw [decide_eq_false (fun c => absurd (Int.ofNat_le.2 c.2.1) (Int.not_le.2 h1))]
  · have h := eqF h
    rw [decide_eq_false (fun c => h c.1)]
theorem fo_gfit : FnOk Tryz.prog 47 sp_gfit := fnOk_of (C := c_gfit) iv_gfit Tryz.func47 rfl (by kernel_rfl) tys_ok (prims_cons (spec_prim fo_gCheck) prims_nil) mixed_ (Nat.le_refl _) rfl fun y x h1 h2 h3 h4 =>
  Eq.mpr (w_gfit y x) (m_gfit y x h2 h3)
end Go.Proofs.YtjoonfegjobgbaaGreatDoor
namespace Go.Proofs.YtjoonfegjobgbaaGreatDoor
open Go.Shelf
def Sh.lays103_ren : Go.Shelf.Ren := ⟨fun | 103 => 132 | 210 => 172 | 206 => 204 | n => n, fun | 9 => 9 | 4 => 4 | 24 => 139 | 3 => 3 | n => n, fun | n => n⟩
theorem Sh.lays103 : Go.Proofs.Lays.n103 Tryz.prog Sh.lays103_ren := {
  mixed := by kernel_rfl
  f103 := Tryz.func132.trans (congrArg some (by kernel_rfl))
  f206 := Tryz.func204.trans (congrArg some (by kernel_rfl))
  f210 := Tryz.func172.trans (congrArg some (by kernel_rfl))
  t3 := Tryz.underlying3
  a3 := Tryz.isAgg3
  z3 := Tryz.sizeOf3
  v3 := Tryz.zeroValue3
  t4 := Tryz.underlying4
  a4 := Tryz.isAgg4
  z4 := Tryz.sizeOf4
  v4 := Tryz.zeroValue4
  t9 := Tryz.underlying9
  a9 := Tryz.isAgg9
  z9 := Tryz.sizeOf9
  v9 := Tryz.zeroValue9
  t24 := Tryz.underlying139
  a24 := Tryz.isAgg139
  z24 := Tryz.sizeOf139
  v24 := Tryz.zeroValue139 }
def Sh.lays160_ren : Go.Shelf.Ren := ⟨fun | 160 => 173 | 232 => 206 | 231 => 205 | 227 => 207 | 234 => 209 | 233 => 208 | 236 => 211 | 235 => 210 | 228 => 238 | 271 => 241 | 151 => 240 | 197 => 239 | 120 => 263 | 152 => 262 | 260 => 261 | 137 => 269 | 119 => 270 | 224 => 221 | 225 => 220 | 217 => 219 | 266 => 246 | n => n, fun | 9 => 9 | 4 => 4 | 3 => 3 | 5 => 5 | 117 => 198 | 116 => 197 | 0 => 0 | 124 => 201 | 21 => 21 | 105 => 223 | 46 => 150 | 119 => 250 | 139 => 253 | 138 => 252 | n => n, fun | 3 => 4 | 4 => 5 | n => n⟩
theorem Sh.lays160 : Go.Proofs.Lays.n160 Tryz.prog Sh.lays160_ren := {
  mixed := by kernel_rfl
  f119 := Tryz.func270.trans (congrArg some (by kernel_rfl))
  f120 := Tryz.func263.trans (congrArg some (by kernel_rfl))
  f137 := Tryz.func269.trans (congrArg some (by kernel_rfl))
  f151 := Tryz.func240.trans (congrArg some (by kernel_rfl))
  f152 := Tryz.func262.trans (congrArg some (by kernel_rfl))
  f160 := Tryz.func173.trans (congrArg some (by kernel_rfl))
  f197 := Tryz.func239.trans (congrArg some (by kernel_rfl))
  f217 := Tryz.func219.trans (congrArg some (by kernel_rfl))
  f224 := Tryz.func221.trans (congrArg some (by kernel_rfl))
  f225 := Tryz.func220.trans (congrArg some (by kernel_rfl))
  f227 := Tryz.func207.trans (congrArg some (by kernel_rfl))
  f228 := Tryz.func238.trans (congrArg some (by kernel_rfl))
  f231 := Tryz.func205.trans (congrArg some (by kernel_rfl))
  f232 := Tryz.func206.trans (congrArg some (by kernel_rfl))
  f233 := Tryz.func208.trans (congrArg some (by kernel_rfl))
  f234 := Tryz.func209.trans (congrArg some (by kernel_rfl))
  f235 := Tryz.func210.trans (congrArg some (by kernel_rfl))
  f236 := Tryz.func211.trans (congrArg some (by kernel_rfl))
  f260 := Tryz.func261.trans (congrArg some (by kernel_rfl))
  f266 := Tryz.func246.trans (congrArg some (by kernel_rfl))
  f271 := Tryz.func241.trans (congrArg some (by kernel_rfl))
  t0 := Tryz.underlying0
  a0 := Tryz.isAgg0
  z0 := Tryz.sizeOf0
  v0 := Tryz.zeroValue0
  t3 := Tryz.underlying3
  a3 := Tryz.isAgg3
  z3 := Tryz.sizeOf3
  v3 := Tryz.zeroValue3
  t4 := Tryz.underlying4
  a4 := Tryz.isAgg4
  z4 := Tryz.sizeOf4
  v4 := Tryz.zeroValue4
  t5 := Tryz.underlying5
  a5 := Tryz.isAgg5
  z5 := Tryz.sizeOf5
  v5 := Tryz.zeroValue5
  t9 := Tryz.underlying9
  a9 := Tryz.isAgg9
  z9 := Tryz.sizeOf9
  v9 := Tryz.zeroValue9
  t21 := Tryz.underlying21
  a21 := Tryz.isAgg21
  z21 := Tryz.sizeOf21
  v21 := Tryz.zeroValue21
  t46 := Tryz.underlying150
  a46 := Tryz.isAgg150
  z46 := Tryz.sizeOf150
  v46 := Tryz.zeroValue150
  t105 := Tryz.underlying223
  a105 := Tryz.isAgg223
  z105 := Tryz.sizeOf223
  v105 := Tryz.zeroValue223
  t116 := Tryz.underlying197
  a116 := Tryz.isAgg197
  z116 := Tryz.sizeOf197
  t117 := Tryz.underlying198
  a117 := Tryz.isAgg198
  z117 := Tryz.sizeOf198
  v117 := Tryz.zeroValue198
  t119 := Tryz.underlying250
  a119 := Tryz.isAgg250
  z119 := Tryz.sizeOf250
  t124 := Tryz.underlying201
  a124 := Tryz.isAgg201
  z124 := Tryz.sizeOf201
  v124 := Tryz.zeroValue201
  t138 := Tryz.underlying252
  a138 := Tryz.isAgg252
  z138 := Tryz.sizeOf252
  v138 := Tryz.zeroValue252
  t139 := Tryz.underlying253
  a139 := Tryz.isAgg253
  z139 := Tryz.sizeOf253
  v139 := Tryz.zeroValue253
  g3 := by kernel_rfl
  g4 := by kernel_rfl }
def Sh.lays219_ren : Go.Shelf.Ren := ⟨fun | 219 => 192 | 217 => 219 | 225 => 220 | 224 => 221 | 267 => 222 | 266 => 246 | 314 => 247 | n => n, fun | 9 => 9 | 3 => 3 | 4 => 4 | 5 => 5 | 46 => 150 | 146 => 227 | 51 => 46 | n => n, fun | 1 => 0 | n => n⟩
theorem Sh.lays219 : Go.Proofs.Lays.n219 Tryz.prog Sh.lays219_ren := {
  mixed := by kernel_rfl
  f217 := Tryz.func219.trans (congrArg some (by kernel_rfl))
  f219 := Tryz.func192.trans (congrArg some (by kernel_rfl))
  f224 := Tryz.func221.trans (congrArg some (by kernel_rfl))
  f225 := Tryz.func220.trans (congrArg some (by kernel_rfl))
  f266 := Tryz.func246.trans (congrArg some (by kernel_rfl))
  f267 := Tryz.func222.trans (congrArg some (by kernel_rfl))
  f314 := Tryz.func247.trans (congrArg some (by kernel_rfl))
  t3 := Tryz.underlying3
  a3 := Tryz.isAgg3
  z3 := Tryz.sizeOf3
  v3 := Tryz.zeroValue3
  t4 := Tryz.underlying4
  a4 := Tryz.isAgg4
  z4 := Tryz.sizeOf4
  v4 := Tryz.zeroValue4
  t5 := Tryz.underlying5
  a5 := Tryz.isAgg5
  z5 := Tryz.sizeOf5
  v5 := Tryz.zeroValue5
  t9 := Tryz.underlying9
  a9 := Tryz.isAgg9
  z9 := Tryz.sizeOf9
  v9 := Tryz.zeroValue9
  t46 := Tryz.underlying150
  a46 := Tryz.isAgg150
  z46 := Tryz.sizeOf150
  v46 := Tryz.zeroValue150
  t51 := Tryz.underlying46
  a51 := Tryz.isAgg46
  z51 := Tryz.sizeOf46
  v51 := Tryz.zeroValue46
  t146 := Tryz.underlying227
  a146 := Tryz.isAgg227
  z146 := Tryz.sizeOf227
  v146 := Tryz.zeroValue227
  g1 := by kernel_rfl }
def Sh.laysPu14_ren : Go.Shelf.Ren := ⟨fun | 14 => 174 | 16 => 212 | 17 => 203 | 19 => 242 | 20 => 243 | 21 => 234 | 22 => 235 | 23 => 236 | 24 => 237 | 25 => 259 | 27 => 118 | 26 => 260 | 28 => 165 | 29 => 201 | 30 => 229 | 31 => 230 | 32 => 231 | 33 => 232 | 35 => 255 | 34 => 254 | 36 => 256 | 37 => 257 | 38 => 258 | 39 => 267 | 40 => 268 | n => n, fun | 9 => 9 | 3 => 3 | 22 => 146 | 24 => 167 | 25 => 173 | 4 => 4 | 34 => 217 | 5 => 5 | 36 => 150 | 37 => 162 | 0 => 0 | 39 => 220 | 21 => 21 | 44 => 242 | 47 => 191 | 50 => 249 | 48 => 247 | 2 => 2 | 52 => 212 | 55 => 215 | 59 => 236 | 60 => 46 | 20 => 20 | 61 => 237 | 65 => 255 | 66 => 256 | 67 => 170 | n => n, fun | 0 => 2 | 1 => 3 | 2 => 1 | 3 => 6 | 4 => 7 | n => n⟩
theorem Sh.laysPu14 : Go.Proofs.LaysPu.n14 Tryz.prog Sh.laysPu14_ren := {
  mixed := by kernel_rfl
  f14 := Tryz.func174.trans (congrArg some (by kernel_rfl))
  f16 := Tryz.func212.trans (congrArg some (by kernel_rfl))
  f17 := Tryz.func203.trans (congrArg some (by kernel_rfl))
  f19 := Tryz.func242.trans (congrArg some (by kernel_rfl))
  f20 := Tryz.func243.trans (congrArg some (by kernel_rfl))
  f21 := Tryz.func234.trans (congrArg some (by kernel_rfl))
  f22 := Tryz.func235.trans (congrArg some (by kernel_rfl))
  f23 := Tryz.func236.trans (congrArg some (by kernel_rfl))
  f24 := Tryz.func237.trans (congrArg some (by kernel_rfl))
  f25 := Tryz.func259.trans (congrArg some (by kernel_rfl))
  f26 := Tryz.func260.trans (congrArg some (by kernel_rfl))
  f27 := Tryz.func118.trans (congrArg some (by kernel_rfl))
  f28 := Tryz.func165.trans (congrArg some (by kernel_rfl))
  f29 := Tryz.func201.trans (congrArg some (by kernel_rfl))
  f30 := Tryz.func229.trans (congrArg some (by kernel_rfl))
  f31 := Tryz.func230.trans (congrArg some (by kernel_rfl))
  f32 := Tryz.func231.trans (congrArg some (by kernel_rfl))
  f33 := Tryz.func232.trans (congrArg some (by kernel_rfl))
  f34 := Tryz.func254.trans (congrArg some (by kernel_rfl))
  f35 := Tryz.func255.trans (congrArg some (by kernel_rfl))
  f36 := Tryz.func256.trans (congrArg some (by kernel_rfl))
  f37 := Tryz.func257.trans (congrArg some (by kernel_rfl))
  f38 := Tryz.func258.trans (congrArg some (by kernel_rfl))
  f39 := Tryz.func267.trans (congrArg some (by kernel_rfl))
  f40 := Tryz.func268.trans (congrArg some (by kernel_rfl))
  t0 := Tryz.underlying0
  a0 := Tryz.isAgg0
  z0 := Tryz.sizeOf0
  v0 := Tryz.zeroValue0
  i0 := by kernel_rfl
  t2 := Tryz.underlying2
  a2 := Tryz.isAgg2
  z2 := Tryz.sizeOf2
  v2 := Tryz.zeroValue2
  i2 := by kernel_rfl
  t3 := Tryz.underlying3
  a3 := Tryz.isAgg3
  z3 := Tryz.sizeOf3
  v3 := Tryz.zeroValue3
  i3 := by kernel_rfl
  t4 := Tryz.underlying4
  a4 := Tryz.isAgg4
  z4 := Tryz.sizeOf4
  v4 := Tryz.zeroValue4
  i4 := by kernel_rfl
  t5 := Tryz.underlying5
  a5 := Tryz.isAgg5
  z5 := Tryz.sizeOf5
  v5 := Tryz.zeroValue5
  i5 := by kernel_rfl
  t9 := Tryz.underlying9
  a9 := Tryz.isAgg9
  z9 := Tryz.sizeOf9
  v9 := Tryz.zeroValue9
  i9 := by kernel_rfl
  t20 := Tryz.underlying20
  a20 := Tryz.isAgg20
  z20 := Tryz.sizeOf20
  v20 := Tryz.zeroValue20
  i20 := by kernel_rfl
  t21 := Tryz.underlying21
  a21 := Tryz.isAgg21
  z21 := Tryz.sizeOf21
  v21 := Tryz.zeroValue21
  i21 := by kernel_rfl
  t22 := Tryz.underlying146
  a22 := Tryz.isAgg146
  z22 := Tryz.sizeOf146
  v22 := Tryz.zeroValue146
  i22 := by kernel_rfl
  t24 := Tryz.underlying167
  a24 := Tryz.isAgg167
  z24 := Tryz.sizeOf167
  v24 := Tryz.zeroValue167
  i24 := by kernel_rfl
  t25 := Tryz.underlying173
  a25 := Tryz.isAgg173
  z25 := Tryz.sizeOf173
  v25 := Tryz.zeroValue173
  i25 := by kernel_rfl
  t34 := Tryz.underlying217
  a34 := Tryz.isAgg217
  z34 := Tryz.sizeOf217
  v34 := Tryz.zeroValue217
  i34 := by kernel_rfl
  c34 := by kernel_rfl
  t36 := Tryz.underlying150
  a36 := Tryz.isAgg150
  z36 := Tryz.sizeOf150
  v36 := Tryz.zeroValue150
  i36 := by kernel_rfl
  t37 := Tryz.underlying162
  a37 := Tryz.isAgg162
  z37 := Tryz.sizeOf162
  v37 := Tryz.zeroValue162
  i37 := by kernel_rfl
  t39 := Tryz.underlying220
  a39 := Tryz.isAgg220
  z39 := Tryz.sizeOf220
  v39 := Tryz.zeroValue220
  i39 := by kernel_rfl
  t44 := Tryz.underlying242
  a44 := Tryz.isAgg242
  z44 := Tryz.sizeOf242
  v44 := Tryz.zeroValue242
  i44 := by kernel_rfl
  t47 := Tryz.underlying191
  a47 := Tryz.isAgg191
  z47 := Tryz.sizeOf191
  v47 := Tryz.zeroValue191
  i47 := by kernel_rfl
  t48 := Tryz.underlying247
  a48 := Tryz.isAgg247
  z48 := Tryz.sizeOf247
  v48 := Tryz.zeroValue247
  i48 := by kernel_rfl
  t50 := Tryz.underlying249
  a50 := Tryz.isAgg249
  z50 := Tryz.sizeOf249
  v50 := Tryz.zeroValue249
  i50 := by kernel_rfl
  t52 := Tryz.underlying212
  a52 := Tryz.isAgg212
  z52 := Tryz.sizeOf212
  v52 := Tryz.zeroValue212
  i52 := by kernel_rfl
  t55 := Tryz.underlying215
  a55 := Tryz.isAgg215
  z55 := Tryz.sizeOf215
  v55 := Tryz.zeroValue215
  i55 := by kernel_rfl
  t59 := Tryz.underlying236
  a59 := Tryz.isAgg236
  z59 := Tryz.sizeOf236
  v59 := Tryz.zeroValue236
  i59 := by kernel_rfl
  t60 := Tryz.underlying46
  a60 := Tryz.isAgg46
  z60 := Tryz.sizeOf46
  v60 := Tryz.zeroValue46
  i60 := by kernel_rfl
  t61 := Tryz.underlying237
  a61 := Tryz.isAgg237
  z61 := Tryz.sizeOf237
  t65 := Tryz.underlying255
  a65 := Tryz.isAgg255
  z65 := Tryz.sizeOf255
  v65 := Tryz.zeroValue255
  i65 := by kernel_rfl
  t66 := Tryz.underlying256
  a66 := Tryz.isAgg256
  z66 := Tryz.sizeOf256
  v66 := Tryz.zeroValue256
  i66 := by kernel_rfl
  t67 := Tryz.underlying170
  a67 := Tryz.isAgg170
  z67 := Tryz.sizeOf170
  v67 := Tryz.zeroValue170
  i67 := by kernel_rfl
  g0 := by kernel_rfl
  m0 := by kernel_rfl
  g1 := by kernel_rfl
  m1 := by kernel_rfl
  g2 := by kernel_rfl
  m2 := by kernel_rfl
  g3 := by kernel_rfl
  m3 := by kernel_rfl
  g4 := by kernel_rfl
  m4 := by kernel_rfl }
open Go.RowKit in
theorem Sh.strings_CutPrefix (s p : ByteArray) (w : World) :
    Calls Tryz.prog 132 #[.string s, .string p] w fun e w' => e = .returned (.tuple #[.string ⟨(Lib.trimPrefix s.data.toList p.data.toList).toArray⟩, .bool (Lib.hasPrefix s.data.toList p.data.toList)]) ∧ w' = w := Any.strings_CutPrefix Sh.lays103 s p w
open Go.RowKit Go.Lib in
theorem Sh.stringslite_Index_one (s : ByteArray) (c : UInt8) (w : World) :
    Calls Tryz.prog 192 #[.string s, .string ⟨#[c]⟩] w fun e w' => e = .returned (.int .i64 (Lib.indexByte s.data.toList c)) ∧ w' = w := Any.stringslite_Index_one Sh.lays219 s c w
open Go.RowKit in
theorem Sh.strconv_ParseUint_10_at32_ok (s : ByteArray) (hmax : s.size ≤ 9223372036854775806) (u : Nat) (h : Lib.parseUintB 32 s.data.toList = .ok u) (w : World) :
    Calls Tryz.prog 174 #[.string s, .int .i64 10, .int .i64 32] w fun e w' => e = .returned (.tuple #[.int .u64 u, .nilIface]) ∧ (w' = w ∨ w' = Lib.bytesWorld w 5 s) := Any.strconv_ParseUint_10_at32_ok Sh.laysPu14 s hmax u h w
open Go.RowKit in
theorem Sh.strings_Trim_set (s cutset : ByteArray) (w : World) (hs : s.size ≤ 9223372036854775807) (hcs : cutset.size < 4294967281) (hascii : ∀ (j : Nat) b, cutset.data.toList[j]? = some b → b.toNat < 128) :
    Calls Tryz.prog 173 #[.string s, .string cutset] w fun e w' => e = .returned (.string ⟨(Lib.trimS s.data.toList cutset.data.toList).toArray⟩) ∧ Below w.heap.size w w' := Any.strings_Trim_laid Sh.lays160 (by kernel_rfl) s cutset w hs hcs hascii
end Go.Proofs.YtjoonfegjobgbaaGreatDoor
namespace Go.Proofs.YtjoonfegjobgbaaGreatDoor
open Go Go.RowKit
def dig10 : ByteArray := ⟨#[48, 49, 50, 51, 52, 53, 54, 55, 56, 57]⟩
theorem bw_ext {w w' : World} {s : ByteArray} (h : w' = w ∨ w' = Lib.bytesWorld w 5 s) : Ext w w' := by
  rcases h with rfl | rfl
  · exact Ext.refl _
  · exact Lib.bytesWorld_below _ _ _
theorem rv_str {Z : Nat → Prop} {w : World} {x : ByteArray} {v : Value} (h : RV Z w .st x v) : v = .string x ∧ x.size ≤ maxI := by
  unfold RV at h
  rw [if_neg (by simp [Ty.agg]), RT] at h
  exact ⟨by simpa using h.1, h.2⟩
theorem rq_str {Z : Nat → Prop} {w : World} {base : Nat} {x : ByteArray} (h : x.size ≤ maxI) : RQ true Z w base .st x [.string x] [] := by
  refine ⟨?_, rfl⟩
  rw [RT]
  exact ⟨rfl, h⟩
theorem rq_bool {Z : Nat → Prop} {w : World} {base : Nat} {b : Bool} : RQ true Z w base .bo b [.bool b] [] := by
  refine ⟨?_, rfl⟩
  rw [RT]
def ixB (s p : ByteArray) : Int := Lib.indexByte s.data.toList (p.get! 0)
def sp_sIdx : Spec := { q := .un, ps := [.st, .st], rs := [.it .i64], fresh := true, pre := fun _ x => some (ByteArray.size x.2.1 = 1), post := fun _ x => ((), (ixB x.1 x.2.1, ())) }
theorem ib_rng : ∀ (l : List UInt8) (c : UInt8), Lib.indexByte l c = -1 ∨ (0 ≤ Lib.indexByte l c ∧ Lib.indexByte l c < l.length)
  | [], c => .inl rfl
  | b :: l, c => by
    have ih := ib_rng l c
    unfold Lib.indexByte
    by_cases h : (b == c) = true
    · rw [if_pos h]
      exact .inr ⟨by omega, by simp only [List.length_cons]; omega⟩
    · rw [if_neg h]
      by_cases k : (Lib.indexByte l c == -1) = true
      · rw [if_pos k]
        exact .inl rfl
      · rw [if_neg k]
        rcases ih with ih | ih
        · exact absurd (by rw [ih]; rfl) k
        · exact .inr ⟨by omega, by simp only [List.length_cons]; omega⟩
theorem ixB_rng (s p : ByteArray) : ixB s p = -1 ∨ (0 ≤ ixB s p ∧ ixB s p < s.size) := by
  have := ib_rng s.data.toList (p.get! 0)
  have e : s.data.toList.length = s.size := by simp
  rw [e] at this
  exact this
theorem one_byte {p : ByteArray} (h : p.size = 1) : p = ⟨#[p.get! 0]⟩ := by
  obtain ⟨⟨l⟩⟩ := p
  match l, h with
  | [c], _ => rfl
theorem fo_sIdx : FnOk Tryz.prog 192 sp_sIdx := by
  refine ⟨callFunc_enter Tryz.func192 (by kernel_rfl) rfl, fun Z w gv vs y x hZ hv hp _ _ => ?_⟩
  obtain ⟨s, p, u⟩ := x
  match vs, hv with
  | [v1, v2], ⟨h1, h2, _⟩ =>
    have hp : ByteArray.size p = 1 := hp
    obtain ⟨rfl, s1⟩ := rv_str h1
    obtain ⟨rfl, s2⟩ := rv_str h2
    have e := one_byte hp
    have := Sh.stringslite_Index_one s (p.get! 0) w
    rw [← e] at this
    refine this.mono fun e w' ⟨e1, e2⟩ => ?_
    subst e1 e2
    refine told_new (S := sp_sIdx) (r := (ixB s p, ())) (us := [_]) (bs := []) rfl rfl (.inl ⟨_, rfl, rfl⟩) hZ ⟨[], [], rfl, ⟨?_, rfl⟩, rfl⟩ List.nodup_nil (fun g hg => by simp at hg) (Ext.refl _)
    rw [RT]
    have r := ixB_rng s p
    have m : IntKind.i64.min = -9223372036854775808 := rfl
    have m' : IntKind.i64.max = 9223372036854775807 := rfl
    have m2 : s.size ≤ 9223372036854775807 := s1
    refine ⟨rfl, ?_, ?_⟩
    · show _ ≤ ixB s p
      omega
    · show ixB s p ≤ _
      omega
def cutP (s p : ByteArray) : ByteArray × Bool := (⟨(Lib.trimPrefix s.data.toList p.data.toList).toArray⟩, Lib.hasPrefix s.data.toList p.data.toList)
def sp_sCutP : Spec := { q := .un, ps := [.st, .st], rs := [.st, .bo], fresh := true, pre := fun _ _ => none, post := fun _ x => ((), ((cutP x.1 x.2.1).1, (cutP x.1 x.2.1).2, ())) }
theorem cutP_size (s p : ByteArray) : (cutP s p).1.size ≤ s.size := by
  have := Lib.trimPrefix_le s.data.toList p.data.toList
  show (Lib.trimPrefix s.data.toList p.data.toList).toArray.size ≤ s.data.size
  simpa using this
theorem fo_sCutP : FnOk Tryz.prog 132 sp_sCutP := by
  refine ⟨callFunc_enter Tryz.func132 (by kernel_rfl) rfl, fun Z w gv vs y x hZ hv hp _ _ => ?_⟩
  obtain ⟨s, p, u⟩ := x
  match vs, hv with
  | [v1, v2], ⟨h1, h2, _⟩ =>
    obtain ⟨rfl, s1⟩ := rv_str h1
    obtain ⟨rfl, s2⟩ := rv_str h2
    refine (Sh.strings_CutPrefix s p w).mono fun e w' ⟨e1, e2⟩ => ?_
    subst e1 e2
    exact told_new (S := sp_sCutP) (r := ((cutP s p).1, (cutP s p).2, ())) (us := [_, _]) (bs := []) rfl rfl (.inr ⟨by simp, rfl⟩) hZ ⟨[], [], rfl, rq_str (base := w'.heap.size) (Nat.le_trans (cutP_size s p) s1), [], [], rfl, rq_bool (base := w'.heap.size), rfl⟩ List.nodup_nil (fun g hg => by simp at hg) (Ext.refl _)
end Go.Proofs.YtjoonfegjobgbaaGreatDoor
