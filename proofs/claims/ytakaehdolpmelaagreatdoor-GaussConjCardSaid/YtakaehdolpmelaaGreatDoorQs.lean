/- Texts of this claim, joined: P10 P11 P12 A30 E2 E3 E4 E5 O1. -/
import Derived.ProofKit
import Derived.OpenShut
import Derived.ChangeOld
import Derived.Below
import Derived.Lib.SmallJoins
import Derived.Deep.Slices
import Derived.Deep.Fields
import Derived.ChangeSame
import Derived.Test.YtakaehdolpmelaaGreatDoorQr
set_option linter.unusedVariables false
set_option linter.unusedSimpArgs false
set_option maxRecDepth 100000
namespace Go.Proofs.YtakaehdolpmelaaGreatDoor
open Go
def sm (q : Rat) : Bool := decide (q.num.natAbs < 4294967296) && decide (q.den < 4294967296)
theorem wd_one_len {n : Nat} (h : n < 4294967296) : (wd n).length ≤ 1 := wd_len_le n 1 (by show (n : Int) < 4294967296; omega)
theorem sm_lng {q : Rat} (h : sm q = true) : ¬ lng q = true := by
  unfold sm at h
  simp only [Bool.and_eq_true, decide_eq_true_eq] at h
  exact lng_of (Nat.le_trans (wd_one_len h.1) (by decide)) (Nat.le_trans (wd_one_len h.2) (by decide))
theorem fchk_s {q : Rat} (h : sm q = true) : fchk (enc q) = 0 := fchk_enc q (sm_lng h)
section
variable {p q r : Rat}
theorem fadd_s (h : (sm p && sm q && sm r) = true) (e : p + q = r) : fadd (enc p) (enc q) = (enc r, 0) := by
  simp only [Bool.and_eq_true] at h
  rw [fadd_enc (sm_lng h.1.1) (sm_lng h.1.2), e, tell_ok (sm_lng h.2)]
theorem fsub_s (h : (sm p && sm q && sm r) = true) (e : p - q = r) : fsub (enc p) (enc q) = (enc r, 0) := by
  simp only [Bool.and_eq_true] at h
  show both (enc p) (enc q) _ = _
  rw [both_ok (sm_lng h.1.1) (sm_lng h.1.2), e, tell_ok (sm_lng h.2)]
theorem fmul_s (h : (sm p && sm q && sm r) = true) (e : p * q = r) : fmul (enc p) (enc q) = (enc r, 0) := by
  simp only [Bool.and_eq_true] at h
  show both (enc p) (enc q) _ = _
  rw [both_ok (sm_lng h.1.1) (sm_lng h.1.2), e, tell_ok (sm_lng h.2)]
theorem fsmall_s {n d : Int} (h0 : d ≠ 0) (h : sm r = true) (e : mkRat (sg (decide (n < 0) != decide (d < 0)) n.natAbs) d.natAbs = r) : fsmall n d = (enc r, 0) := by
  unfold fsmall
  rw [if_neg h0, e, tell_ok (sm_lng h)]
end
def ge (p q : Rat) : Ga := ⟨enc p, enc q⟩
theorem gchk_s {p q : Rat} (h : (sm p && sm q) = true) : gchk (ge p q) = 0 := by
  simp only [Bool.and_eq_true] at h
  unfold gchk fchk2 ge
  rw [fchk_s h.1, fchk_s h.2]
  rfl
theorem gchk2_s {p q r s : Rat} (h : (sm p && sm q) = true) (k : (sm r && sm s) = true) : gchk2 (ge p q) (ge r s) = 0 := by
  unfold gchk2
  rw [gchk_s h, gchk_s k]
  rfl
section
variable {a b c d u v x y r i : Rat}
theorem gmul_s (h : (sm a && sm b && (sm c && sm d) && (sm u && sm v && (sm x && sm y)) && (sm r && sm i)) = true) (e1 : a * c = u) (e2 : b * d = v) (e3 : u - v = r) (e4 : a * d = x) (e5 : b * c = y) (e6 : x + y = i) : gmul (ge a b) (ge c d) = (ge r i, 0) := by
  simp only [Bool.and_eq_true] at h
  obtain ⟨⟨⟨⟨h1, h2⟩, h3, h4⟩, ⟨h5, h6⟩, h7, h8⟩, h9, h10⟩ := h
  have g : gchk2 (ge a b) (ge c d) = 0 := gchk2_s (by rw [h1, h2]; rfl) (by rw [h3, h4]; rfl)
  have f1 := fmul_s (p := a) (q := c) (r := u) (by rw [h1, h3, h5]; rfl) e1
  have f2 := fmul_s (p := b) (q := d) (r := v) (by rw [h2, h4, h6]; rfl) e2
  have f3 := fsub_s (p := u) (q := v) (r := r) (by rw [h5, h6, h9]; rfl) e3
  have f4 := fmul_s (p := a) (q := d) (r := x) (by rw [h1, h4, h7]; rfl) e4
  have f5 := fmul_s (p := b) (q := c) (r := y) (by rw [h2, h3, h8]; rfl) e5
  have f6 := fadd_s (p := x) (q := y) (r := i) (by rw [h7, h8, h10]; rfl) e6
  have p1 : wpair 0 (enc a) (enc c) (enc b) (enc d) true = (enc r, 0) := by
    rw [wpair_3 (by rw [f1]) (by rw [f2]), f1, f2, f3]
  have p2 : wpair 0 (enc a) (enc d) (enc b) (enc c) false = (enc i, 0) := by
    rw [wpair_4 (by rw [f4]) (by rw [f5]), f4, f5, f6]
  have q1 : wpair 0 (ge a b).re (ge c d).re (ge a b).im (ge c d).im true = (enc r, 0) := p1
  have q2 : wpair 0 (ge a b).re (ge c d).im (ge a b).im (ge c d).re false = (enc i, 0) := p2
  rw [gmul_4 g (by rw [q1]) (by rw [q2]), q1, q2]
  rfl
end
end Go.Proofs.YtakaehdolpmelaaGreatDoor
namespace Go.Proofs.YtakaehdolpmelaaGreatDoor
theorem fmul_enc {p q : Rat} (h : ¬ lng p = true) (k : ¬ lng q = true) : fmul (enc p) (enc q) = tell (p * q) := both_ok h k
theorem fquo_enc {p q : Rat} (h : ¬ lng p = true) (k : ¬ lng q = true) (n : q ≠ 0) : fquo (enc p) (enc q) = tell (p / q) := (both_ok h k).trans (if_neg n)
def szw (n : Nat) (q : Rat) : Prop := (wd q.num.natAbs).length ≤ n ∧ (wd q.den).length ≤ n
section
variable {m n : Nat} {p q a b c d : Rat}
theorem szw.lng (h : szw n q) (k : n ≤ 2048) : ¬ lng q = true := lng_of (Nat.le_trans h.1 k) (Nat.le_trans h.2 k)
theorem szw_mk {x : Int} {d : Nat} (h0 : d ≠ 0) (h1 : (wd x.natAbs).length ≤ n) (h2 : (wd d).length ≤ n) : szw n (mkRat x d) := by
  have e := enc_mk (decide (x < 0)) x.natAbs d h0
  have es : sg (decide (x < 0)) x.natAbs = x := by
    unfold sg
    by_cases h : x < 0
    · rw [if_pos (by simpa using h)]; omega
    · rw [if_neg (by simpa using h)]; omega
  rw [es] at e
  have e1 : wd (mkRat x d).num.natAbs = wd (x.natAbs / Nat.gcd x.natAbs d) := congrArg Fr.num e
  have e2 : wd (mkRat x d).den = wd (d / Nat.gcd x.natAbs d) := congrArg Fr.den e
  refine ⟨?_, ?_⟩
  · rw [e1]
    exact Nat.le_trans (wd_len_mono (Nat.div_le_self _ _)) h1
  · rw [e2]
    exact Nat.le_trans (wd_len_mono (Nat.div_le_self _ _)) h2
theorem szw.add (h : szw m p) (k : szw n q) : szw (m + n + 1) (p + q) := by
  rw [Rat.add_def']
  obtain ⟨h1, h2⟩ := h
  obtain ⟨k1, k2⟩ := k
  refine szw_mk (Nat.mul_ne_zero p.den_nz q.den_nz) ?_ ?_
  · have a1 := wd_len_mono (Int.natAbs_add_le (p.num * q.den) (q.num * p.den))
    have a2 := wd_len_add (p.num * q.den).natAbs (q.num * p.den).natAbs
    rw [Int.natAbs_mul, Int.natAbs_mul, Int.natAbs_natCast, Int.natAbs_natCast] at a1 a2
    have a3 := wd_len_mul p.num.natAbs q.den
    have a4 := wd_len_mul q.num.natAbs p.den
    omega
  · have := wd_len_mul p.den q.den
    omega
theorem szw.mul (h : szw m p) (k : szw n q) : szw (m + n) (p * q) := by
  rw [Rat.mul_def']
  obtain ⟨h1, h2⟩ := h
  obtain ⟨k1, k2⟩ := k
  refine szw_mk (Nat.mul_ne_zero p.den_nz q.den_nz) ?_ ?_
  · rw [Int.natAbs_mul]
    have := wd_len_mul p.num.natAbs q.num.natAbs
    omega
  · have := wd_len_mul p.den q.den
    omega
theorem szw.neg (h : szw m p) : szw m (-p) := by
  unfold szw at h ⊢
  simpa using h
theorem szw.sub (h : szw m p) (k : szw n q) : szw (m + n + 1) (p - q) := by
  rw [Rat.sub_eq_add_neg]
  exact h.add k.neg
theorem szw.inv (h : szw m p) (h0 : p ≠ 0) : szw m p⁻¹ := by
  obtain ⟨h1, h2⟩ := h
  have n0 : p.num ≠ 0 := fun e => h0 (Rat.num_eq_zero.1 e)
  refine ⟨?_, ?_⟩
  · rw [Rat.num_inv, Int.natAbs_mul, Int.natAbs_natCast, Int.natAbs_sign_of_ne_zero n0, Nat.one_mul]
    exact h2
  · rw [Rat.den_inv, if_neg n0]
    exact h1
theorem szw.div (h : szw m p) (k : szw n q) (h0 : q ≠ 0) : szw (m + n) (p / q) := by
  rw [Rat.div_def]
  exact h.mul (k.inv h0)
theorem ge_chk (h : szw m a) (k : szw m b) (l : m ≤ 2048) : gchk (ge a b) = 0 := gchk_enc (h.lng l) (k.lng l)
theorem ge_chk2 (h1 : szw m a) (h2 : szw m b) (k1 : szw n c) (k2 : szw n d) (l : m ≤ 2048) (l' : n ≤ 2048) : gchk2 (ge a b) (ge c d) = 0 := gchk2_mk (ge_chk h1 h2 l) (ge_chk k1 k2 l')
theorem gadd_w (h1 : szw m a) (h2 : szw m b) (k1 : szw n c) (k2 : szw n d) (l : m + n + 1 ≤ 2048) : gadd (ge a b) (ge c d) = (ge (a + c) (b + d), 0) := by
  have g := ge_chk2 h1 h2 k1 k2 (by omega) (by omega)
  have f1 : fadd (ge a b).re (ge c d).re = (enc (a + c), 0) := (fadd_enc (h1.lng (by omega)) (k1.lng (by omega))).trans (tell_ok ((h1.add k1).lng l))
  have f2 : fadd (ge a b).im (ge c d).im = (enc (b + d), 0) := (fadd_enc (h2.lng (by omega)) (k2.lng (by omega))).trans (tell_ok ((h2.add k2).lng l))
  rw [gadd_4 g (by rw [f1]) (by rw [f2]), f1, f2]
  rfl
theorem wpair_w {e f : Rat} {l : Bool} (h1 : szw m a) (h2 : szw n b) (k1 : szw m e) (k2 : szw n f) (s : (m + n) + (m + n) + 1 ≤ 2048) : wpair 0 (enc a) (enc b) (enc e) (enc f) l = (enc (if l = true then a * b - e * f else a * b + e * f), 0) := by
  have m1 : fmul (enc a) (enc b) = (enc (a * b), 0) := (fmul_enc (h1.lng (by omega)) (h2.lng (by omega))).trans (tell_ok ((h1.mul h2).lng (by omega)))
  have m2 : fmul (enc e) (enc f) = (enc (e * f), 0) := (fmul_enc (k1.lng (by omega)) (k2.lng (by omega))).trans (tell_ok ((k1.mul k2).lng (by omega)))
  cases l with
  | true =>
    rw [wpair_3 (by rw [m1]) (by rw [m2]), m1, m2, if_pos rfl]
    exact (fsub_enc ((h1.mul h2).lng (by omega)) ((k1.mul k2).lng (by omega))).trans (tell_ok (((h1.mul h2).sub (k1.mul k2)).lng s))
  | false =>
    rw [wpair_4 (by rw [m1]) (by rw [m2]), m1, m2, if_neg (by decide)]
    exact (fadd_enc ((h1.mul h2).lng (by omega)) ((k1.mul k2).lng (by omega))).trans (tell_ok (((h1.mul h2).add (k1.mul k2)).lng s))
theorem gmul_w (h1 : szw m a) (h2 : szw m b) (k1 : szw n c) (k2 : szw n d) (l : (m + n) + (m + n) + 1 ≤ 2048) : gmul (ge a b) (ge c d) = (ge (a * c - b * d) (a * d + b * c), 0) := by
  have g := ge_chk2 h1 h2 k1 k2 (by omega) (by omega)
  have q1 : wpair 0 (ge a b).re (ge c d).re (ge a b).im (ge c d).im true = (enc (a * c - b * d), 0) := wpair_w h1 k1 h2 k2 l
  have q2 : wpair 0 (ge a b).re (ge c d).im (ge a b).im (ge c d).re false = (enc (a * d + b * c), 0) := wpair_w h1 k2 h2 k1 l
  rw [gmul_4 g (by rw [q1]) (by rw [q2]), q1, q2]
  rfl
theorem gnorm_w (h1 : szw m a) (h2 : szw m b) (l : (m + m) + (m + m) + 1 ≤ 2048) : gnorm (ge a b) = (enc (a * a + b * b), 0) := by
  rw [gnorm_2 (ge_chk h1 h2 (by omega))]
  exact wpair_w (l := false) h1 h1 h2 h2 l
theorem gconj_w (h1 : szw m a) (h2 : szw m b) (l : m ≤ 2048) : gconj (ge a b) = (ge a (-b), 0) := gconj_enc (h1.lng l) (h2.lng l)
theorem gneg_w (h1 : szw m a) (h2 : szw m b) (l : m ≤ 2048) : gneg (ge a b) = (ge (-a) (-b), 0) := gneg_enc (h1.lng l) (h2.lng l)
theorem gsame_w (h1 : szw m a) (h2 : szw m b) (l : m ≤ 2048) (e1 : a = c) (e2 : b = d) : gsame (ge a b) (ge c d) = true := by
  subst e1 e2
  unfold gsame
  rw [decide_eq_true ⟨ge_chk2 h1 h2 h1 h2 l l, rfl⟩]
theorem enc_num0 {q : Rat} (h : (enc q).num.length = 0) : q = 0 := by
  have : q.num.natAbs = 0 := wd_len_zero.1 h
  exact Rat.num_eq_zero.1 (by omega)
theorem gzero_w (h1 : szw m a) (h2 : szw m b) (l : m ≤ 2048) : gzero (ge a b) = decide (a = 0 ∧ b = 0) := by
  unfold gzero
  refine decide_eq_decide.2 ⟨fun h => ⟨enc_num0 h.2.1, enc_num0 h.2.2⟩, fun h => ?_⟩
  obtain ⟨rfl, rfl⟩ := h
  exact ⟨ge_chk h1 h2 l, by decide +kernel, by decide +kernel⟩
theorem sq_nonneg (x : Rat) : 0 ≤ x * x := by
  rcases Rat.le_total (a := 0) (b := x) with h | h
  · exact Rat.mul_nonneg h h
  · have : 0 ≤ -x := by grind
    have := Rat.mul_nonneg this this
    grind
theorem norm_zero {x y : Rat} (h : x * x + y * y = 0) : x = 0 ∧ y = 0 := by
  have h1 := sq_nonneg x
  have h2 := sq_nonneg y
  have e1 : x * x = 0 := by grind
  have e2 : y * y = 0 := by grind
  exact ⟨by rcases Rat.mul_eq_zero.1 e1 with e | e <;> exact e, by rcases Rat.mul_eq_zero.1 e2 with e | e <;> exact e⟩
theorem gquo_w (h1 : szw m a) (h2 : szw m b) (k1 : szw n c) (k2 : szw n d) (l : (m + n) + (m + n) + 1 + ((n + n) + (n + n) + 1) ≤ 2048) (hz : ¬ (c = 0 ∧ d = 0)) : gquo (ge a b) (ge c d) = (ge ((a * c + b * d) / (c * c + d * d)) ((b * c - a * d) / (c * c + d * d)), 0) := by
  have g := ge_chk2 h1 h2 k1 k2 (by omega) (by omega)
  have z : gzero (ge c d) = false := by rw [gzero_w k1 k2 (by omega), decide_eq_false hz]
  have no := gnorm_w k1 k2 (by omega)
  have cj := gconj_w k1 k2 (by omega)
  have n0 : c * c + d * d ≠ 0 := fun e => hz (norm_zero e)
  have pr := gmul_w h1 h2 k1 k2.neg (by omega)
  have wb : (ge c d).Wf := ⟨enc_wf _, enc_wf _⟩
  have sn : szw ((n + n) + (n + n) + 1) (c * c + d * d) := (k1.mul k1).add (k2.mul k2)
  have s1 : szw ((m + n) + (m + n) + 1) (a * c - b * -d) := (h1.mul k1).sub (h2.mul k2.neg)
  have s2 : szw ((m + n) + (m + n) + 1) (a * -d + b * c) := (h1.mul k2.neg).add (h2.mul k1)
  have pr' : gmul (ge a b) (gconj (ge c d)).1 = (ge (a * c - b * -d) (a * -d + b * c), 0) := by rw [cj]; exact pr
  have f1 : fquo (gmul (ge a b) (gconj (ge c d)).1).1.re (gnorm (ge c d)).1 = (enc ((a * c + b * d) / (c * c + d * d)), 0) := by
    rw [pr', no]
    rw [show a * c + b * d = a * c - b * -d by grind]
    exact (fquo_enc (s1.lng (by omega)) (sn.lng (by omega)) n0).trans (tell_ok ((s1.div sn n0).lng l))
  have f2 : fquo (gmul (ge a b) (gconj (ge c d)).1).1.im (gnorm (ge c d)).1 = (enc ((b * c - a * d) / (c * c + d * d)), 0) := by
    rw [pr', no]
    rw [show b * c - a * d = a * -d + b * c by grind]
    exact (fquo_enc (s2.lng (by omega)) (sn.lng (by omega)) n0).trans (tell_ok ((s2.div sn n0).lng l))
  rw [gquo_7 g z (by rw [no]) wb (by rw [pr']) (by rw [f1]), f1, f2]
  rfl
theorem ge_of {g : Ga} (wg : g.Wf) (h : gchk g = 0) (h1 : g.re.num.length ≤ n) (h2 : g.re.den.length ≤ n) (h3 : g.im.num.length ≤ n) (h4 : g.im.den.length ≤ n) : ∃ p q, g = ge p q ∧ szw n p ∧ szw n q := by
  obtain ⟨p, q, rfl, _, _⟩ := gchk_ok wg h
  exact ⟨p, q, rfl, ⟨h1, h2⟩, ⟨h3, h4⟩⟩
end
end Go.Proofs.YtakaehdolpmelaaGreatDoor
namespace Go.Proofs.YtakaehdolpmelaaGreatDoor
open Go Go.RowKit
def p_sure (p : Prim) : Prim := fun az O n => match p az O n with
  | some (c, G) => match G.ef with
    | ⟨.c (.sc (.bool b)), ob, k⟩ => some (some (oc c (b = true)), .e ⟨.c .tt, ob, k⟩)
    | _ => none
  | none => none
theorem Sim.tt {gp : Option Nat} {Z0 : Nat → Prop} {w0 w : World} {N : Nat} {d : Option Nat} {D : Nat → Prop} {c : Cf} {T : Nat → Option AV} {O : Store} {tm : Array Value} (h : Sim gp Z0 w0 N D c (upT T d (.c (.sc (.bool true)))) O tm w) : Sim gp Z0 w0 N D c (upT T d (.c .tt)) O tm w := by
  cases d with
  | none => exact h
  | some d =>
    exact { h with
      tmp := fun t v hv => by
        have hv : (bif Nat.beq d t then some (.c .tt) else T t) = some v := hv
        cases e : Nat.beq d t with
        | true =>
          rw [e] at hv
          cases hv
          obtain ⟨u, h1, h2⟩ := h.tmp t (.c (.sc (.bool true))) (by show (bif Nat.beq d t then _ else _) = _; rw [e]; rfl)
          exact ⟨u, h1, h2.1⟩
        | false =>
          rw [e] at hv
          exact h.tmp t v (by show (bif Nat.beq d t then _ else _) = _; rw [e]; exact hv) }
theorem pr_sure {P : Program} {f : Nat} {p : Prim} (hp : PrimOk P f p) : PrimOk P f (p_sure p) := by
  refine ⟨hp.1, fun gp Z0 w0 N D c T O O' a w xs vs n cd G hS hO hl hv hG hD hc => ?_⟩
  unfold p_sure at hG
  cases h1 : p xs O' n with
  | none => rw [h1] at hG; cases hG
  | some q =>
    obtain ⟨c1, G1⟩ := q
    rw [h1] at hG
    dsimp only at hG
    split at hG
    · rename_i b ob k hef
      cases hG
      have hc : oc c1 (b = true) := hc
      have hb : b = true ∧ holds c1 := by
        cases c1 with
        | none => exact ⟨hc, trivial⟩
        | some X => exact ⟨hc.2, hc.1⟩
      obtain ⟨rfl, hc1⟩ := hb
      have := hp.2 gp Z0 w0 N D c T O O' a w xs vs n c1 G1 hS hO hl hv h1 (by rw [hef]; exact hD) hc1
      rw [hef] at this
      refine this.mono ?_
      rintro e w' ⟨v, c', rfl, h2⟩
      exact ⟨v, c', rfl, fun d hd => Sim.tt (h2 d hd)⟩
    · cases hG
def sP (f : Fr) : Prop := fchk f = 0 ∧ toN f.num < 100 ∧ toN f.den < 100
def txR (f : Fr) : ByteArray := if toN f.den = 1 then (if f.neg = true then ⟨#[45]⟩ ++ dgB (toN f.num) else dgB (toN f.num)) else (if f.neg = true then ⟨#[45]⟩ ++ dgB (toN f.num) else dgB (toN f.num)) ++ (⟨#[47]⟩ ++ dgB (toN f.den))
theorem nrm_1 : nrm [1] := by
  rw [← wd_one]
  exact nrm_wd 1
theorem toN_1 : toN [1] = 1 := by rw [← wd_one, toN_wd]
theorem nrm_of {f : Fr} (wf : f.Wf) (h : fchk f = 0) : nrm f.num ∧ nrm f.den := by
  obtain ⟨q, rfl, _⟩ := fchk_ok wf h
  exact ⟨nrm_wd _, nrm_wd _⟩
theorem cmp1_T {n : Nat} (h : ((cmp n (toN [1]) : Int) != 0) = true) : n ≠ 1 := fun e => by
  rw [e, toN_1] at h
  exact absurd h (by decide)
theorem cmp1_F {n : Nat} (h : ((cmp n (toN [1]) : Int) != 0) = false) : n = 1 := by
  rw [toN_1] at h
  have h := bne_eq_false_iff_eq.1 h
  unfold cmp at h
  split at h
  · cases h
  · split at h
    · cases h
    · omega
noncomputable def sp_rPrint : Spec := { q := .un, ps := [tR], rs := [.st, .it .i64], fresh := true, pre := fun _ x => some (sP (toFr x.1)), post := fun _ x => ((), (txR (toFr x.1), 0, ())) }
noncomputable def iv_rPrint (y : El sp_rPrint.q) (x : Els sp_rPrint.ps) : Nat → Option Inv := fun _ => none
noncomputable abbrev c_rPrint : Cfg := cfgS (Tryz.f26).ntmps false [(33, sp_rCheck.prim), (69, sp_aPrint.prim), (70, sp_aCmp.prim)]
def F_rPrint (y : El sp_rPrint.q) (x : Els sp_rPrint.ps) : Prop :=
  ∀ (r : Ro [Ty.it IntKind.i64]), r = ((), fchk (toFr x.1), ()) → ((r.2.1 != (0 : Int)) = true → ((⟨#[]⟩ : ByteArray), r.2) = (txR (toFr x.1), (0 : El (Ty.it IntKind.i64)), ())) ∧ ((r.2.1 != (0 : Int)) = false → (x.1.2.1 = wd (toN x.1.2.1) ∧ toN x.1.2.1 < (100 : Nat)) ∧ ∀ (r : Ro [Ty.st, Ty.it IntKind.i64]), r = ((), dgB (toN x.1.2.1), (0 : El (Ty.it IntKind.i64)), ()) → (x.1.1 = true → (⟨#[(45 : UInt8)]⟩ : ByteArray).size + ByteArray.size r.2.1 ≤ (9223372036854775807 : Nat) ∧ (x.1.2.2.1 = wd (toN x.1.2.2.1) ∧ [(1 : Int)] = wd (toN [(1 : Int)])) ∧ ∀ (r_1 : Ro [Ty.it IntKind.i64]), r_1 = ((), cmp (toN x.1.2.2.1) (toN [(1 : Int)]), ()) → ((r_1.2.1 != (0 : Int)) = true → (x.1.2.2.1 = wd (toN x.1.2.2.1) ∧ toN x.1.2.2.1 < (100 : Nat)) ∧ ∀ (r_2 : Ro [Ty.st, Ty.it IntKind.i64]), r_2 = ((), dgB (toN x.1.2.2.1), (0 : El (Ty.it IntKind.i64)), ()) → (⟨#[(47 : UInt8)]⟩ : ByteArray).size + ByteArray.size r_2.2.1 ≤ (9223372036854775807 : Nat) ∧ ((⟨#[(45 : UInt8)]⟩ : ByteArray) ++ r.2.1).size + ((⟨#[(47 : UInt8)]⟩ : ByteArray) ++ r_2.2.1).size ≤ (9223372036854775807 : Nat) ∧ ((⟨#[(45 : UInt8)]⟩ : ByteArray) ++ r.2.1 ++ ((⟨#[(47 : UInt8)]⟩ : ByteArray) ++ r_2.2.1), (0 : Int), ()) = (txR (toFr x.1), (0 : El (Ty.it IntKind.i64)), ())) ∧ ((r_1.2.1 != (0 : Int)) = false → ((⟨#[(45 : UInt8)]⟩ : ByteArray) ++ r.2.1, (0 : Int), ()) = (txR (toFr x.1), (0 : El (Ty.it IntKind.i64)), ()))) ∧ (x.1.1 = false → (x.1.2.2.1 = wd (toN x.1.2.2.1) ∧ [(1 : Int)] = wd (toN [(1 : Int)])) ∧ ∀ (r_1 : Ro [Ty.it IntKind.i64]), r_1 = ((), cmp (toN x.1.2.2.1) (toN [(1 : Int)]), ()) → ((r_1.2.1 != (0 : Int)) = true → (x.1.2.2.1 = wd (toN x.1.2.2.1) ∧ toN x.1.2.2.1 < (100 : Nat)) ∧ ∀ (r_2 : Ro [Ty.st, Ty.it IntKind.i64]), r_2 = ((), dgB (toN x.1.2.2.1), (0 : El (Ty.it IntKind.i64)), ()) → (⟨#[(47 : UInt8)]⟩ : ByteArray).size + ByteArray.size r_2.2.1 ≤ (9223372036854775807 : Nat) ∧ ByteArray.size r.2.1 + ((⟨#[(47 : UInt8)]⟩ : ByteArray) ++ r_2.2.1).size ≤ (9223372036854775807 : Nat) ∧ (r.2.1 ++ ((⟨#[(47 : UInt8)]⟩ : ByteArray) ++ r_2.2.1), (0 : Int), ()) = (txR (toFr x.1), (0 : El (Ty.it IntKind.i64)), ())) ∧ ((r_1.2.1 != (0 : Int)) = false → (r.2.1, (0 : Int), ()) = (txR (toFr x.1), (0 : El (Ty.it IntKind.i64)), ()))))
theorem w_rPrint (y : El sp_rPrint.q) (x : Els sp_rPrint.ps) : aW c_rPrint (iv_rPrint y x) Tryz.f26 sp_rPrint y x = F_rPrint y x := by kernel_rfl
theorem m_rPrint (y : El (.un)) (x : Els [tR]) (h2 : wfE (.un) y) (h3 : wfEs [tR] x) (h4 : sP (toFr x.1)) : F_rPrint y x := by
  unfold F_rPrint
  have q : sP (toFr x.1) := h4
  obtain ⟨q0, q1, q2⟩ := q
  obtain ⟨n1, n2⟩ := nrm_of (wf_fr h3.1) q0
  have z1 := dgB_size _ q1
  have z2 := dgB_size _ q2
  have z3 : (⟨#[45]⟩ : ByteArray).size = 1 := rfl
  have z4 : (⟨#[47]⟩ : ByteArray).size = 1 := rfl
  rintro _ rfl
  refine ⟨fun h => absurd q0 (neT h), fun _ => ⟨⟨n1, q1⟩, ?_⟩⟩
  rintro _ rfl
  refine ⟨fun hn => ⟨?_, ⟨n2, nrm_1⟩, ?_⟩, fun hn => ⟨⟨n2, nrm_1⟩, ?_⟩⟩
  · show (⟨#[45]⟩ : ByteArray).size + (dgB (toN (toFr x.1).num)).size ≤ _
    omega
  · rintro _ rfl
    refine ⟨fun hd => ⟨⟨n2, q2⟩, ?_⟩, fun hd => ?_⟩
    · have hd := cmp1_T hd
      rintro _ rfl
      refine ⟨?_, ?_, ?_⟩
      · show (⟨#[47]⟩ : ByteArray).size + (dgB (toN (toFr x.1).den)).size ≤ _
        omega
      · show ((⟨#[45]⟩ : ByteArray) ++ dgB (toN (toFr x.1).num)).size + ((⟨#[47]⟩ : ByteArray) ++ dgB (toN (toFr x.1).den)).size ≤ _
        rw [ByteArray.size_append, ByteArray.size_append]
        omega
      · unfold txR
        rw [if_neg hd, if_pos (show (toFr x.1).neg = true from hn)]
    · have hd := cmp1_F hd
      unfold txR
      rw [if_pos hd, if_pos (show (toFr x.1).neg = true from hn)]
  · have hn' : ¬ (toFr x.1).neg = true := fun e => by
      have hn : (toFr x.1).neg = false := hn
      rw [hn] at e
      cases e
    rintro _ rfl
    refine ⟨fun hd => ⟨⟨n2, q2⟩, ?_⟩, fun hd => ?_⟩
    · have hd := cmp1_T hd
      rintro _ rfl
      refine ⟨?_, ?_, ?_⟩
      · show (⟨#[47]⟩ : ByteArray).size + (dgB (toN (toFr x.1).den)).size ≤ _
        omega
      · show (dgB (toN (toFr x.1).num)).size + ((⟨#[47]⟩ : ByteArray) ++ dgB (toN (toFr x.1).den)).size ≤ _
        rw [ByteArray.size_append]
        omega
      · unfold txR
        rw [if_neg hd, if_neg hn']
    · have hd := cmp1_F hd
      unfold txR
      rw [if_pos hd, if_neg hn']
theorem fo_rPrint : FnOk Tryz.prog 26 sp_rPrint := fnOk_of (C := c_rPrint) iv_rPrint Tryz.func26 rfl (by kernel_rfl) tys_ok (prims_cons (spec_prim fo_rCheck) (prims_cons (spec_prim fo_aPrint) (prims_cons (spec_prim fo_aCmp) prims_nil))) mixed_ (Nat.le_refl _) rfl fun y x h1 h2 h3 h4 =>
  Eq.mpr (w_rPrint y x) (m_rPrint y x h2 h3 h4)
theorem txR_size {f : Fr} (h : sP f) : (txR f).size ≤ 6 := by
  obtain ⟨_, q1, q2⟩ := h
  have z1 := dgB_size _ q1
  have z2 := dgB_size _ q2
  have z3 : (⟨#[45]⟩ : ByteArray).size = 1 := rfl
  have z4 : (⟨#[47]⟩ : ByteArray).size = 1 := rfl
  unfold txR
  repeat' split
  all_goals try simp only [ByteArray.size_append]
  all_goals omega
noncomputable def sp_gPrint : Spec := { q := .un, ps := [tG], rs := [.st, .it .i64], fresh := true, pre := fun _ x => some (sP (toFr x.1.1) ∧ sP (toFr x.1.2.1)), post := fun _ x => ((), (txR (toFr x.1.1) ++ ⟨#[32]⟩ ++ txR (toFr x.1.2.1), 0, ())) }
noncomputable def iv_gPrint (y : El sp_gPrint.q) (x : Els sp_gPrint.ps) : Nat → Option Inv := fun _ => none
noncomputable abbrev c_gPrint : Cfg := cfgS (Tryz.f50).ntmps false [(52, sp_gCheck.prim), (26, sp_rPrint.prim)]
def F_gPrint (y : El sp_gPrint.q) (x : Els sp_gPrint.ps) : Prop :=
  ∀ (r : Ro [Ty.it IntKind.i64]), r = ((), gchk (toGa x.1), ()) → ((r.2.1 != (0 : Int)) = true → ((⟨#[]⟩ : ByteArray), r.2) = (txR (toFr x.1.1) ++ (⟨#[(32 : UInt8)]⟩ : ByteArray) ++ txR (toFr x.1.2.1), (0 : El (Ty.it IntKind.i64)), ())) ∧ ((r.2.1 != (0 : Int)) = false → (fchk (toFr x.1.1) = (0 : Int) ∧ toN (toFr x.1.1).num < (100 : Nat) ∧ toN (toFr x.1.1).den < (100 : Nat)) ∧ ∀ (r : Ro [Ty.st, Ty.it IntKind.i64]), r = ((), txR (toFr x.1.1), (0 : El (Ty.it IntKind.i64)), ()) → (fchk (toFr x.1.2.1) = (0 : Int) ∧ toN (toFr x.1.2.1).num < (100 : Nat) ∧ toN (toFr x.1.2.1).den < (100 : Nat)) ∧ ∀ (r_1 : Ro [Ty.st, Ty.it IntKind.i64]), r_1 = ((), txR (toFr x.1.2.1), (0 : El (Ty.it IntKind.i64)), ()) → ByteArray.size r.2.1 + (⟨#[(32 : UInt8)]⟩ : ByteArray).size ≤ (9223372036854775807 : Nat) ∧ (r.2.1 ++ (⟨#[(32 : UInt8)]⟩ : ByteArray)).size + ByteArray.size r_1.2.1 ≤ (9223372036854775807 : Nat) ∧ (decide ((↑(r.2.1 ++ (⟨#[(32 : UInt8)]⟩ : ByteArray) ++ r_1.2.1).size : Int) > (65536 : Int)) = true → ((⟨#[]⟩ : ByteArray), (3 : Int), ()) = (txR (toFr x.1.1) ++ (⟨#[(32 : UInt8)]⟩ : ByteArray) ++ txR (toFr x.1.2.1), (0 : El (Ty.it IntKind.i64)), ())) ∧ (decide ((↑(r.2.1 ++ (⟨#[(32 : UInt8)]⟩ : ByteArray) ++ r_1.2.1).size : Int) > (65536 : Int)) = false → (r.2.1 ++ (⟨#[(32 : UInt8)]⟩ : ByteArray) ++ r_1.2.1, (0 : Int), ()) = (txR (toFr x.1.1) ++ (⟨#[(32 : UInt8)]⟩ : ByteArray) ++ txR (toFr x.1.2.1), (0 : El (Ty.it IntKind.i64)), ())))
theorem w_gPrint (y : El sp_gPrint.q) (x : Els sp_gPrint.ps) : aW c_gPrint (iv_gPrint y x) Tryz.f50 sp_gPrint y x = F_gPrint y x := by kernel_rfl
theorem m_gPrint (y : El (.un)) (x : Els [tG]) (h2 : wfE (.un) y) (h3 : wfEs [tG] x) (h4 : sP (toFr x.1.1) ∧ sP (toFr x.1.2.1)) : F_gPrint y x := by
  unfold F_gPrint
  have q : sP (toFr x.1.1) ∧ sP (toFr x.1.2.1) := h4
  obtain ⟨q1, q2⟩ := q
  have s1 := txR_size q1
  have s2 := txR_size q2
  have z3 : (⟨#[32]⟩ : ByteArray).size = 1 := rfl
  have s3 : (txR (toFr x.1.1) ++ ⟨#[32]⟩).size ≤ 7 := by rw [ByteArray.size_append]; omega
  have s4 : (txR (toFr x.1.1) ++ ⟨#[32]⟩ ++ txR (toFr x.1.2.1)).size ≤ 13 := by rw [ByteArray.size_append]; omega
  rintro _ rfl
  refine ⟨fun h => absurd (gchk_mk (a := toGa x.1) q1.1 q2.1) (neT h), fun _ => ⟨q1, ?_⟩⟩
  rintro _ rfl
  refine ⟨q2, ?_⟩
  rintro _ rfl
  refine ⟨?_, ?_, fun h => ?_, fun _ => rfl⟩
  · show (txR (toFr x.1.1)).size + (⟨#[32]⟩ : ByteArray).size ≤ _
    omega
  · show (txR (toFr x.1.1) ++ ⟨#[32]⟩).size + (txR (toFr x.1.2.1)).size ≤ _
    omega
  · have h := gtT h
    exact absurd (Int.ofNat_lt.1 h) (by show ¬ 65536 < (txR (toFr x.1.1) ++ ⟨#[32]⟩ ++ txR (toFr x.1.2.1)).size; omega)
theorem fo_gPrint : FnOk Tryz.prog 50 sp_gPrint := fnOk_of (C := c_gPrint) iv_gPrint Tryz.func50 rfl (by kernel_rfl) tys_ok (prims_cons (spec_prim fo_gCheck) (prims_cons (spec_prim fo_rPrint) prims_nil)) mixed_ (Nat.le_refl _) rfl fun y x h1 h2 h3 h4 =>
  Eq.mpr (w_gPrint y x) (m_gPrint y x h2 h3 h4)
noncomputable def sp_ffrac : Spec := { q := .un, ps := [.it .i64, .it .i64], rs := [tR], fresh := true, pre := fun _ _ => none, post := fun _ x => ((), (ofFr (fsmall x.1 x.2.1).1, ())) }
noncomputable def iv_ffrac (y : El sp_ffrac.q) (x : Els sp_ffrac.ps) : Nat → Option Inv := fun _ => none
noncomputable abbrev c_ffrac : Cfg := cfgS (Tryz.f49).ntmps false [(40, sp_rSmall.prim)]
def F_ffrac (y : El sp_ffrac.q) (x : Els sp_ffrac.ps) : Prop :=
  ∀ (r : Ro [tR, Ty.it IntKind.i64]), r = pR (fsmall x.1 x.2.1) → (r.2.1, ()) = (ofFr (fsmall x.1 x.2.1).1, ())
theorem w_ffrac (y : El sp_ffrac.q) (x : Els sp_ffrac.ps) : aW c_ffrac (iv_ffrac y x) Tryz.f49 sp_ffrac y x = F_ffrac y x := by kernel_rfl
theorem m_ffrac (y : El (.un)) (x : Els [.it .i64, .it .i64]) (h2 : wfE (.un) y) (h3 : wfEs [.it .i64, .it .i64] x) : F_ffrac y x := by
  unfold F_ffrac
  rintro _ rfl
  rfl
theorem fo_ffrac : FnOk Tryz.prog 49 sp_ffrac := fnOk_of (C := c_ffrac) iv_ffrac Tryz.func49 rfl (by kernel_rfl) tys_ok (prims_cons (spec_prim fo_rSmall) prims_nil) mixed_ (Nat.le_refl _) rfl fun y x h1 h2 h3 h4 =>
  Eq.mpr (w_ffrac y x) (m_ffrac y x h2 h3)
def fitG (a : Ga) : Bool := decide (gchk a = 0 ∧ a.re.num.length ≤ 20 ∧ a.re.den.length ≤ 20 ∧ a.im.num.length ≤ 20 ∧ a.im.den.length ≤ 20)
noncomputable def sp_gfit : Spec := { q := .un, ps := [tG], rs := [.bo], fresh := true, pre := fun _ _ => none, post := fun _ x => ((), (fitG (toGa x.1), ())) }
noncomputable def iv_gfit (y : El sp_gfit.q) (x : Els sp_gfit.ps) : Nat → Option Inv := fun _ => none
noncomputable abbrev c_gfit : Cfg := cfgS (Tryz.f11).ntmps false [(52, sp_gCheck.prim)]
def F_gfit (y : El sp_gfit.q) (x : Els sp_gfit.ps) : Prop :=
  ∀ (r : Ro [Ty.it IntKind.i64]), r = ((), gchk (toGa x.1), ()) → ((r.2.1 == (0 : Int)) = true → (decide ((x.1.1.2.1.length : Int) ≤ (20 : Int)) = true → (decide ((x.1.1.2.2.1.length : Int) ≤ (20 : Int)) = true → (decide ((x.1.2.1.2.1.length : Int) ≤ (20 : Int)) = true → (decide ((x.1.2.1.2.2.1.length : Int) ≤ (20 : Int)), ()) = (fitG (toGa x.1), ())) ∧ (decide ((x.1.2.1.2.1.length : Int) ≤ (20 : Int)) = false → (false, ()) = (fitG (toGa x.1), ()))) ∧ (decide ((x.1.1.2.2.1.length : Int) ≤ (20 : Int)) = false → (false, ()) = (fitG (toGa x.1), ()))) ∧ (decide ((x.1.1.2.1.length : Int) ≤ (20 : Int)) = false → (false, ()) = (fitG (toGa x.1), ()))) ∧ ((r.2.1 == (0 : Int)) = false → (false, ()) = (fitG (toGa x.1), ()))
theorem w_gfit (y : El sp_gfit.q) (x : Els sp_gfit.ps) : aW c_gfit (iv_gfit y x) Tryz.f11 sp_gfit y x = F_gfit y x := by kernel_rfl
theorem m_gfit (y : El (.un)) (x : Els [tG]) (h2 : wfE (.un) y) (h3 : wfEs [tG] x) : F_gfit y x := by
  unfold F_gfit
  rintro _ rfl
  unfold fitG
  refine ⟨fun h => ?_, fun h => ?_⟩
  · have h := eqT h
    refine ⟨fun h1 => ⟨fun h2 => ⟨fun h5 => ?_, fun h5 => ?_⟩, fun h2 => ?_⟩, fun h1 => ?_⟩
    · have h1 := leT h1
      have h2 := leT h2
      have h5 := leT h5
      refine congrArg (fun b => (b, ())) (decide_eq_decide.2 ⟨fun h6 => ⟨h, ?_, ?_, ?_, ?_⟩, fun h6 => ?_⟩)
      · exact Int.ofNat_le.1 h1
      · exact Int.ofNat_le.1 h2
      · exact Int.ofNat_le.1 h5
      · exact Int.ofNat_le.1 h6
      · exact Int.ofNat_le.2 h6.2.2.2.2
    · have h5 := leF h5
      rw [decide_eq_false (fun c => absurd (Int.ofNat_le.2 c.2.2.2.1) (Int.not_le.2 h5))]
    · have h2 := leF h2
      rw [decide_eq_false (fun c => absurd (Int.ofNat_le.2 c.2.2.1) (Int.not_le.2 h2))]
    · have h1 := leF h1
      rw [decide_eq_false (fun c => absurd (Int.ofNat_le.2 c.2.1) (Int.not_le.2 h1))]
  · have h := eqF h
    rw [decide_eq_false (fun c => h c.1)]
theorem fo_gfit : FnOk Tryz.prog 11 sp_gfit := fnOk_of (C := c_gfit) iv_gfit Tryz.func11 rfl (by kernel_rfl) tys_ok (prims_cons (spec_prim fo_gCheck) prims_nil) mixed_ (Nat.le_refl _) rfl fun y x h1 h2 h3 h4 =>
  Eq.mpr (w_gfit y x) (m_gfit y x h2 h3)
abbrev tCalc : Ty := .pr .bo .un
noncomputable def sp_cadd : Spec := { q := tCalc, ps := [tG, tG], rs := [tG], fresh := true, pre := fun _ _ => none, post := fun y x => ((y.1 || decide ((gadd (toGa x.1) (toGa x.2.1)).2 ≠ 0), ()), (ofGa (gadd (toGa x.1) (toGa x.2.1)).1, ())) }
noncomputable def iv_cadd (y : El sp_cadd.q) (x : Els sp_cadd.ps) : Nat → Option Inv := fun _ => none
noncomputable abbrev c_cadd : Cfg := cfgS (Tryz.f13).ntmps true [(54, sp_gAdd.prim)]
def F_cadd (y : El sp_cadd.q) (x : Els sp_cadd.ps) : Prop :=
  ∀ (r : Ro [tG, Ty.it IntKind.i64]), r = pG (gadd (toGa x.1) (toGa x.2.1)) → (y.1 = true → ((true, ()), r.2.1, ()) = ((y.1 || decide ((gadd (toGa x.1) (toGa x.2.1)).2 ≠ (0 : Int)), ()), ofGa (gadd (toGa x.1) (toGa x.2.1)).1, ())) ∧ (y.1 = false → ((r.2.2.1 != (0 : Int), ()), r.2.1, ()) = ((y.1 || decide ((gadd (toGa x.1) (toGa x.2.1)).2 ≠ (0 : Int)), ()), ofGa (gadd (toGa x.1) (toGa x.2.1)).1, ()))
theorem w_cadd (y : El sp_cadd.q) (x : Els sp_cadd.ps) : aW c_cadd (iv_cadd y x) Tryz.f13 sp_cadd y x = F_cadd y x := by kernel_rfl
theorem m_cadd (y : El (tCalc)) (x : Els [tG, tG]) (h2 : wfE (tCalc) y) (h3 : wfEs [tG, tG] x) : F_cadd y x := by
  unfold F_cadd
  rintro _ rfl
  refine ⟨fun h => ?_, fun h => ?_⟩
  · rw [h]
    rfl
  · rw [h]
    refine congrArg (fun b => ((b, ()), (ofGa (gadd (toGa x.1) (toGa x.2.1)).1, ()))) ?_
    show ((gadd (toGa x.1) (toGa x.2.1)).2 != 0) = (false || decide ((gadd (toGa x.1) (toGa x.2.1)).2 ≠ 0))
    rw [Bool.false_or]
    by_cases c : (gadd (toGa x.1) (toGa x.2.1)).2 = 0
    · rw [c]
      rfl
    · rw [decide_eq_true c]
      exact bne_iff_ne.2 c
theorem fo_cadd : FnOk Tryz.prog 13 sp_cadd := fnOk_of (C := c_cadd) iv_cadd Tryz.func13 rfl (by kernel_rfl) tys_ok (prims_cons (spec_prim fo_gAdd) prims_nil) mixed_ (Nat.le_refl _) rfl fun y x h1 h2 h3 h4 =>
  Eq.mpr (w_cadd y x) (m_cadd y x h2 h3)
noncomputable def sp_cmul : Spec := { q := tCalc, ps := [tG, tG], rs := [tG], fresh := true, pre := fun _ _ => none, post := fun y x => ((y.1 || decide ((gmul (toGa x.1) (toGa x.2.1)).2 ≠ 0), ()), (ofGa (gmul (toGa x.1) (toGa x.2.1)).1, ())) }
noncomputable def iv_cmul (y : El sp_cmul.q) (x : Els sp_cmul.ps) : Nat → Option Inv := fun _ => none
noncomputable abbrev c_cmul : Cfg := cfgS (Tryz.f14).ntmps true [(47, sp_gMul.prim)]
def F_cmul (y : El sp_cmul.q) (x : Els sp_cmul.ps) : Prop :=
  ∀ (r : Ro [tG, Ty.it IntKind.i64]), r = pG (gmul (toGa x.1) (toGa x.2.1)) → (y.1 = true → ((true, ()), r.2.1, ()) = ((y.1 || decide ((gmul (toGa x.1) (toGa x.2.1)).2 ≠ (0 : Int)), ()), ofGa (gmul (toGa x.1) (toGa x.2.1)).1, ())) ∧ (y.1 = false → ((r.2.2.1 != (0 : Int), ()), r.2.1, ()) = ((y.1 || decide ((gmul (toGa x.1) (toGa x.2.1)).2 ≠ (0 : Int)), ()), ofGa (gmul (toGa x.1) (toGa x.2.1)).1, ()))
theorem w_cmul (y : El sp_cmul.q) (x : Els sp_cmul.ps) : aW c_cmul (iv_cmul y x) Tryz.f14 sp_cmul y x = F_cmul y x := by kernel_rfl
theorem m_cmul (y : El (tCalc)) (x : Els [tG, tG]) (h2 : wfE (tCalc) y) (h3 : wfEs [tG, tG] x) : F_cmul y x := by
  unfold F_cmul
  rintro _ rfl
  refine ⟨fun h => ?_, fun h => ?_⟩
  · rw [h]
    rfl
  · rw [h]
    refine congrArg (fun b => ((b, ()), (ofGa (gmul (toGa x.1) (toGa x.2.1)).1, ()))) ?_
    show ((gmul (toGa x.1) (toGa x.2.1)).2 != 0) = (false || decide ((gmul (toGa x.1) (toGa x.2.1)).2 ≠ 0))
    rw [Bool.false_or]
    by_cases c : (gmul (toGa x.1) (toGa x.2.1)).2 = 0
    · rw [c]
      rfl
    · rw [decide_eq_true c]
      exact bne_iff_ne.2 c
theorem fo_cmul : FnOk Tryz.prog 14 sp_cmul := fnOk_of (C := c_cmul) iv_cmul Tryz.func14 rfl (by kernel_rfl) tys_ok (prims_cons (spec_prim fo_gMul) prims_nil) mixed_ (Nat.le_refl _) rfl fun y x h1 h2 h3 h4 =>
  Eq.mpr (w_cmul y x) (m_cmul y x h2 h3)
theorem fs_1 : fsmall 1 1 = (enc 1, 0) := fsmall_s (by decide) (by decide +kernel) (by decide +kernel)
theorem fs_2 : fsmall 2 1 = (enc 2, 0) := fsmall_s (by decide) (by decide +kernel) (by decide +kernel)
theorem fs_3 : fsmall 3 1 = (enc 3, 0) := fsmall_s (by decide) (by decide +kernel) (by decide +kernel)
theorem fs_m1 : fsmall (-1) 1 = (enc (-1), 0) := fsmall_s (by decide) (by decide +kernel) (by decide +kernel)
theorem fs_5 : fsmall 5 1 = (enc 5, 0) := fsmall_s (by decide) (by decide +kernel) (by decide +kernel)
theorem fs_35 : fsmall 3 5 = (enc (3/5), 0) := fsmall_s (by decide) (by decide +kernel) (by decide +kernel)
theorem fs_45 : fsmall 4 5 = (enc (4/5), 0) := fsmall_s (by decide) (by decide +kernel) (by decide +kernel)
theorem fs_m45 : fsmall (-4) 5 = (enc (-4/5), 0) := fsmall_s (by decide) (by decide +kernel) (by decide +kernel)
theorem gm_1 : gmul (ge 1 2) (ge 3 (-1)) = (ge 5 5, 0) := gmul_s (u := 3) (v := -2) (x := -1) (y := 6) (by decide +kernel) (by decide +kernel) (by decide +kernel) (by decide +kernel) (by decide +kernel) (by decide +kernel) (by decide +kernel)
theorem szw_1 {q : Rat} (h : sm q = true) : szw 1 q := by
  unfold sm at h
  simp only [Bool.and_eq_true, decide_eq_true_eq] at h
  exact ⟨wd_one_len h.1, wd_one_len h.2⟩
theorem gq_1 : gquo (ge 5 5) (ge 3 (-1)) = (ge 1 2, 0) := by
  rw [gquo_w (m := 1) (n := 1) (szw_1 (by decide +kernel)) (szw_1 (by decide +kernel)) (szw_1 (by decide +kernel)) (szw_1 (by decide +kernel)) (by decide) (by decide +kernel), show ((5 : Rat) * 3 + 5 * -1) / (3 * 3 + -1 * -1) = 1 by decide +kernel, show ((5 : Rat) * 3 - 5 * -1) / (3 * 3 + -1 * -1) = 2 by decide +kernel]
theorem gn_1 : gnorm (ge (3/5) (4/5)) = (enc 1, 0) := by
  rw [gnorm_w (m := 1) (szw_1 (by decide +kernel)) (szw_1 (by decide +kernel)) (by decide), show ((3/5 : Rat) * (3/5) + 4/5 * (4/5)) = 1 by decide +kernel]
theorem sP_s {q : Rat} (h : sm q = true) (h1 : q.num.natAbs < 100) (h2 : q.den < 100) : sP (enc q) := ⟨fchk_s h, by show toN (wd _) < _; rw [toN_wd]; exact h1, by show toN (wd _) < _; rw [toN_wd]; exact h2⟩
theorem tx_1 : txR (enc (3/5)) ++ ⟨#[32]⟩ ++ txR (enc (-4/5)) = ⟨#[51, 47, 53, 32, 45, 52, 47, 53]⟩ := by decide +kernel
theorem gi_12 : (⟨(fsmall 1 1).1, (fsmall 2 1).1⟩ : Ga) = ge 1 2 := by rw [fs_1, fs_2]; rfl
theorem gi_31 : (⟨(fsmall 3 1).1, (fsmall (-1) 1).1⟩ : Ga) = ge 3 (-1) := by rw [fs_3, fs_m1]; rfl
theorem gi_55 : (⟨(fsmall 5 1).1, (fsmall 5 1).1⟩ : Ga) = ge 5 5 := by rw [fs_5]; rfl
noncomputable def sp_gawake : Spec := { q := .un, ps := [], rs := [.bo], fresh := true, pre := fun _ _ => none, post := fun _ x => ((), (true, ())) }
noncomputable def iv_gawake (y : El sp_gawake.q) (x : Els sp_gawake.ps) : Nat → Option Inv := fun _ => none
noncomputable abbrev c_gawake : Cfg := cfgS (Tryz.f10).ntmps false [(48, sp_gInt.prim), (47, sp_gMul.prim), (16, sp_gQuo.prim), (49, sp_ffrac.prim), (20, sp_gNorm.prim), (50, sp_gPrint.prim), (51, p_sure (sp_kSameGauss.prim)), (22, p_sure (sp_kSameRatio.prim))]
def F_gawake (y : El sp_gawake.q) (x : Els sp_gawake.ps) : Prop :=
  ∀ (r : Ro [tG]), r = ((), ofGa { re := (fsmall (1 : Int) (1 : Int)).1, im := (fsmall (2 : Int) (1 : Int)).1 }, ()) → ∀ (r_1 : Ro [tG]), r_1 = ((), ofGa { re := (fsmall (3 : Int) (1 : Int)).1, im := (fsmall (-1 : Int) (1 : Int)).1 }, ()) → ∀ (r_2 : Ro [tG, Ty.it IntKind.i64]), r_2 = pG (gmul (toGa r.2.1) (toGa r_1.2.1)) → ∀ (r : Ro [tG]), r = ((), ofGa { re := (fsmall (5 : Int) (1 : Int)).1, im := (fsmall (5 : Int) (1 : Int)).1 }, ()) → ∀ (r_3 : Ro [tG]), r_3 = ((), ofGa { re := (fsmall (3 : Int) (1 : Int)).1, im := (fsmall (-1 : Int) (1 : Int)).1 }, ()) → ∀ (r_4 : Ro [tG, Ty.it IntKind.i64]), r_4 = pG (gquo (toGa r.2.1) (toGa r_3.2.1)) → ∀ (r : Ro [tR]), r = ((), ofFr (fsmall (3 : Int) (5 : Int)).1, ()) → ∀ (r_5 : Ro [tR]), r_5 = ((), ofFr (fsmall (4 : Int) (5 : Int)).1, ()) → ∀ (r_6 : Ro [tR, Ty.it IntKind.i64]), r_6 = pR (gnorm (toGa (r.2.1, r_5.2))) → ∀ (r : Ro [tR]), r = ((), ofFr (fsmall (3 : Int) (5 : Int)).1, ()) → ∀ (r_7 : Ro [tR]), r_7 = ((), ofFr (fsmall (-4 : Int) (5 : Int)).1, ()) → ((fchk (toFr r.2.1) = (0 : Int) ∧ toN (toFr r.2.1).num < (100 : Nat) ∧ toN (toFr r.2.1).den < (100 : Nat)) ∧ fchk (toFr r_7.2.1) = (0 : Int) ∧ toN (toFr r_7.2.1).num < (100 : Nat) ∧ toN (toFr r_7.2.1).den < (100 : Nat)) ∧ ∀ (r_8 : Ro [Ty.st, Ty.it IntKind.i64]), r_8 = ((), txR (toFr r.2.1) ++ (⟨#[(32 : UInt8)]⟩ : ByteArray) ++ txR (toFr r_7.2.1), (0 : El (Ty.it IntKind.i64)), ()) → ((r_2.2.2.1 == (0 : Int)) = true → ((r_4.2.2.1 == (0 : Int)) = true → ((r_6.2.2.1 == (0 : Int)) = true → ((r_8.2.2.1 == (0 : Int)) = true → ∀ (r : Ro [tG]), r = ((), ofGa { re := (fsmall (5 : Int) (1 : Int)).1, im := (fsmall (5 : Int) (1 : Int)).1 }, ()) → decide (toGa r_2.2.1 = toGa r.2.1) = true ∧ ∀ (r : Ro [tG]), r = ((), ofGa { re := (fsmall (1 : Int) (1 : Int)).1, im := (fsmall (2 : Int) (1 : Int)).1 }, ()) → decide (toGa r_4.2.1 = toGa r.2.1) = true ∧ ∀ (r : Ro [tR]), r = ((), ofFr (fsmall (1 : Int) (1 : Int)).1, ()) → decide (toFr r_6.2.1 = toFr r.2.1) = true ∧ (ByteArray.toList r_8.2.1 == (⟨#[(51 : UInt8), (47 : UInt8), (53 : UInt8), (32 : UInt8), (45 : UInt8), (52 : UInt8), (47 : UInt8), (53 : UInt8)]⟩ : ByteArray).toList, ()) = (true, ())) ∧ ((r_8.2.2.1 == (0 : Int)) = false → (false, ()) = (true, ()))) ∧ ((r_6.2.2.1 == (0 : Int)) = false → (false, ()) = (true, ()))) ∧ ((r_4.2.2.1 == (0 : Int)) = false → (false, ()) = (true, ()))) ∧ ((r_2.2.2.1 == (0 : Int)) = false → (false, ()) = (true, ()))
theorem w_gawake (y : El sp_gawake.q) (x : Els sp_gawake.ps) : aW c_gawake (iv_gawake y x) Tryz.f10 sp_gawake y x = F_gawake y x := by kernel_rfl
theorem m_gawake (y : El (.un)) (x : Els []) (h2 : wfE (.un) y) (h3 : wfEs [] x) : F_gawake y x := by
  unfold F_gawake
  rw [gi_12, gi_31, gi_55, fs_35, fs_45, fs_m45, fs_1]
  rintro _ rfl _ rfl _ hr
  obtain rfl := hr.trans (congrArg pG gm_1)
  rintro _ rfl _ rfl _ hr
  obtain rfl := hr.trans (congrArg pG gq_1)
  rintro _ rfl _ rfl _ hr
  obtain rfl := hr.trans (congrArg pR gn_1)
  rintro _ rfl _ rfl
  refine ⟨⟨sP_s (q := 3/5) (by decide +kernel) (by decide +kernel) (by decide +kernel), sP_s (q := -4/5) (by decide +kernel) (by decide +kernel) (by decide +kernel)⟩, ?_⟩
  intro r hr
  obtain rfl := hr.trans (congrArg (fun s => (((), s, (0 : Int), ()) : El .un × Els [.st, .it .i64])) tx_1)
  refine ⟨fun _ => ⟨fun _ => ⟨fun _ => ⟨fun _ => ?_, fun h => Bool.noConfusion (show true = false from h)⟩, fun h => Bool.noConfusion (show true = false from h)⟩, fun h => Bool.noConfusion (show true = false from h)⟩, fun h => Bool.noConfusion (show true = false from h)⟩
  rintro _ rfl
  refine ⟨decide_eq_true rfl, ?_⟩
  rintro _ rfl
  refine ⟨decide_eq_true rfl, ?_⟩
  rintro _ rfl
  exact ⟨decide_eq_true rfl, congrArg (fun b => (b, ())) (beq_self_eq_true _)⟩
theorem fo_gawake : FnOk Tryz.prog 10 sp_gawake := fnOk_of (C := c_gawake) iv_gawake Tryz.func10 rfl (by kernel_rfl) tys_ok (prims_cons (spec_prim fo_gInt) (prims_cons (spec_prim fo_gMul) (prims_cons (spec_prim fo_gQuo) (prims_cons (spec_prim fo_ffrac) (prims_cons (spec_prim fo_gNorm) (prims_cons (spec_prim fo_gPrint) (prims_cons (pr_sure (spec_prim fo_kSameGauss)) (prims_cons (pr_sure (spec_prim fo_kSameRatio)) prims_nil)))))))) mixed_ (Nat.le_refl _) rfl fun y x h1 h2 h3 h4 =>
  Eq.mpr (w_gawake y x) (m_gawake y x h2 h3)
theorem cadd_ok {y : Bool} {G H K : Ga} (e : gadd G H = (K, 0)) : (((y || decide ((gadd G H).2 ≠ 0), ()), ofGa (gadd G H).1, ()) : El tCalc × Els [tG]) = ((y, ()), ofGa K, ()) := by
  rw [e]
  simp
theorem cmul_ok {y : Bool} {G H K : Ga} (e : gmul G H = (K, 0)) : (((y || decide ((gmul G H).2 ≠ 0), ()), ofGa (gmul G H).1, ()) : El tCalc × Els [tG]) = ((y, ()), ofGa K, ()) := by
  rw [e]
  simp
theorem fit_of {g : El tG} (h3 : wfE tG g) (h : fitG (toGa g) = true) : ∃ a b, toGa g = ge a b ∧ szw 20 a ∧ szw 20 b := by
  obtain ⟨c, l1, l2, l3, l4⟩ := of_decide_eq_true h
  exact ge_of (wf_ga h3) c l1 l2 l3 l4
theorem lenM_0 : (lenM 0 (Ty.it IntKind.u32) (enc 0).num == (0 : Int)) = true := by decide +kernel
theorem gz_0 : gzero (ge 0 0) = true := by decide +kernel
noncomputable def sp_lawGaussConj : Spec := { q := .un, ps := [tG, tG], rs := [.bo], fresh := true, pre := fun _ _ => none, post := fun _ _ => ((), (true, ())) }
noncomputable def iv_lawGaussConj (y : El sp_lawGaussConj.q) (x : Els sp_lawGaussConj.ps) : Nat → Option Inv := fun _ => none
noncomputable abbrev c_lawGaussConj : Cfg := cfgS (Tryz.f4).ntmps false [(10, p_sure (sp_gawake.prim)), (11, sp_gfit.prim), (13, sp_cadd.prim), (14, sp_cmul.prim), (18, sp_gConj.prim), (19, sp_gNeg.prim), (20, sp_gNorm.prim), (21, sp_rMul.prim), (22, p_sure (sp_kSameRatio.prim)), (12, p_sure (sp_gSame.prim)), (17, sp_gZero.prim), (23, sp_rSgn.prim)]
def F_lawGaussConj (y : El sp_lawGaussConj.q) (x : Els sp_lawGaussConj.ps) : Prop :=
  true = true ∧ ∀ (r : Ro [Ty.bo]), r = ((), fitG (toGa x.1), ()) → ((!r.2.1) = true → (true, ()) = (true, ())) ∧ ((!r.2.1) = false → ∀ (r : Ro [Ty.bo]), r = ((), fitG (toGa x.2.1), ()) → ((!r.2.1) = true → (true, ()) = (true, ())) ∧ ((!r.2.1) = false → ∀ (r : Ro [tG, Ty.it IntKind.i64]), r = pG (gconj (toGa x.1)) → ∀ (r_1 : Ro [tG, Ty.it IntKind.i64]), r_1 = pG (gconj (toGa x.2.1)) → ∀ (r_2 : Ro [tG, Ty.it IntKind.i64]), r_2 = pG (gconj (toGa r.2.1)) → ∀ (r_3 : Ro [tG, Ty.it IntKind.i64]), r_3 = pG (gneg (toGa x.1)) → ∀ (r_4 : Ro [tR, Ty.it IntKind.i64]), r_4 = pR (gnorm (toGa x.1)) → ∀ (r_5 : Ro [tR, Ty.it IntKind.i64]), r_5 = pR (gnorm (toGa x.2.1)) → ∀ (r_6 : El tCalc × Els [tG]), r_6 = ((false || decide ((gmul (toGa x.1) (toGa x.2.1)).2 ≠ (0 : Int)), ()), ofGa (gmul (toGa x.1) (toGa x.2.1)).1, ()) → ∀ (r_7 : Ro [tR, Ty.it IntKind.i64]), r_7 = pR (gnorm (toGa r_6.2.1)) → ∀ (r_8 : El tCalc × Els [tG]), r_8 = ((r_6.1.1 || decide ((gmul (toGa x.1) (toGa x.2.1)).2 ≠ (0 : Int)), ()), ofGa (gmul (toGa x.1) (toGa x.2.1)).1, ()) → ∀ (r_9 : Ro [tG, Ty.it IntKind.i64]), r_9 = pG (gconj (toGa r_8.2.1)) → ∀ (r_10 : Ro [tR, Ty.it IntKind.i64]), r_10 = pR (fmul (toFr r_4.2.1) (toFr r_5.2.1)) → ((r.2.2.1 != (0 : Int)) = true → (false, ()) = (true, ())) ∧ ((r.2.2.1 != (0 : Int)) = false → ((r_1.2.2.1 != (0 : Int)) = true → (false, ()) = (true, ())) ∧ ((r_1.2.2.1 != (0 : Int)) = false → ((r_2.2.2.1 != (0 : Int)) = true → (false, ()) = (true, ())) ∧ ((r_2.2.2.1 != (0 : Int)) = false → ((r_3.2.2.1 != (0 : Int)) = true → (false, ()) = (true, ())) ∧ ((r_3.2.2.1 != (0 : Int)) = false → ((r_4.2.2.1 != (0 : Int)) = true → (false, ()) = (true, ())) ∧ ((r_4.2.2.1 != (0 : Int)) = false → ((r_5.2.2.1 != (0 : Int)) = true → (false, ()) = (true, ())) ∧ ((r_5.2.2.1 != (0 : Int)) = false → ((r_7.2.2.1 != (0 : Int)) = true → (false, ()) = (true, ())) ∧ ((r_7.2.2.1 != (0 : Int)) = false → ((r_9.2.2.1 != (0 : Int)) = true → (false, ()) = (true, ())) ∧ ((r_9.2.2.1 != (0 : Int)) = false → ((r_10.2.2.1 != (0 : Int)) = true → (false, ()) = (true, ())) ∧ ((r_10.2.2.1 != (0 : Int)) = false → ∀ (r_11 : El tCalc × Els [tG]), r_11 = ((r_8.1.1 || decide ((gmul (toGa x.1) (toGa r.2.1)).2 ≠ (0 : Int)), ()), ofGa (gmul (toGa x.1) (toGa r.2.1)).1, ()) → decide (toFr r_11.2.1.1 = toFr r_4.2.1) = true ∧ ((!r_11.1.1) = true → ((lenM (0 : Nat) (Ty.it IntKind.u32) r_11.2.1.2.1.2.1 == (0 : Int)) = true → decide (toFr r_7.2.1 = toFr r_10.2.1) = true ∧ ∀ (r_12 : El tCalc × Els [tG]), r_12 = ((r_11.1.1 || decide ((gmul (toGa r.2.1) (toGa r_1.2.1)).2 ≠ (0 : Int)), ()), ofGa (gmul (toGa r.2.1) (toGa r_1.2.1)).1, ()) → gsame (toGa r_9.2.1) (toGa r_12.2.1) = true ∧ gsame (toGa r_2.2.1) (toGa x.1) = true ∧ ∀ (r : El tCalc × Els [tG]), r = ((r_12.1.1 || decide ((gadd (toGa x.1) (toGa r_3.2.1)).2 ≠ (0 : Int)), ()), ofGa (gadd (toGa x.1) (toGa r_3.2.1)).1, ()) → ∀ (r_13 : Ro [Ty.bo]), r_13 = ((), gzero (toGa r.2.1), ()) → (r_13.2.1 = true → ∀ (r : Ro [Ty.bo]), r = ((), gzero (toGa x.1), ()) → ∀ (r_14 : Ro [Ty.it IntKind.i64]), r_14 = ((), fsign (toFr r_4.2.1), ()) → (r.2.1 == (r_14.2.1 == (0 : Int)), ()) = (true, ())) ∧ (r_13.2.1 = false → (false, ()) = (true, ()))) ∧ ((lenM (0 : Nat) (Ty.it IntKind.u32) r_11.2.1.2.1.2.1 == (0 : Int)) = false → (false, ()) = (true, ()))) ∧ ((!r_11.1.1) = false → (false, ()) = (true, ())))))))))))))
theorem w_lawGaussConj (y : El sp_lawGaussConj.q) (x : Els sp_lawGaussConj.ps) : aW c_lawGaussConj (iv_lawGaussConj y x) Tryz.f4 sp_lawGaussConj y x = F_lawGaussConj y x := by kernel_rfl
theorem m_lawGaussConj (y : El (.un)) (x : Els [tG, tG]) (h2 : wfE (.un) y) (h3 : wfEs [tG, tG] x) : F_lawGaussConj y x := by
  unfold F_lawGaussConj
  refine ⟨rfl, ?_⟩
  rintro _ rfl
  refine ⟨fun _ => rfl, fun f1 => ?_⟩
  rintro _ rfl
  refine ⟨fun _ => rfl, fun f2 => ?_⟩
  obtain ⟨a, b, ea, sa, sb⟩ := fit_of h3.1 (nff f1)
  obtain ⟨c, d, eb, sc, sd⟩ := fit_of h3.2.1 (nff f2)
  rw [ea, eb]
  clear f1 f2
  have j1 := gconj_w sa sb (by decide)
  have j2 := gconj_w sc sd (by decide)
  have j3 := gconj_w sa sb.neg (by decide)
  have n1 := gneg_w sa sb (by decide)
  have no1 := gnorm_w sa sb (by decide)
  have no2 := gnorm_w sc sd (by decide)
  have m1 := gmul_w sa sb sc sd (by decide)
  have t1 : szw 81 (a * c - b * d) := (sa.mul sc).sub (sb.mul sd)
  have t2 : szw 81 (a * d + b * c) := (sa.mul sd).add (sb.mul sc)
  have no3 := gnorm_w t1 t2 (by decide)
  have j4 := gconj_w t1 t2 (by decide)
  have t3 : szw 81 (a * a + b * b) := (sa.mul sa).add (sb.mul sb)
  have t4 : szw 81 (c * c + d * d) := (sc.mul sc).add (sd.mul sd)
  have f1 : fmul (enc (a * a + b * b)) (enc (c * c + d * d)) = (enc ((a * a + b * b) * (c * c + d * d)), 0) := (fmul_enc (t3.lng (by decide)) (t4.lng (by decide))).trans (tell_ok ((t3.mul t4).lng (by decide)))
  have m2 : gmul (ge a b) (ge a (-b)) = (ge (a * a + b * b) 0, 0) := by rw [gmul_w sa sb sa sb.neg (by decide), show a * a - b * -b = a * a + b * b by grind, show a * -b + b * a = 0 by grind]
  have m3 : gmul (ge a (-b)) (ge c (-d)) = (ge (a * c - b * d) (-(a * d + b * c)), 0) := by rw [gmul_w sa sb.neg sc sd.neg (by decide), show a * c - -b * -d = a * c - b * d by grind, show a * -d + -b * c = -(a * d + b * c) by grind]
  have e1 : gadd (ge a b) (ge (-a) (-b)) = (ge 0 0, 0) := by rw [gadd_w sa sb sa.neg sb.neg (by decide), show a + -a = 0 by grind, show b + -b = 0 by grind]
  intro r hr
  obtain rfl := hr.trans (congrArg pG j1)
  intro r hr
  obtain rfl := hr.trans (congrArg pG j2)
  intro r hr
  obtain rfl := hr.trans (congrArg pG j3)
  intro r hr
  obtain rfl := hr.trans (congrArg pG n1)
  intro r hr
  obtain rfl := hr.trans (congrArg pR no1)
  intro r hr
  obtain rfl := hr.trans (congrArg pR no2)
  intro r hr
  obtain rfl := hr.trans (cmul_ok (y := false) m1)
  intro r hr
  obtain rfl := hr.trans (congrArg pR no3)
  intro r hr
  obtain rfl := hr.trans (cmul_ok (y := false) m1)
  intro r hr
  obtain rfl := hr.trans (congrArg pG j4)
  intro r hr
  obtain rfl := hr.trans (congrArg pR f1)
  refine ⟨fun h => Bool.noConfusion (show false = true from h), fun _ => ?_⟩
  refine ⟨fun h => Bool.noConfusion (show false = true from h), fun _ => ?_⟩
  refine ⟨fun h => Bool.noConfusion (show false = true from h), fun _ => ?_⟩
  refine ⟨fun h => Bool.noConfusion (show false = true from h), fun _ => ?_⟩
  refine ⟨fun h => Bool.noConfusion (show false = true from h), fun _ => ?_⟩
  refine ⟨fun h => Bool.noConfusion (show false = true from h), fun _ => ?_⟩
  refine ⟨fun h => Bool.noConfusion (show false = true from h), fun _ => ?_⟩
  refine ⟨fun h => Bool.noConfusion (show false = true from h), fun _ => ?_⟩
  refine ⟨fun h => Bool.noConfusion (show false = true from h), fun _ => ?_⟩
  intro r hr
  obtain rfl := hr.trans (cmul_ok (y := false) m2)
  refine ⟨decide_eq_true rfl, fun _ => ⟨fun _ => ?_, fun h => Bool.noConfusion (lenM_0.symm.trans h)⟩, fun h => Bool.noConfusion (show true = false from h)⟩
  refine ⟨decide_eq_true (congrArg enc (show (a * c - b * d) * (a * c - b * d) + (a * d + b * c) * (a * d + b * c) = (a * a + b * b) * (c * c + d * d) by grind)), ?_⟩
  intro r hr
  obtain rfl := hr.trans (cmul_ok (y := false) m3)
  refine ⟨gsame_w t1 t2.neg (by decide) rfl rfl, gsame_w sa sb.neg.neg (by decide) rfl (by grind), ?_⟩
  intro r hr
  obtain rfl := hr.trans (cadd_ok (y := false) e1)
  rintro _ rfl
  refine ⟨fun _ => ?_, fun h => Bool.noConfusion (gz_0.symm.trans h)⟩
  rintro _ rfl _ rfl
  refine congrArg (fun b => (b, ())) ?_
  show (gzero (ge a b) == (fsign (enc (a * a + b * b)) == 0)) = true
  rw [gzero_w sa sb (by decide), fsign_enc (t3.lng (by decide))]
  by_cases hz : a = 0 ∧ b = 0
  · obtain ⟨rfl, rfl⟩ := hz
    decide +kernel
  · have n : a * a + b * b ≠ 0 := fun e => hz (norm_zero e)
    rw [decide_eq_false hz]
    rcases cmpq_cases (a * a + b * b) 0 with ⟨_, h⟩ | ⟨_, h⟩ | ⟨h, _⟩
    · rw [h]
      decide
    · rw [h]
      decide
    · exact absurd h n
theorem fo_lawGaussConj : FnOk Tryz.prog 4 sp_lawGaussConj := fnOk_of (C := c_lawGaussConj) iv_lawGaussConj Tryz.func4 rfl (by kernel_rfl) tys_ok (prims_cons (pr_sure (spec_prim fo_gawake)) (prims_cons (spec_prim fo_gfit) (prims_cons (spec_prim fo_cadd) (prims_cons (spec_prim fo_cmul) (prims_cons (spec_prim fo_gConj) (prims_cons (spec_prim fo_gNeg) (prims_cons (spec_prim fo_gNorm) (prims_cons (spec_prim fo_rMul) (prims_cons (pr_sure (spec_prim fo_kSameRatio)) (prims_cons (pr_sure (spec_prim fo_gSame)) (prims_cons (spec_prim fo_gZero) (prims_cons (spec_prim fo_rSgn) prims_nil)))))))))))) mixed_ (Nat.le_refl _) rfl fun y x h1 h2 h3 h4 =>
  Eq.mpr (w_lawGaussConj y x) (m_lawGaussConj y x h2 h3)
end Go.Proofs.YtakaehdolpmelaaGreatDoor
namespace Go.Proofs.YtakaehdolpmelaaGreatDoor
open Go.ChangeShapes Go.WideShapes Go.ChangeAt Go.RowKit Go.Joins Go.Deep
set_option linter.unusedVariables false
section
variable {H : Type} {enc : TypeId × Value → H} {P : Program} {w : World} {base : Nat} {spare : Nat → Bool} {held : Bool}
end
theorem mk_own : ownKnob Tryz.prog.godebug = none := by kernel_rfl
theorem mk_laidOut : laidOutB Tryz.prog = true := by kernel_rfl
end Go.Proofs.YtakaehdolpmelaaGreatDoor
