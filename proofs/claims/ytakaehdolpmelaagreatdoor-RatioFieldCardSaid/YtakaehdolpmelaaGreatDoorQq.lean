/- Texts of this claim, joined: P10 P11 P12 A30 E2 Sh2 H2 E6. -/
import Derived.Shelf.Small.Wraps
import Derived.Ground.MpProg
import Derived.Shelf.Pu.ParseUintPublic10
import Derived.Shelf.Strings.Search2
import Derived.Shelf.Strings.Trim
import Derived.Test.YtakaehdolpmelaaGreatDoorProg
import Derived.Shelf.Strings.SlTrimAscii
import Derived.Lib.AtoiErrMem
import Derived.WideShapes
import Derived.Test.YtakaehdolpmelaaGreatDoorQp
set_option linter.unusedVariables false
set_option linter.unusedSimpArgs false
set_option maxRecDepth 100000
namespace Go.Proofs.YtakaehdolpmelaaGreatDoor
open Go
def sm (q : Rat) : Bool := decide (q.num.natAbs < 4294967296) && decide (q.den < 4294967296)
theorem wd_one_len {n : Nat} (h : n < 4294967296) : (wd n).length ≤ 1 := wd_len_le n 1 (by show (n : Int) < 4294967296; omega)
theorem sm_lng {q : Rat} (h : sm q = true) : ¬ lng q = true := by
  unfold sm at h
  simp only [Bool.and_eq_true, decide_eq_true_eq] at h
  exact lng_of (Nat.le_trans (wd_one_len h.1) (by decide)) (Nat.le_trans (wd_one_len h.2) (by decide))
theorem fchk_s {q : Rat} (h : sm q = true) : fchk (enc q) = 0 := fchk_enc q (sm_lng h)
section
variable {p q r : Rat}
theorem fadd_s (h : (sm p && sm q && sm r) = true) (e : p + q = r) : fadd (enc p) (enc q) = (enc r, 0) := by
  simp only [Bool.and_eq_true] at h
  rw [fadd_enc (sm_lng h.1.1) (sm_lng h.1.2), e, tell_ok (sm_lng h.2)]
theorem fsmall_s {n d : Int} (h0 : d ≠ 0) (h : sm r = true) (e : mkRat (sg (decide (n < 0) != decide (d < 0)) n.natAbs) d.natAbs = r) : fsmall n d = (enc r, 0) := by
  unfold fsmall
  rw [if_neg h0, e, tell_ok (sm_lng h)]
end
section
variable {a b c d u v x y r i : Rat}
end
end Go.Proofs.YtakaehdolpmelaaGreatDoor
namespace Go.Proofs.YtakaehdolpmelaaGreatDoor
theorem both_in {a b : Fr} {r : Rat → Rat → Fr × Int} (wa : a.Wf) (wb : b.Wf) (h : (both a b r).2 = 0) : ∃ p q, a = enc p ∧ b = enc q ∧ ¬ lng p = true ∧ ¬ lng q = true ∧ both a b r = r p q := by
  by_cases hc : fchk2 a b = 0
  · obtain ⟨p, q, rfl, rfl, h1, h2⟩ := fchk2_ok wa wb hc
    exact ⟨p, q, rfl, rfl, h1, h2, both_ok h1 h2⟩
  · rw [both_bad hc] at h
    exact absurd h hc
theorem tell_in {q : Rat} (h : (tell q).2 = 0) : ¬ lng q = true ∧ tell q = (enc q, 0) := by
  by_cases hl : lng q = true
  · unfold tell at h
    rw [if_pos hl] at h
    cases h
  · exact ⟨hl, tell_ok hl⟩
theorem fadd_in {a b : Fr} (wa : a.Wf) (wb : b.Wf) (h : (fadd a b).2 = 0) : ∃ p q, a = enc p ∧ b = enc q ∧ ¬ lng p = true ∧ ¬ lng q = true ∧ ¬ lng (p + q) = true ∧ fadd a b = (enc (p + q), 0) := by
  obtain ⟨p, q, e1, e2, h1, h2, e3⟩ := both_in wa wb h
  have h : (both a b _).2 = 0 := h
  rw [e3] at h
  obtain ⟨h3, e4⟩ := tell_in h
  exact ⟨p, q, e1, e2, h1, h2, h3, e3.trans e4⟩
theorem fmul_enc {p q : Rat} (h : ¬ lng p = true) (k : ¬ lng q = true) : fmul (enc p) (enc q) = tell (p * q) := both_ok h k
theorem fquo_enc {p q : Rat} (h : ¬ lng p = true) (k : ¬ lng q = true) (n : q ≠ 0) : fquo (enc p) (enc q) = tell (p / q) := (both_ok h k).trans (if_neg n)
theorem fsign_in {q : Rat} (h : fsign (enc q) ≠ 0) : q ≠ 0 := fun e => by
  subst e
  exact h (by decide +kernel)
theorem field_law {a b c : Fr} (wa : a.Wf) (wb : b.Wf) (wc : c.Wf) (h1 : (fadd a b).2 = 0) (h2 : (fadd (fadd a b).1 c).2 = 0) (h3 : (fadd b c).2 = 0) (h4 : (fmul a (fadd b c).1).2 = 0) (h5 : (fmul a b).2 = 0) (h6 : (fmul a c).2 = 0) (h7 : (fneg b).2 = 0) :
    (fadd a b).1 = (fadd b a).1 ∧ (fadd (fadd a b).1 c).1 = (fadd a (fadd b c).1).1 ∧ (fmul a b).1 = (fmul b a).1 ∧ (fmul a (fadd b c).1).1 = (fadd (fmul a b).1 (fmul a c).1).1 ∧ (fsub (fadd a b).1 b).1 = a ∧ (fadd (fadd a b).1 (fneg b).1).1 = a ∧
      (fsign b ≠ 0 → fquo (fmul a b).1 b = (a, 0)) := by
  obtain ⟨p, q, rfl, rfl, lp, lq, l1, e1⟩ := fadd_in wa wb h1
  obtain ⟨q', r, eq, rfl, _, lr, l3, e3⟩ := fadd_in wb wc h3
  cases enc_inj eq
  rw [e1] at h2 ⊢
  rw [e3] at h4 ⊢
  dsimp only at h2 h4 ⊢
  rw [fadd_enc l1 lr] at h2 ⊢
  rw [fmul_enc lp l3] at h4 ⊢
  rw [fmul_enc lp lq] at h5 ⊢
  rw [fmul_enc lp lr] at h6 ⊢
  obtain ⟨l2, e2⟩ := tell_in h2
  obtain ⟨l4, e4⟩ := tell_in h4
  obtain ⟨l5, e5⟩ := tell_in h5
  obtain ⟨l6, e6⟩ := tell_in h6
  rw [e2, e4, e5, e6, fneg_enc lq]
  dsimp only
  have ln : ¬ lng (-q) = true := by rw [lng_negQ]; exact lq
  refine ⟨?_, ?_, ?_, ?_, ?_, ?_, fun hs => ?_⟩
  · rw [fadd_enc lq lp, show q + p = p + q by grind, tell_ok l1]
  · rw [fadd_enc lp l3, show p + (q + r) = p + q + r by grind, tell_ok l2]
  · rw [fmul_enc lq lp, show q * p = p * q by grind, tell_ok l5]
  · rw [fadd_enc l5 l6, show p * q + p * r = p * (q + r) by grind, tell_ok l4]
  · rw [fsub_enc l1 lq, show p + q - q = p by grind, tell_ok lp]
  · rw [fadd_enc l1 ln, show p + q + -q = p by grind, tell_ok lp]
  · have n := fsign_in hs
    rw [fquo_enc l5 lq n, show p * q / q = p by grind, tell_ok lp]
section
variable {m n : Nat} {p q a b c d : Rat}
end
end Go.Proofs.YtakaehdolpmelaaGreatDoor
namespace Go.Proofs.YtakaehdolpmelaaGreatDoor
open Go Go.RowKit
def p_sure (p : Prim) : Prim := fun az O n => match p az O n with
  | some (c, G) => match G.ef with
    | ⟨.c (.sc (.bool b)), ob, k⟩ => some (some (oc c (b = true)), .e ⟨.c .tt, ob, k⟩)
    | _ => none
  | none => none
theorem Sim.tt {gp : Option Nat} {Z0 : Nat → Prop} {w0 w : World} {N : Nat} {d : Option Nat} {D : Nat → Prop} {c : Cf} {T : Nat → Option AV} {O : Store} {tm : Array Value} (h : Sim gp Z0 w0 N D c (upT T d (.c (.sc (.bool true)))) O tm w) : Sim gp Z0 w0 N D c (upT T d (.c .tt)) O tm w := by
  cases d with
  | none => exact h
  | some d =>
    exact { h with
      tmp := fun t v hv => by
        have hv : (bif Nat.beq d t then some (.c .tt) else T t) = some v := hv
        cases e : Nat.beq d t with
        | true =>
          rw [e] at hv
          cases hv
          obtain ⟨u, h1, h2⟩ := h.tmp t (.c (.sc (.bool true))) (by show (bif Nat.beq d t then _ else _) = _; rw [e]; rfl)
          exact ⟨u, h1, h2.1⟩
        | false =>
          rw [e] at hv
          exact h.tmp t v (by show (bif Nat.beq d t then _ else _) = _; rw [e]; exact hv) }
theorem pr_sure {P : Program} {f : Nat} {p : Prim} (hp : PrimOk P f p) : PrimOk P f (p_sure p) := by
  refine ⟨hp.1, fun gp Z0 w0 N D c T O O' a w xs vs n cd G hS hO hl hv hG hD hc => ?_⟩
  unfold p_sure at hG
  cases h1 : p xs O' n with
  | none => rw [h1] at hG; cases hG
  | some q =>
    obtain ⟨c1, G1⟩ := q
    rw [h1] at hG
    dsimp only at hG
    split at hG
    · rename_i b ob k hef
      cases hG
      have hc : oc c1 (b = true) := hc
      have hb : b = true ∧ holds c1 := by
        cases c1 with
        | none => exact ⟨hc, trivial⟩
        | some X => exact ⟨hc.2, hc.1⟩
      obtain ⟨rfl, hc1⟩ := hb
      have := hp.2 gp Z0 w0 N D c T O O' a w xs vs n c1 G1 hS hO hl hv h1 (by rw [hef]; exact hD) hc1
      rw [hef] at this
      refine this.mono ?_
      rintro e w' ⟨v, c', rfl, h2⟩
      exact ⟨v, c', rfl, fun d hd => Sim.tt (h2 d hd)⟩
    · cases hG
def sP (f : Fr) : Prop := fchk f = 0 ∧ toN f.num < 100 ∧ toN f.den < 100
def txR (f : Fr) : ByteArray := if toN f.den = 1 then (if f.neg = true then ⟨#[45]⟩ ++ dgB (toN f.num) else dgB (toN f.num)) else (if f.neg = true then ⟨#[45]⟩ ++ dgB (toN f.num) else dgB (toN f.num)) ++ (⟨#[47]⟩ ++ dgB (toN f.den))
theorem nrm_1 : nrm [1] := by
  rw [← wd_one]
  exact nrm_wd 1
theorem toN_1 : toN [1] = 1 := by rw [← wd_one, toN_wd]
theorem nrm_of {f : Fr} (wf : f.Wf) (h : fchk f = 0) : nrm f.num ∧ nrm f.den := by
  obtain ⟨q, rfl, _⟩ := fchk_ok wf h
  exact ⟨nrm_wd _, nrm_wd _⟩
theorem cmp1_T {n : Nat} (h : ((cmp n (toN [1]) : Int) != 0) = true) : n ≠ 1 := fun e => by
  rw [e, toN_1] at h
  exact absurd h (by decide)
theorem cmp1_F {n : Nat} (h : ((cmp n (toN [1]) : Int) != 0) = false) : n = 1 := by
  rw [toN_1] at h
  have h := bne_eq_false_iff_eq.1 h
  unfold cmp at h
  split at h
  · cases h
  · split at h
    · cases h
    · omega
noncomputable def sp_rPrint : Spec := { q := .un, ps := [tR], rs := [.st, .it .i64], fresh := true, pre := fun _ x => some (sP (toFr x.1)), post := fun _ x => ((), (txR (toFr x.1), 0, ())) }
noncomputable def iv_rPrint (y : El sp_rPrint.q) (x : Els sp_rPrint.ps) : Nat → Option Inv := fun _ => none
noncomputable abbrev c_rPrint : Cfg := cfgS (Tryz.f26).ntmps false [(33, sp_rCheck.prim), (69, sp_aPrint.prim), (70, sp_aCmp.prim)]
def F_rPrint (y : El sp_rPrint.q) (x : Els sp_rPrint.ps) : Prop :=
  ∀ (r : Ro [Ty.it IntKind.i64]), r = ((), fchk (toFr x.1), ()) → ((r.2.1 != (0 : Int)) = true → ((⟨#[]⟩ : ByteArray), r.2) = (txR (toFr x.1), (0 : El (Ty.it IntKind.i64)), ())) ∧ ((r.2.1 != (0 : Int)) = false → (x.1.2.1 = wd (toN x.1.2.1) ∧ toN x.1.2.1 < (100 : Nat)) ∧ ∀ (r : Ro [Ty.st, Ty.it IntKind.i64]), r = ((), dgB (toN x.1.2.1), (0 : El (Ty.it IntKind.i64)), ()) → (x.1.1 = true → (⟨#[(45 : UInt8)]⟩ : ByteArray).size + ByteArray.size r.2.1 ≤ (9223372036854775807 : Nat) ∧ (x.1.2.2.1 = wd (toN x.1.2.2.1) ∧ [(1 : Int)] = wd (toN [(1 : Int)])) ∧ ∀ (r_1 : Ro [Ty.it IntKind.i64]), r_1 = ((), cmp (toN x.1.2.2.1) (toN [(1 : Int)]), ()) → ((r_1.2.1 != (0 : Int)) = true → (x.1.2.2.1 = wd (toN x.1.2.2.1) ∧ toN x.1.2.2.1 < (100 : Nat)) ∧ ∀ (r_2 : Ro [Ty.st, Ty.it IntKind.i64]), r_2 = ((), dgB (toN x.1.2.2.1), (0 : El (Ty.it IntKind.i64)), ()) → (⟨#[(47 : UInt8)]⟩ : ByteArray).size + ByteArray.size r_2.2.1 ≤ (9223372036854775807 : Nat) ∧ ((⟨#[(45 : UInt8)]⟩ : ByteArray) ++ r.2.1).size + ((⟨#[(47 : UInt8)]⟩ : ByteArray) ++ r_2.2.1).size ≤ (9223372036854775807 : Nat) ∧ ((⟨#[(45 : UInt8)]⟩ : ByteArray) ++ r.2.1 ++ ((⟨#[(47 : UInt8)]⟩ : ByteArray) ++ r_2.2.1), (0 : Int), ()) = (txR (toFr x.1), (0 : El (Ty.it IntKind.i64)), ())) ∧ ((r_1.2.1 != (0 : Int)) = false → ((⟨#[(45 : UInt8)]⟩ : ByteArray) ++ r.2.1, (0 : Int), ()) = (txR (toFr x.1), (0 : El (Ty.it IntKind.i64)), ()))) ∧ (x.1.1 = false → (x.1.2.2.1 = wd (toN x.1.2.2.1) ∧ [(1 : Int)] = wd (toN [(1 : Int)])) ∧ ∀ (r_1 : Ro [Ty.it IntKind.i64]), r_1 = ((), cmp (toN x.1.2.2.1) (toN [(1 : Int)]), ()) → ((r_1.2.1 != (0 : Int)) = true → (x.1.2.2.1 = wd (toN x.1.2.2.1) ∧ toN x.1.2.2.1 < (100 : Nat)) ∧ ∀ (r_2 : Ro [Ty.st, Ty.it IntKind.i64]), r_2 = ((), dgB (toN x.1.2.2.1), (0 : El (Ty.it IntKind.i64)), ()) → (⟨#[(47 : UInt8)]⟩ : ByteArray).size + ByteArray.size r_2.2.1 ≤ (9223372036854775807 : Nat) ∧ ByteArray.size r.2.1 + ((⟨#[(47 : UInt8)]⟩ : ByteArray) ++ r_2.2.1).size ≤ (9223372036854775807 : Nat) ∧ (r.2.1 ++ ((⟨#[(47 : UInt8)]⟩ : ByteArray) ++ r_2.2.1), (0 : Int), ()) = (txR (toFr x.1), (0 : El (Ty.it IntKind.i64)), ())) ∧ ((r_1.2.1 != (0 : Int)) = false → (r.2.1, (0 : Int), ()) = (txR (toFr x.1), (0 : El (Ty.it IntKind.i64)), ()))))
theorem w_rPrint (y : El sp_rPrint.q) (x : Els sp_rPrint.ps) : aW c_rPrint (iv_rPrint y x) Tryz.f26 sp_rPrint y x = F_rPrint y x := by kernel_rfl
theorem m_rPrint (y : El (.un)) (x : Els [tR]) (h2 : wfE (.un) y) (h3 : wfEs [tR] x) (h4 : sP (toFr x.1)) : F_rPrint y x := by
  unfold F_rPrint
  have q : sP (toFr x.1) := h4
  obtain ⟨q0, q1, q2⟩ := q
  obtain ⟨n1, n2⟩ := nrm_of (wf_fr h3.1) q0
  have z1 := dgB_size _ q1
  have z2 := dgB_size _ q2
  have z3 : (⟨#[45]⟩ : ByteArray).size = 1 := rfl
  have z4 : (⟨#[47]⟩ : ByteArray).size = 1 := rfl
  rintro _ rfl
  refine ⟨fun h => absurd q0 (neT h), fun _ => ⟨⟨n1, q1⟩, ?_⟩⟩
  rintro _ rfl
  refine ⟨fun hn => ⟨?_, ⟨n2, nrm_1⟩, ?_⟩, fun hn => ⟨⟨n2, nrm_1⟩, ?_⟩⟩
  · show (⟨#[45]⟩ : ByteArray).size + (dgB (toN (toFr x.1).num)).size ≤ _
    omega
  · rintro _ rfl
    refine ⟨fun hd => ⟨⟨n2, q2⟩, ?_⟩, fun hd => ?_⟩
    · have hd := cmp1_T hd
      rintro _ rfl
      refine ⟨?_, ?_, ?_⟩
      · show (⟨#[47]⟩ : ByteArray).size + (dgB (toN (toFr x.1).den)).size ≤ _
        omega
      · show ((⟨#[45]⟩ : ByteArray) ++ dgB (toN (toFr x.1).num)).size + ((⟨#[47]⟩ : ByteArray) ++ dgB (toN (toFr x.1).den)).size ≤ _
        rw [ByteArray.size_append, ByteArray.size_append]
        omega
      · unfold txR
        rw [if_neg hd, if_pos (show (toFr x.1).neg = true from hn)]
    · have hd := cmp1_F hd
      unfold txR
      rw [if_pos hd, if_pos (show (toFr x.1).neg = true from hn)]
  · have hn' : ¬ (toFr x.1).neg = true := fun e => by
      have hn : (toFr x.1).neg = false := hn
      rw [hn] at e
      cases e
    rintro _ rfl
    refine ⟨fun hd => ⟨⟨n2, q2⟩, ?_⟩, fun hd => ?_⟩
    · have hd := cmp1_T hd
      rintro _ rfl
      refine ⟨?_, ?_, ?_⟩
      · show (⟨#[47]⟩ : ByteArray).size + (dgB (toN (toFr x.1).den)).size ≤ _
        omega
      · show (dgB (toN (toFr x.1).num)).size + ((⟨#[47]⟩ : ByteArray) ++ dgB (toN (toFr x.1).den)).size ≤ _
        rw [ByteArray.size_append]
        omega
      · unfold txR
        rw [if_neg hd, if_neg hn']
    · have hd := cmp1_F hd
      unfold txR
      rw [if_pos hd, if_neg hn']
theorem fo_rPrint : FnOk Tryz.prog 26 sp_rPrint := fnOk_of (C := c_rPrint) iv_rPrint Tryz.func26 rfl (by kernel_rfl) tys_ok (prims_cons (spec_prim fo_rCheck) (prims_cons (spec_prim fo_aPrint) (prims_cons (spec_prim fo_aCmp) prims_nil))) mixed_ (Nat.le_refl _) rfl fun y x h1 h2 h3 h4 =>
  Eq.mpr (w_rPrint y x) (m_rPrint y x h2 h3 h4)
end Go.Proofs.YtakaehdolpmelaaGreatDoor
namespace Go.Proofs.YtakaehdolpmelaaGreatDoor
open Go.Shelf
def Sh.lays103_ren : Go.Shelf.Ren := ⟨fun | 103 => 76 | 210 => 110 | 206 => 136 | n => n, fun | 9 => 9 | 4 => 4 | 24 => 100 | 3 => 3 | n => n, fun | n => n⟩
theorem Sh.lays103 : Go.Proofs.Lays.n103 Tryz.prog Sh.lays103_ren := {
  mixed := by kernel_rfl
  f103 := Tryz.func76.trans (congrArg some (by kernel_rfl))
  f206 := Tryz.func136.trans (congrArg some (by kernel_rfl))
  f210 := Tryz.func110.trans (congrArg some (by kernel_rfl))
  t3 := Tryz.underlying3
  a3 := Tryz.isAgg3
  z3 := Tryz.sizeOf3
  v3 := Tryz.zeroValue3
  t4 := Tryz.underlying4
  a4 := Tryz.isAgg4
  z4 := Tryz.sizeOf4
  v4 := Tryz.zeroValue4
  t9 := Tryz.underlying9
  a9 := Tryz.isAgg9
  z9 := Tryz.sizeOf9
  v9 := Tryz.zeroValue9
  t24 := Tryz.underlying100
  a24 := Tryz.isAgg100
  z24 := Tryz.sizeOf100
  v24 := Tryz.zeroValue100 }
def Sh.lays160_ren : Go.Shelf.Ren := ⟨fun | 160 => 111 | 232 => 138 | 231 => 137 | 227 => 139 | 234 => 141 | 233 => 140 | 236 => 143 | 235 => 142 | 228 => 169 | 271 => 172 | 151 => 171 | 197 => 170 | 120 => 197 | 152 => 196 | 260 => 195 | 137 => 206 | 119 => 207 | 224 => 167 | 225 => 166 | 217 => 165 | 266 => 193 | n => n, fun | 9 => 9 | 4 => 4 | 3 => 3 | 5 => 5 | 117 => 155 | 116 => 154 | 0 => 0 | 124 => 158 | 21 => 21 | 105 => 181 | 46 => 138 | 119 => 209 | 139 => 212 | 138 => 211 | n => n, fun | 3 => 4 | 4 => 5 | n => n⟩
theorem Sh.lays160 : Go.Proofs.Lays.n160 Tryz.prog Sh.lays160_ren := {
  mixed := by kernel_rfl
  f119 := Tryz.func207.trans (congrArg some (by kernel_rfl))
  f120 := Tryz.func197.trans (congrArg some (by kernel_rfl))
  f137 := Tryz.func206.trans (congrArg some (by kernel_rfl))
  f151 := Tryz.func171.trans (congrArg some (by kernel_rfl))
  f152 := Tryz.func196.trans (congrArg some (by kernel_rfl))
  f160 := Tryz.func111.trans (congrArg some (by kernel_rfl))
  f197 := Tryz.func170.trans (congrArg some (by kernel_rfl))
  f217 := Tryz.func165.trans (congrArg some (by kernel_rfl))
  f224 := Tryz.func167.trans (congrArg some (by kernel_rfl))
  f225 := Tryz.func166.trans (congrArg some (by kernel_rfl))
  f227 := Tryz.func139.trans (congrArg some (by kernel_rfl))
  f228 := Tryz.func169.trans (congrArg some (by kernel_rfl))
  f231 := Tryz.func137.trans (congrArg some (by kernel_rfl))
  f232 := Tryz.func138.trans (congrArg some (by kernel_rfl))
  f233 := Tryz.func140.trans (congrArg some (by kernel_rfl))
  f234 := Tryz.func141.trans (congrArg some (by kernel_rfl))
  f235 := Tryz.func142.trans (congrArg some (by kernel_rfl))
  f236 := Tryz.func143.trans (congrArg some (by kernel_rfl))
  f260 := Tryz.func195.trans (congrArg some (by kernel_rfl))
  f266 := Tryz.func193.trans (congrArg some (by kernel_rfl))
  f271 := Tryz.func172.trans (congrArg some (by kernel_rfl))
  t0 := Tryz.underlying0
  a0 := Tryz.isAgg0
  z0 := Tryz.sizeOf0
  v0 := Tryz.zeroValue0
  t3 := Tryz.underlying3
  a3 := Tryz.isAgg3
  z3 := Tryz.sizeOf3
  v3 := Tryz.zeroValue3
  t4 := Tryz.underlying4
  a4 := Tryz.isAgg4
  z4 := Tryz.sizeOf4
  v4 := Tryz.zeroValue4
  t5 := Tryz.underlying5
  a5 := Tryz.isAgg5
  z5 := Tryz.sizeOf5
  v5 := Tryz.zeroValue5
  t9 := Tryz.underlying9
  a9 := Tryz.isAgg9
  z9 := Tryz.sizeOf9
  v9 := Tryz.zeroValue9
  t21 := Tryz.underlying21
  a21 := Tryz.isAgg21
  z21 := Tryz.sizeOf21
  v21 := Tryz.zeroValue21
  t46 := Tryz.underlying138
  a46 := Tryz.isAgg138
  z46 := Tryz.sizeOf138
  v46 := Tryz.zeroValue138
  t105 := Tryz.underlying181
  a105 := Tryz.isAgg181
  z105 := Tryz.sizeOf181
  v105 := Tryz.zeroValue181
  t116 := Tryz.underlying154
  a116 := Tryz.isAgg154
  z116 := Tryz.sizeOf154
  t117 := Tryz.underlying155
  a117 := Tryz.isAgg155
  z117 := Tryz.sizeOf155
  v117 := Tryz.zeroValue155
  t119 := Tryz.underlying209
  a119 := Tryz.isAgg209
  z119 := Tryz.sizeOf209
  t124 := Tryz.underlying158
  a124 := Tryz.isAgg158
  z124 := Tryz.sizeOf158
  v124 := Tryz.zeroValue158
  t138 := Tryz.underlying211
  a138 := Tryz.isAgg211
  z138 := Tryz.sizeOf211
  v138 := Tryz.zeroValue211
  t139 := Tryz.underlying212
  a139 := Tryz.isAgg212
  z139 := Tryz.sizeOf212
  v139 := Tryz.zeroValue212
  g3 := by kernel_rfl
  g4 := by kernel_rfl }
def Sh.lays219_ren : Go.Shelf.Ren := ⟨fun | 219 => 135 | 217 => 165 | 225 => 166 | 224 => 167 | 267 => 168 | 266 => 193 | 314 => 194 | n => n, fun | 9 => 9 | 3 => 3 | 4 => 4 | 5 => 5 | 46 => 138 | 146 => 173 | 51 => 59 | n => n, fun | 1 => 0 | n => n⟩
theorem Sh.lays219 : Go.Proofs.Lays.n219 Tryz.prog Sh.lays219_ren := {
  mixed := by kernel_rfl
  f217 := Tryz.func165.trans (congrArg some (by kernel_rfl))
  f219 := Tryz.func135.trans (congrArg some (by kernel_rfl))
  f224 := Tryz.func167.trans (congrArg some (by kernel_rfl))
  f225 := Tryz.func166.trans (congrArg some (by kernel_rfl))
  f266 := Tryz.func193.trans (congrArg some (by kernel_rfl))
  f267 := Tryz.func168.trans (congrArg some (by kernel_rfl))
  f314 := Tryz.func194.trans (congrArg some (by kernel_rfl))
  t3 := Tryz.underlying3
  a3 := Tryz.isAgg3
  z3 := Tryz.sizeOf3
  v3 := Tryz.zeroValue3
  t4 := Tryz.underlying4
  a4 := Tryz.isAgg4
  z4 := Tryz.sizeOf4
  v4 := Tryz.zeroValue4
  t5 := Tryz.underlying5
  a5 := Tryz.isAgg5
  z5 := Tryz.sizeOf5
  v5 := Tryz.zeroValue5
  t9 := Tryz.underlying9
  a9 := Tryz.isAgg9
  z9 := Tryz.sizeOf9
  v9 := Tryz.zeroValue9
  t46 := Tryz.underlying138
  a46 := Tryz.isAgg138
  z46 := Tryz.sizeOf138
  v46 := Tryz.zeroValue138
  t51 := Tryz.underlying59
  a51 := Tryz.isAgg59
  z51 := Tryz.sizeOf59
  v51 := Tryz.zeroValue59
  t146 := Tryz.underlying173
  a146 := Tryz.isAgg173
  z146 := Tryz.sizeOf173
  v146 := Tryz.zeroValue173
  g1 := by kernel_rfl }
def Sh.laysPu14_ren : Go.Shelf.Ren := ⟨fun | 14 => 112 | 16 => 144 | 17 => 145 | 19 => 173 | 20 => 174 | 21 => 175 | 22 => 176 | 23 => 177 | 24 => 178 | 25 => 198 | 27 => 200 | 26 => 199 | 28 => 208 | 29 => 211 | 30 => 157 | 31 => 158 | 32 => 159 | 33 => 160 | 35 => 187 | 34 => 186 | 36 => 188 | 37 => 189 | 38 => 190 | 39 => 204 | 40 => 205 | n => n, fun | 9 => 9 | 3 => 3 | 22 => 119 | 24 => 126 | 25 => 127 | 4 => 4 | 34 => 184 | 5 => 5 | 36 => 138 | 37 => 143 | 0 => 0 | 39 => 187 | 21 => 21 | 44 => 205 | 47 => 177 | 50 => 216 | 48 => 214 | 2 => 2 | 52 => 168 | 55 => 171 | 59 => 194 | 60 => 59 | 20 => 20 | 61 => 195 | 65 => 217 | 66 => 218 | 67 => 150 | n => n, fun | 0 => 2 | 1 => 3 | 2 => 1 | 3 => 6 | 4 => 7 | n => n⟩
theorem Sh.laysPu14 : Go.Proofs.LaysPu.n14 Tryz.prog Sh.laysPu14_ren := {
  mixed := by kernel_rfl
  f14 := Tryz.func112.trans (congrArg some (by kernel_rfl))
  f16 := Tryz.func144.trans (congrArg some (by kernel_rfl))
  f17 := Tryz.func145.trans (congrArg some (by kernel_rfl))
  f19 := Tryz.func173.trans (congrArg some (by kernel_rfl))
  f20 := Tryz.func174.trans (congrArg some (by kernel_rfl))
  f21 := Tryz.func175.trans (congrArg some (by kernel_rfl))
  f22 := Tryz.func176.trans (congrArg some (by kernel_rfl))
  f23 := Tryz.func177.trans (congrArg some (by kernel_rfl))
  f24 := Tryz.func178.trans (congrArg some (by kernel_rfl))
  f25 := Tryz.func198.trans (congrArg some (by kernel_rfl))
  f26 := Tryz.func199.trans (congrArg some (by kernel_rfl))
  f27 := Tryz.func200.trans (congrArg some (by kernel_rfl))
  f28 := Tryz.func208.trans (congrArg some (by kernel_rfl))
  f29 := Tryz.func211.trans (congrArg some (by kernel_rfl))
  f30 := Tryz.func157.trans (congrArg some (by kernel_rfl))
  f31 := Tryz.func158.trans (congrArg some (by kernel_rfl))
  f32 := Tryz.func159.trans (congrArg some (by kernel_rfl))
  f33 := Tryz.func160.trans (congrArg some (by kernel_rfl))
  f34 := Tryz.func186.trans (congrArg some (by kernel_rfl))
  f35 := Tryz.func187.trans (congrArg some (by kernel_rfl))
  f36 := Tryz.func188.trans (congrArg some (by kernel_rfl))
  f37 := Tryz.func189.trans (congrArg some (by kernel_rfl))
  f38 := Tryz.func190.trans (congrArg some (by kernel_rfl))
  f39 := Tryz.func204.trans (congrArg some (by kernel_rfl))
  f40 := Tryz.func205.trans (congrArg some (by kernel_rfl))
  t0 := Tryz.underlying0
  a0 := Tryz.isAgg0
  z0 := Tryz.sizeOf0
  v0 := Tryz.zeroValue0
  i0 := by kernel_rfl
  t2 := Tryz.underlying2
  a2 := Tryz.isAgg2
  z2 := Tryz.sizeOf2
  v2 := Tryz.zeroValue2
  i2 := by kernel_rfl
  t3 := Tryz.underlying3
  a3 := Tryz.isAgg3
  z3 := Tryz.sizeOf3
  v3 := Tryz.zeroValue3
  i3 := by kernel_rfl
  t4 := Tryz.underlying4
  a4 := Tryz.isAgg4
  z4 := Tryz.sizeOf4
  v4 := Tryz.zeroValue4
  i4 := by kernel_rfl
  t5 := Tryz.underlying5
  a5 := Tryz.isAgg5
  z5 := Tryz.sizeOf5
  v5 := Tryz.zeroValue5
  i5 := by kernel_rfl
  t9 := Tryz.underlying9
  a9 := Tryz.isAgg9
  z9 := Tryz.sizeOf9
  v9 := Tryz.zeroValue9
  i9 := by kernel_rfl
  t20 := Tryz.underlying20
  a20 := Tryz.isAgg20
  z20 := Tryz.sizeOf20
  v20 := Tryz.zeroValue20
  i20 := by kernel_rfl
  t21 := Tryz.underlying21
  a21 := Tryz.isAgg21
  z21 := Tryz.sizeOf21
  v21 := Tryz.zeroValue21
  i21 := by kernel_rfl
  t22 := Tryz.underlying119
  a22 := Tryz.isAgg119
  z22 := Tryz.sizeOf119
  v22 := Tryz.zeroValue119
  i22 := by kernel_rfl
  t24 := Tryz.underlying126
  a24 := Tryz.isAgg126
  z24 := Tryz.sizeOf126
  v24 := Tryz.zeroValue126
  i24 := by kernel_rfl
  t25 := Tryz.underlying127
  a25 := Tryz.isAgg127
  z25 := Tryz.sizeOf127
  v25 := Tryz.zeroValue127
  i25 := by kernel_rfl
  t34 := Tryz.underlying184
  a34 := Tryz.isAgg184
  z34 := Tryz.sizeOf184
  v34 := Tryz.zeroValue184
  i34 := by kernel_rfl
  c34 := by kernel_rfl
  t36 := Tryz.underlying138
  a36 := Tryz.isAgg138
  z36 := Tryz.sizeOf138
  v36 := Tryz.zeroValue138
  i36 := by kernel_rfl
  t37 := Tryz.underlying143
  a37 := Tryz.isAgg143
  z37 := Tryz.sizeOf143
  v37 := Tryz.zeroValue143
  i37 := by kernel_rfl
  t39 := Tryz.underlying187
  a39 := Tryz.isAgg187
  z39 := Tryz.sizeOf187
  v39 := Tryz.zeroValue187
  i39 := by kernel_rfl
  t44 := Tryz.underlying205
  a44 := Tryz.isAgg205
  z44 := Tryz.sizeOf205
  v44 := Tryz.zeroValue205
  i44 := by kernel_rfl
  t47 := Tryz.underlying177
  a47 := Tryz.isAgg177
  z47 := Tryz.sizeOf177
  v47 := Tryz.zeroValue177
  i47 := by kernel_rfl
  t48 := Tryz.underlying214
  a48 := Tryz.isAgg214
  z48 := Tryz.sizeOf214
  v48 := Tryz.zeroValue214
  i48 := by kernel_rfl
  t50 := Tryz.underlying216
  a50 := Tryz.isAgg216
  z50 := Tryz.sizeOf216
  v50 := Tryz.zeroValue216
  i50 := by kernel_rfl
  t52 := Tryz.underlying168
  a52 := Tryz.isAgg168
  z52 := Tryz.sizeOf168
  v52 := Tryz.zeroValue168
  i52 := by kernel_rfl
  t55 := Tryz.underlying171
  a55 := Tryz.isAgg171
  z55 := Tryz.sizeOf171
  v55 := Tryz.zeroValue171
  i55 := by kernel_rfl
  t59 := Tryz.underlying194
  a59 := Tryz.isAgg194
  z59 := Tryz.sizeOf194
  v59 := Tryz.zeroValue194
  i59 := by kernel_rfl
  t60 := Tryz.underlying59
  a60 := Tryz.isAgg59
  z60 := Tryz.sizeOf59
  v60 := Tryz.zeroValue59
  i60 := by kernel_rfl
  t61 := Tryz.underlying195
  a61 := Tryz.isAgg195
  z61 := Tryz.sizeOf195
  t65 := Tryz.underlying217
  a65 := Tryz.isAgg217
  z65 := Tryz.sizeOf217
  v65 := Tryz.zeroValue217
  i65 := by kernel_rfl
  t66 := Tryz.underlying218
  a66 := Tryz.isAgg218
  z66 := Tryz.sizeOf218
  v66 := Tryz.zeroValue218
  i66 := by kernel_rfl
  t67 := Tryz.underlying150
  a67 := Tryz.isAgg150
  z67 := Tryz.sizeOf150
  v67 := Tryz.zeroValue150
  i67 := by kernel_rfl
  g0 := by kernel_rfl
  m0 := by kernel_rfl
  g1 := by kernel_rfl
  m1 := by kernel_rfl
  g2 := by kernel_rfl
  m2 := by kernel_rfl
  g3 := by kernel_rfl
  m3 := by kernel_rfl
  g4 := by kernel_rfl
  m4 := by kernel_rfl }
open Go.RowKit in
theorem Sh.strings_CutPrefix (s p : ByteArray) (w : World) :
    Calls Tryz.prog 76 #[.string s, .string p] w fun e w' => e = .returned (.tuple #[.string ⟨(Lib.trimPrefix s.data.toList p.data.toList).toArray⟩, .bool (Lib.hasPrefix s.data.toList p.data.toList)]) ∧ w' = w := Any.strings_CutPrefix Sh.lays103 s p w
open Go.RowKit Go.Lib in
theorem Sh.stringslite_Index_one (s : ByteArray) (c : UInt8) (w : World) :
    Calls Tryz.prog 135 #[.string s, .string ⟨#[c]⟩] w fun e w' => e = .returned (.int .i64 (Lib.indexByte s.data.toList c)) ∧ w' = w := Any.stringslite_Index_one Sh.lays219 s c w
open Go.RowKit in
theorem Sh.strconv_ParseUint_10_at32_ok (s : ByteArray) (hmax : s.size ≤ 9223372036854775806) (u : Nat) (h : Lib.parseUintB 32 s.data.toList = .ok u) (w : World) :
    Calls Tryz.prog 112 #[.string s, .int .i64 10, .int .i64 32] w fun e w' => e = .returned (.tuple #[.int .u64 u, .nilIface]) ∧ (w' = w ∨ w' = Lib.bytesWorld w 5 s) := Any.strconv_ParseUint_10_at32_ok Sh.laysPu14 s hmax u h w
open Go.RowKit in
theorem Sh.strings_Trim_set (s cutset : ByteArray) (w : World) (hs : s.size ≤ 9223372036854775807) (hcs : cutset.size < 4294967281) (hascii : ∀ (j : Nat) b, cutset.data.toList[j]? = some b → b.toNat < 128) :
    Calls Tryz.prog 111 #[.string s, .string cutset] w fun e w' => e = .returned (.string ⟨(Lib.trimS s.data.toList cutset.data.toList).toArray⟩) ∧ Below w.heap.size w w' := Any.strings_Trim_laid Sh.lays160 (by kernel_rfl) s cutset w hs hcs hascii
end Go.Proofs.YtakaehdolpmelaaGreatDoor
namespace Go.Proofs.YtakaehdolpmelaaGreatDoor
open Go Go.RowKit
theorem wd_single {x : Nat} (h0 : x ≠ 0) (hx : x < 4294967296) : wd x = [(x : Int)] := by
  rw [wd_pos x h0, Nat.mod_eq_of_lt hx, Nat.div_eq_of_lt hx, wd_zero]
theorem grow_nil (x : Nat) (w : World) (hx : x < 4294967296) :
    Calls Tryz.prog 113 #[.slice none 0 0, .int .u32 1000000000, .int .u32 (x : Int)] w fun e w' => ∃ A c, e = .returned (.slice A (wd x).length c) ∧ Own w' w.heap.size A c (wd x) ∧ Ext w w' := by
  go_enter Tryz.func113, Tryz.ntmps113
  go_wp2_with fail
  go_loopw [7, 14] (fun c i wr => c = .int .u64 (x : Int) ∧ i = .int .i64 0 ∧ wr = w) (fun _ _ _ => 0)
  case atStart => exact ⟨rfl, rfl, rfl⟩
  case round =>
    obtain ⟨rfl, rfl, rfl⟩ := hrel
    by_cases h0 : x = 0
    · subst h0
      go_wp2_with fail
      go_ret
      rw [wd_zero]
      exact ⟨none, 0, rfl, Own.nil _ _, Ext.refl _⟩
    · have hb : decide ((x : Int) > 0) = true := decide_eq_true (by omega)
      have hp : 0 < x := by omega
      have E := Lib.hid (wd_single h0 hx)
      have HR := Lib.hid (Own.lit wr #[.int .u32 (x : Int)] [(x : Int)] rfl (by simp)).rd
      go_wp2_with (at_builtin; refine wpList_app rfl _ _ rfl wr.heap.size none 0 [] 0 rfl rfl (Own.nil _ _) _ _ [(x : Int)] 1 rfl rfl HR.out (by omega) (by simp) ?_; intro A' c' w1 hO hg)
      have HO := Lib.hid hO
      have HX := Lib.hid (((Ext.refl wr).alloc (.cells #[.int .u32 (x : Int)] 59)).grownNone hg)
      clear hO hg
      go_wp2_with fail
      go_ret
      refine ⟨A', c', ?_, ?_, HX.out⟩
      · rw [E.out]; rfl
      · rw [E.out]; exact HO.out
def dig10 : ByteArray := ⟨#[48, 49, 50, 51, 52, 53, 54, 55, 56, 57]⟩
theorem nl_of {s : ByteArray} (h : 0 < s.size) : ¬ s.toList = [] := fun e => by
  have h : ([] : List UInt8).length = s.size := by rw [← e, Lib.toList_data]; rfl
  simp at h
  omega
theorem ext_all (s : ByteArray) (k : Nat) (h : s.size = k) : s.extract 0 k = s := by
  subst h
  exact ByteArray.extract_zero_size
theorem ext_none (s : ByteArray) (k : Nat) (h : s.size = k) : s.extract k s.size = ⟨#[]⟩ := by
  refine Go.WideShapes.bytes_inj ?_
  rw [Lib.extract_data, h, Nat.sub_self, List.take_zero]
theorem bw_ext {w w' : World} {s : ByteArray} (h : w' = w ∨ w' = Lib.bytesWorld w 5 s) : Ext w w' := by
  rcases h with rfl | rfl
  · exact Ext.refl _
  · exact Lib.bytesWorld_below _ _ _
theorem nparse_small (s : ByteArray) (n : Nat) (w : World) (h0 : 0 < s.size) (h9 : s.size ≤ 9) (ht : Lib.trimS s.data.toList dig10.data.toList = []) (hz : (s.get! 0).toNat ≠ 48 ∨ s.size = 1) (hp : Lib.parseUintB 32 s.data.toList = .ok n) :
    Calls Tryz.prog 77 #[.string s] w fun e w' => ∃ A c, e = .returned (.tuple #[.slice A (wd n).length c, .int .i64 0]) ∧ Own w' w.heap.size A c (wd n) ∧ Ext w w' := by
  have HT := Lib.hid ht
  have HP := Lib.hid hp
  have hn : n ≤ 4294967295 := Lib.parseUintB_le hp
  clear ht hp
  have hnb : (s.toList == ByteArray.toList ⟨#[]⟩) = false := by rw [ba_0]; exact decide_eq_false (by omega)
  have hnl : ¬ s.toList = [] := fun e => by
    have h : ([] : List UInt8).length = s.size := by rw [← e, Lib.toList_data]; rfl
    simp at h
    omega
  have hni : s.toList.isEmpty = false := by simpa using hnl
  go_enter Tryz.func77, Tryz.ntmps77
  go_wp2_with fail
  refine (Sh.strings_Trim_set s dig10 w (by omega) (by decide) (fun j b hb => (show ∀ b ∈ dig10.data.toList, b.toNat < 128 by decide) b (List.mem_of_getElem? hb))).mono ?_; rintro e w1 ⟨rfl, hx1⟩
  rw [HT.out]
  have HX1 := Lib.hid hx1
  clear hx1
  obtain ⟨c0, hc0, hc1⟩ : ∃ c0 : UInt8, s[0]? = some c0 ∧ s.get! 0 = c0 := by
    refine ⟨s.get! 0, ?_, rfl⟩
    rw [getElem?_pos s 0 h0]
    obtain ⟨d⟩ := s
    have hj' : 0 < d.size := h0
    show some d[0] = some d[0]!
    rw [getElem!_pos d 0 hj']
  have hgo : (¬ c0.toNat = 48) ∨ s.size ≤ 1 := by
    rw [hc1] at hz
    rcases hz with hz | hz
    · exact .inl hz
    · exact .inr (by omega)
  clear hz hc1
  have hge : s[0]'h0 = c0 := by
    rw [getElem?_pos s 0 h0] at hc0
    exact Option.some.inj hc0
  rcases hgo with hq | hq
  · have hqb : ¬ ((c0.toNat : Int) = 48) := by omega
    have hqc : (((c0.toNat : Int)) == 48) = false := beq_eq_false_iff_ne.2 hqb
    go_wp2_with fail
    clear hnb hnl hni hc0 hge
    go_loopg [0, 4] 1 (fun k t q wr => (k = 1 ∧ t = .string s ∧ q = .slice none 0 0 ∧ Hid (Ext w wr)) ∨ (k = 0 ∧ t = .string ⟨#[]⟩ ∧ ∃ A c, q = .slice A (wd n).length c ∧ Hid (Own wr w.heap.size A c (wd n)) ∧ Hid (Ext w wr)))
    case atStart => exact .inl ⟨rfl, rfl, rfl, HX1.out⟩
    case round =>
      clear HX1
      rcases hrel with ⟨hk, rfl, rfl, HX⟩ | ⟨hk, rfl, A, c, rfl, HO, HX⟩
      · have hnb : (s.toList == ByteArray.toList ⟨#[]⟩) = false := by rw [ba_0]; exact decide_eq_false (by omega)
        have hnl : ¬ s.toList = [] := nl_of h0
        have hni : s.toList.isEmpty = false := by simpa using hnl
        by_cases h99 : s.size = 9
        · have hex := Lib.hid (ext_all s 9 h99)
          have hex2 := Lib.hid (ext_none s 9 h99)
          have hm : s.size % 9 = 0 := by rw [h99]
          have h9' : 9 ≤ s.size := by omega
          clear h99
          go_wp2_with fail
          try rw [hex.out]
          refine (Sh.strconv_ParseUint_10_at32_ok s (by omega) n HP.out _).mono ?_; rintro e w2 ⟨rfl, hw⟩
          have HX2 := Lib.hid (HX.out.trans (bw_ext hw))
          clear hw
          go_wp2_with fail
          refine (grow_nil n _ (by omega)).mono ?_; rintro e w3 ⟨A, c, rfl, HO, hx⟩
          have HO3 := Lib.hid (HO.lower HX2.out.size)
          have HX3 := Lib.hid (HX2.out.trans hx)
          clear HO hx
          go_wp2_with fail
          go_roundg 0
          case measure => omega
          case rel => exact .inr ⟨rfl, by first | rfl | rw [hex2.out] | rw [hm, hex2.out], A, c, rfl, HO3.out, HX3.out⟩
        · have hex := Lib.hid (ext_all s s.size rfl)
          have hex2 := Lib.hid (ext_none s s.size rfl)
          have hm : s.size % 9 = s.size := Nat.mod_eq_of_lt (by omega)
          have hz0 : ((s.size : Int) == 0) = false := beq_eq_false_iff_ne.2 (by omega)
          go_wp2_with fail
          try rw [hex.out]
          refine (Sh.strconv_ParseUint_10_at32_ok s (by omega) n HP.out _).mono ?_; rintro e w2 ⟨rfl, hw⟩
          have HX2 := Lib.hid (HX.out.trans (bw_ext hw))
          clear hw
          go_wp2_with fail
          refine (grow_nil n _ (by omega)).mono ?_; rintro e w3 ⟨A, c, rfl, HO, hx⟩
          have HO3 := Lib.hid (HO.lower HX2.out.size)
          have HX3 := Lib.hid (HX2.out.trans hx)
          clear HO hx
          go_wp2_with fail
          go_roundg 0
          case measure => omega
          case rel => exact .inr ⟨rfl, by first | rfl | rw [hex2.out] | rw [hm, hex2.out], A, c, rfl, HO3.out, HX3.out⟩
      · go_wp2_with fail
        refine (told_ok A (wd n) c w.heap.size _ _ HO.out rfl (wf_wd n) n (val_wd n) (by have := wd_len_le n 1 (by show (n : Int) < 4294967296; omega); omega)).mono ?_; rintro e w3 ⟨rfl, HO2, rfl⟩
        go_wp2_with fail
        go_ret2
        exact ⟨A, c, rfl, HO2, HX.out⟩
  · by_cases hqz : c0.toNat = 48
    · have hqb : ((c0.toNat : Int) = 48) := by omega
      have hqc : (((c0.toNat : Int)) == 48) = true := beq_iff_eq.2 hqb
      go_wp2_with fail
      clear hnb hnl hni hc0 hge
      go_loopg [0, 4] 1 (fun k t q wr => (k = 1 ∧ t = .string s ∧ q = .slice none 0 0 ∧ Hid (Ext w wr)) ∨ (k = 0 ∧ t = .string ⟨#[]⟩ ∧ ∃ A c, q = .slice A (wd n).length c ∧ Hid (Own wr w.heap.size A c (wd n)) ∧ Hid (Ext w wr)))
      case atStart => exact .inl ⟨rfl, rfl, rfl, HX1.out⟩
      case round =>
        clear HX1
        rcases hrel with ⟨hk, rfl, rfl, HX⟩ | ⟨hk, rfl, A, c, rfl, HO, HX⟩
        · have hnb : (s.toList == ByteArray.toList ⟨#[]⟩) = false := by rw [ba_0]; exact decide_eq_false (by omega)
          have hnl : ¬ s.toList = [] := nl_of h0
          have hni : s.toList.isEmpty = false := by simpa using hnl
          by_cases h99 : s.size = 9
          · exact absurd h99 (by omega)
          · have hex := Lib.hid (ext_all s s.size rfl)
            have hex2 := Lib.hid (ext_none s s.size rfl)
            have hm : s.size % 9 = s.size := Nat.mod_eq_of_lt (by omega)
            have hz0 : ((s.size : Int) == 0) = false := beq_eq_false_iff_ne.2 (by omega)
            go_wp2_with fail
            try rw [hex.out]
            refine (Sh.strconv_ParseUint_10_at32_ok s (by omega) n HP.out _).mono ?_; rintro e w2 ⟨rfl, hw⟩
            have HX2 := Lib.hid (HX.out.trans (bw_ext hw))
            clear hw
            go_wp2_with fail
            refine (grow_nil n _ (by omega)).mono ?_; rintro e w3 ⟨A, c, rfl, HO, hx⟩
            have HO3 := Lib.hid (HO.lower HX2.out.size)
            have HX3 := Lib.hid (HX2.out.trans hx)
            clear HO hx
            go_wp2_with fail
            go_roundg 0
            case measure => omega
            case rel => exact .inr ⟨rfl, by first | rfl | rw [hex2.out] | rw [hm, hex2.out], A, c, rfl, HO3.out, HX3.out⟩
        · go_wp2_with fail
          refine (told_ok A (wd n) c w.heap.size _ _ HO.out rfl (wf_wd n) n (val_wd n) (by have := wd_len_le n 1 (by show (n : Int) < 4294967296; omega); omega)).mono ?_; rintro e w3 ⟨rfl, HO2, rfl⟩
          go_wp2_with fail
          go_ret2
          exact ⟨A, c, rfl, HO2, HX.out⟩
    · have hqb : ¬ ((c0.toNat : Int) = 48) := by omega
      have hqc : (((c0.toNat : Int)) == 48) = false := beq_eq_false_iff_ne.2 hqb
      go_wp2_with fail
      clear hnb hnl hni hc0 hge
      go_loopg [0, 4] 1 (fun k t q wr => (k = 1 ∧ t = .string s ∧ q = .slice none 0 0 ∧ Hid (Ext w wr)) ∨ (k = 0 ∧ t = .string ⟨#[]⟩ ∧ ∃ A c, q = .slice A (wd n).length c ∧ Hid (Own wr w.heap.size A c (wd n)) ∧ Hid (Ext w wr)))
      case atStart => exact .inl ⟨rfl, rfl, rfl, HX1.out⟩
      case round =>
        clear HX1
        rcases hrel with ⟨hk, rfl, rfl, HX⟩ | ⟨hk, rfl, A, c, rfl, HO, HX⟩
        · have hnb : (s.toList == ByteArray.toList ⟨#[]⟩) = false := by rw [ba_0]; exact decide_eq_false (by omega)
          have hnl : ¬ s.toList = [] := nl_of h0
          have hni : s.toList.isEmpty = false := by simpa using hnl
          by_cases h99 : s.size = 9
          · exact absurd h99 (by omega)
          · have hex := Lib.hid (ext_all s s.size rfl)
            have hex2 := Lib.hid (ext_none s s.size rfl)
            have hm : s.size % 9 = s.size := Nat.mod_eq_of_lt (by omega)
            have hz0 : ((s.size : Int) == 0) = false := beq_eq_false_iff_ne.2 (by omega)
            go_wp2_with fail
            try rw [hex.out]
            refine (Sh.strconv_ParseUint_10_at32_ok s (by omega) n HP.out _).mono ?_; rintro e w2 ⟨rfl, hw⟩
            have HX2 := Lib.hid (HX.out.trans (bw_ext hw))
            clear hw
            go_wp2_with fail
            refine (grow_nil n _ (by omega)).mono ?_; rintro e w3 ⟨A, c, rfl, HO, hx⟩
            have HO3 := Lib.hid (HO.lower HX2.out.size)
            have HX3 := Lib.hid (HX2.out.trans hx)
            clear HO hx
            go_wp2_with fail
            go_roundg 0
            case measure => omega
            case rel => exact .inr ⟨rfl, by first | rfl | rw [hex2.out] | rw [hm, hex2.out], A, c, rfl, HO3.out, HX3.out⟩
        · go_wp2_with fail
          refine (told_ok A (wd n) c w.heap.size _ _ HO.out rfl (wf_wd n) n (val_wd n) (by have := wd_len_le n 1 (by show (n : Int) < 4294967296; omega); omega)).mono ?_; rintro e w3 ⟨rfl, HO2, rfl⟩
          go_wp2_with fail
          go_ret2
          exact ⟨A, c, rfl, HO2, HX.out⟩
theorem rv_str {Z : Nat → Prop} {w : World} {x : ByteArray} {v : Value} (h : RV Z w .st x v) : v = .string x ∧ x.size ≤ maxI := by
  unfold RV at h
  rw [if_neg (by simp [Ty.agg]), RT] at h
  exact ⟨by simpa using h.1, h.2⟩
theorem rq_str {Z : Nat → Prop} {w : World} {base : Nat} {x : ByteArray} (h : x.size ≤ maxI) : RQ true Z w base .st x [.string x] [] := by
  refine ⟨?_, rfl⟩
  rw [RT]
  exact ⟨rfl, h⟩
theorem rq_bool {Z : Nat → Prop} {w : World} {base : Nat} {b : Bool} : RQ true Z w base .bo b [.bool b] [] := by
  refine ⟨?_, rfl⟩
  rw [RT]
def ixB (s p : ByteArray) : Int := Lib.indexByte s.data.toList (p.get! 0)
def sp_sIdx : Spec := { q := .un, ps := [.st, .st], rs := [.it .i64], fresh := true, pre := fun _ x => some (ByteArray.size x.2.1 = 1), post := fun _ x => ((), (ixB x.1 x.2.1, ())) }
theorem ib_rng : ∀ (l : List UInt8) (c : UInt8), Lib.indexByte l c = -1 ∨ (0 ≤ Lib.indexByte l c ∧ Lib.indexByte l c < l.length)
  | [], c => .inl rfl
  | b :: l, c => by
    have ih := ib_rng l c
    unfold Lib.indexByte
    by_cases h : (b == c) = true
    · rw [if_pos h]
      exact .inr ⟨by omega, by simp only [List.length_cons]; omega⟩
    · rw [if_neg h]
      by_cases k : (Lib.indexByte l c == -1) = true
      · rw [if_pos k]
        exact .inl rfl
      · rw [if_neg k]
        rcases ih with ih | ih
        · exact absurd (by rw [ih]; rfl) k
        · exact .inr ⟨by omega, by simp only [List.length_cons]; omega⟩
theorem ixB_rng (s p : ByteArray) : ixB s p = -1 ∨ (0 ≤ ixB s p ∧ ixB s p < s.size) := by
  have := ib_rng s.data.toList (p.get! 0)
  have e : s.data.toList.length = s.size := by simp
  rw [e] at this
  exact this
theorem one_byte {p : ByteArray} (h : p.size = 1) : p = ⟨#[p.get! 0]⟩ := by
  obtain ⟨⟨l⟩⟩ := p
  match l, h with
  | [c], _ => rfl
theorem fo_sIdx : FnOk Tryz.prog 135 sp_sIdx := by
  refine ⟨callFunc_enter Tryz.func135 (by kernel_rfl) rfl, fun Z w gv vs y x hZ hv hp _ _ => ?_⟩
  obtain ⟨s, p, u⟩ := x
  match vs, hv with
  | [v1, v2], ⟨h1, h2, _⟩ =>
    have hp : ByteArray.size p = 1 := hp
    obtain ⟨rfl, s1⟩ := rv_str h1
    obtain ⟨rfl, s2⟩ := rv_str h2
    have e := one_byte hp
    have := Sh.stringslite_Index_one s (p.get! 0) w
    rw [← e] at this
    refine this.mono fun e w' ⟨e1, e2⟩ => ?_
    subst e1 e2
    refine told_new (S := sp_sIdx) (r := (ixB s p, ())) (us := [_]) (bs := []) rfl rfl (.inl ⟨_, rfl, rfl⟩) hZ ⟨[], [], rfl, ⟨?_, rfl⟩, rfl⟩ List.nodup_nil (fun g hg => by simp at hg) (Ext.refl _)
    rw [RT]
    have r := ixB_rng s p
    have m : IntKind.i64.min = -9223372036854775808 := rfl
    have m' : IntKind.i64.max = 9223372036854775807 := rfl
    have m2 : s.size ≤ 9223372036854775807 := s1
    refine ⟨rfl, ?_, ?_⟩
    · show _ ≤ ixB s p
      omega
    · show ixB s p ≤ _
      omega
def cutP (s p : ByteArray) : ByteArray × Bool := (⟨(Lib.trimPrefix s.data.toList p.data.toList).toArray⟩, Lib.hasPrefix s.data.toList p.data.toList)
def sp_sCutP : Spec := { q := .un, ps := [.st, .st], rs := [.st, .bo], fresh := true, pre := fun _ _ => none, post := fun _ x => ((), ((cutP x.1 x.2.1).1, (cutP x.1 x.2.1).2, ())) }
theorem cutP_size (s p : ByteArray) : (cutP s p).1.size ≤ s.size := by
  have := Lib.trimPrefix_le s.data.toList p.data.toList
  show (Lib.trimPrefix s.data.toList p.data.toList).toArray.size ≤ s.data.size
  simpa using this
theorem fo_sCutP : FnOk Tryz.prog 76 sp_sCutP := by
  refine ⟨callFunc_enter Tryz.func76 (by kernel_rfl) rfl, fun Z w gv vs y x hZ hv hp _ _ => ?_⟩
  obtain ⟨s, p, u⟩ := x
  match vs, hv with
  | [v1, v2], ⟨h1, h2, _⟩ =>
    obtain ⟨rfl, s1⟩ := rv_str h1
    obtain ⟨rfl, s2⟩ := rv_str h2
    refine (Sh.strings_CutPrefix s p w).mono fun e w' ⟨e1, e2⟩ => ?_
    subst e1 e2
    exact told_new (S := sp_sCutP) (r := ((cutP s p).1, (cutP s p).2, ())) (us := [_, _]) (bs := []) rfl rfl (.inr ⟨by simp, rfl⟩) hZ ⟨[], [], rfl, rq_str (base := w'.heap.size) (Nat.le_trans (cutP_size s p) s1), [], [], rfl, rq_bool (base := w'.heap.size), rfl⟩ List.nodup_nil (fun g hg => by simp at hg) (Ext.refl _)
def pV (s : ByteArray) : Nat := match Lib.parseUintB 32 s.data.toList with
  | .ok n => n
  | _ => 0
def pOk (s : ByteArray) : Bool := decide (0 < s.size ∧ s.size ≤ 9) && decide (Lib.trimS s.data.toList dig10.data.toList = []) && (decide ((s.get! 0).toNat ≠ 48) || decide (s.size = 1)) && (match Lib.parseUintB 32 s.data.toList with
  | .ok _ => true
  | _ => false)
theorem pOk_of {s : ByteArray} (h : pOk s = true) : 0 < s.size ∧ s.size ≤ 9 ∧ Lib.trimS s.data.toList dig10.data.toList = [] ∧ ((s.get! 0).toNat ≠ 48 ∨ s.size = 1) ∧ Lib.parseUintB 32 s.data.toList = .ok (pV s) := by
  unfold pOk at h
  simp only [Bool.and_eq_true, Bool.or_eq_true, decide_eq_true_eq] at h
  obtain ⟨⟨⟨h1, h2⟩, h3⟩, h4⟩ := h
  refine ⟨h1.1, h1.2, h2, h3, ?_⟩
  unfold pV
  cases hc : Lib.parseUintB 32 s.data.toList with
  | ok n => rfl
  | «syntax» => rw [hc] at h4; cases h4
  | range => rw [hc] at h4; cases h4
def sp_aParse : Spec := { q := .un, ps := [.st], rs := [tW32, .it .i64], fresh := true, pre := fun _ x => some (pOk x.1 = true), post := fun _ x => ((), (wd (pV x.1), 0, ())) }
theorem fo_aParse : FnOk Tryz.prog 77 sp_aParse := by
  refine ⟨callFunc_enter Tryz.func77 (by kernel_rfl) rfl, fun Z w gv vs y x hZ hv hp _ _ => ?_⟩
  obtain ⟨s, u⟩ := x
  match vs, hv with
  | [v1], ⟨h1, _⟩ =>
    obtain ⟨p1, p2, p3, p4, p5⟩ := pOk_of (show pOk s = true from hp)
    obtain ⟨rfl, s1⟩ := rv_str h1
    refine (nparse_small s (pV s) w p1 p2 p3 p4 p5).mono fun e w' ⟨A, c, e1, e2, e3⟩ => ?_
    subst e1
    exact told_WE (S := sp_aParse) rfl rfl rfl Er.zero e2 e3 hZ rfl
end Go.Proofs.YtakaehdolpmelaaGreatDoor
