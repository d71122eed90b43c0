/- Texts of this claim, joined: Q1 P17 E8 Q2 O1. -/
import Derived.Lib.IndexLaws
import Derived.ProofKit
import Derived.OpenShut
import Derived.ChangeOld
import Derived.Below
import Derived.Lib.SmallJoins
import Derived.Deep.Slices
import Derived.Deep.Fields
import Derived.ChangeSame
import Derived.Test.YtemlaompalbgiaaGreatDoorQs
set_option linter.unusedVariables false
set_option linter.unusedSimpArgs false
set_option maxRecDepth 100000
namespace Go.Proofs.YtemlaompalbgiaaGreatDoor
open Go Go.RowKit
def txG (f : Fr) : ByteArray := if toN f.den = 1 then (if f.neg = true then ⟨#[45]⟩ ++ dcB (toN f.num) else dcB (toN f.num)) else (if f.neg = true then ⟨#[45]⟩ ++ dcB (toN f.num) else dcB (toN f.num)) ++ (⟨#[47]⟩ ++ dcB (toN f.den))
def prR (f : Fr) : ByteArray × Int × Unit := if fchk f = 0 then (txG f, 0, ()) else (⟨#[]⟩, fchk f, ())
theorem fchk_ln {f : Fr} (h : fchk f = 0) : f.num.length ≤ 2048 ∧ f.den.length ≤ 2048 := by
  unfold fchk at h
  split at h
  · cases h
  · split at h
    · cases h
    · constructor <;> omega
theorem dcW {l : List Int} (h : nrm l) (k : l.length ≤ 2048) : (dcB (toN l)).size ≤ 20480 := by
  rw [dcB_size]
  exact dec_words 2047 (toN l) (Nat.le_trans (Nat.le_of_eq (congrArg List.length h.symm)) k)
theorem prR_ok {f : Fr} (h : fchk f = 0) : prR f = (txG f, 0, ()) := if_pos h
theorem prR_bad {f : Fr} (h : fchk f ≠ 0) : prR f = (⟨#[]⟩, fchk f, ()) := if_neg h
theorem txG_1n {f : Fr} (h : toN f.den = 1) (k : f.neg = true) : txG f = ⟨#[45]⟩ ++ dcB (toN f.num) := (if_pos h).trans (if_pos k)
theorem txG_1p {f : Fr} (h : toN f.den = 1) (k : f.neg = false) : txG f = dcB (toN f.num) := (if_pos h).trans (if_neg (by rw [k]; decide))
theorem txG_2n {f : Fr} (h : toN f.den ≠ 1) (k : f.neg = true) : txG f = ⟨#[45]⟩ ++ dcB (toN f.num) ++ (⟨#[47]⟩ ++ dcB (toN f.den)) := by
  unfold txG
  rw [if_neg h, if_pos k]
theorem txG_2p {f : Fr} (h : toN f.den ≠ 1) (k : f.neg = false) : txG f = dcB (toN f.num) ++ (⟨#[47]⟩ ++ dcB (toN f.den)) := by
  unfold txG
  rw [if_neg h, if_neg (by rw [k]; decide)]
theorem sz_1 (b : ByteArray) (h : b.size ≤ 20480) : (⟨#[45]⟩ : ByteArray).size + b.size ≤ 9223372036854775807 := by
  have : (⟨#[45]⟩ : ByteArray).size = 1 := rfl
  omega
theorem sz_2 (b : ByteArray) (h : b.size ≤ 20480) : (⟨#[47]⟩ : ByteArray).size + b.size ≤ 9223372036854775807 := by
  have : (⟨#[47]⟩ : ByteArray).size = 1 := rfl
  omega
theorem sz_3 (a b : ByteArray) (h : a.size ≤ 20480) (k : b.size ≤ 20480) : (⟨#[45]⟩ ++ a : ByteArray).size + (⟨#[47]⟩ ++ b : ByteArray).size ≤ 9223372036854775807 := by
  rw [ByteArray.size_append, ByteArray.size_append]
  have : (⟨#[45]⟩ : ByteArray).size = 1 := rfl
  have : (⟨#[47]⟩ : ByteArray).size = 1 := rfl
  omega
theorem sz_4 (a b : ByteArray) (h : a.size ≤ 20480) (k : b.size ≤ 20480) : a.size + (⟨#[47]⟩ ++ b : ByteArray).size ≤ 9223372036854775807 := by
  rw [ByteArray.size_append]
  have : (⟨#[47]⟩ : ByteArray).size = 1 := rfl
  omega
noncomputable def sp_rPrintG : Spec := { q := .un, ps := [tR], rs := [.st, .it .i64], fresh := true, pre := fun _ _ => none, post := fun _ x => ((), prR (toFr x.1)) }
noncomputable def iv_rPrintG (y : El sp_rPrintG.q) (x : Els sp_rPrintG.ps) : Nat → Option Inv := fun _ => none
noncomputable abbrev c_rPrintG : Cfg := cfgS (Tryz.f50).ntmps false [(58, sp_rCheck.prim), (121, sp_aPrintG.prim), (122, sp_aCmp.prim)]
def F_rPrintG (y : El sp_rPrintG.q) (x : Els sp_rPrintG.ps) : Prop :=
  ∀ (r : Ro [Ty.it IntKind.i64]), r = ((), fchk (toFr x.1), ()) → ((r.2.1 != (0 : Int)) = true → ((⟨#[]⟩ : ByteArray), r.2) = prR (toFr x.1)) ∧ ((r.2.1 != (0 : Int)) = false → (x.1.2.1 = wd (toN x.1.2.1) ∧ List.length x.1.2.1 ≤ (2048 : Nat)) ∧ ∀ (r : Ro [Ty.st, Ty.it IntKind.i64]), r = ((), dcB (toN x.1.2.1), (0 : El (Ty.it IntKind.i64)), ()) → (x.1.1 = true → (⟨#[(45 : UInt8)]⟩ : ByteArray).size + ByteArray.size r.2.1 ≤ (9223372036854775807 : Nat) ∧ (x.1.2.2.1 = wd (toN x.1.2.2.1) ∧ [(1 : Int)] = wd (toN [(1 : Int)])) ∧ ∀ (r_1 : Ro [Ty.it IntKind.i64]), r_1 = ((), cmp (toN x.1.2.2.1) (toN [(1 : Int)]), ()) → ((r_1.2.1 != (0 : Int)) = true → (x.1.2.2.1 = wd (toN x.1.2.2.1) ∧ List.length x.1.2.2.1 ≤ (2048 : Nat)) ∧ ∀ (r_2 : Ro [Ty.st, Ty.it IntKind.i64]), r_2 = ((), dcB (toN x.1.2.2.1), (0 : El (Ty.it IntKind.i64)), ()) → (⟨#[(47 : UInt8)]⟩ : ByteArray).size + ByteArray.size r_2.2.1 ≤ (9223372036854775807 : Nat) ∧ ((⟨#[(45 : UInt8)]⟩ : ByteArray) ++ r.2.1).size + ((⟨#[(47 : UInt8)]⟩ : ByteArray) ++ r_2.2.1).size ≤ (9223372036854775807 : Nat) ∧ ((⟨#[(45 : UInt8)]⟩ : ByteArray) ++ r.2.1 ++ ((⟨#[(47 : UInt8)]⟩ : ByteArray) ++ r_2.2.1), (0 : Int), ()) = prR (toFr x.1)) ∧ ((r_1.2.1 != (0 : Int)) = false → ((⟨#[(45 : UInt8)]⟩ : ByteArray) ++ r.2.1, (0 : Int), ()) = prR (toFr x.1))) ∧ (x.1.1 = false → (x.1.2.2.1 = wd (toN x.1.2.2.1) ∧ [(1 : Int)] = wd (toN [(1 : Int)])) ∧ ∀ (r_1 : Ro [Ty.it IntKind.i64]), r_1 = ((), cmp (toN x.1.2.2.1) (toN [(1 : Int)]), ()) → ((r_1.2.1 != (0 : Int)) = true → (x.1.2.2.1 = wd (toN x.1.2.2.1) ∧ List.length x.1.2.2.1 ≤ (2048 : Nat)) ∧ ∀ (r_2 : Ro [Ty.st, Ty.it IntKind.i64]), r_2 = ((), dcB (toN x.1.2.2.1), (0 : El (Ty.it IntKind.i64)), ()) → (⟨#[(47 : UInt8)]⟩ : ByteArray).size + ByteArray.size r_2.2.1 ≤ (9223372036854775807 : Nat) ∧ ByteArray.size r.2.1 + ((⟨#[(47 : UInt8)]⟩ : ByteArray) ++ r_2.2.1).size ≤ (9223372036854775807 : Nat) ∧ (r.2.1 ++ ((⟨#[(47 : UInt8)]⟩ : ByteArray) ++ r_2.2.1), (0 : Int), ()) = prR (toFr x.1)) ∧ ((r_1.2.1 != (0 : Int)) = false → (r.2.1, (0 : Int), ()) = prR (toFr x.1))))
theorem w_rPrintG (y : El sp_rPrintG.q) (x : Els sp_rPrintG.ps) : aW c_rPrintG (iv_rPrintG y x) Tryz.f50 sp_rPrintG y x = F_rPrintG y x := by kernel_rfl
theorem m_rPrintG (y : El (.un)) (x : Els [tR]) (h2 : wfE (.un) y) (h3 : wfEs [tR] x) : F_rPrintG y x := by
  unfold F_rPrintG
  rintro _ rfl
  refine ⟨fun h => (prR_bad (neT h)).symm, fun h => ?_⟩
  have q0 : fchk (toFr x.1) = 0 := neF h
  obtain ⟨n1, n2⟩ := nrm_of (wf_fr h3.1) q0
  obtain ⟨l1, l2⟩ := fchk_ln q0
  have w1 := dcW n1 l1
  have w2 := dcW n2 l2
  refine ⟨⟨n1, l1⟩, ?_⟩
  rintro _ rfl
  refine ⟨fun hn => ⟨sz_1 _ w1, ⟨n2, nrm_1⟩, ?_⟩, fun hn => ⟨⟨n2, nrm_1⟩, ?_⟩⟩
  · rintro _ rfl
    refine ⟨fun hd => ⟨⟨n2, l2⟩, ?_⟩, fun hd => ?_⟩
    · have hd := cmp1_T hd
      rintro _ rfl
      exact ⟨sz_2 _ w2, sz_3 _ _ w1 w2, ((prR_ok q0).trans (congrArg (fun b => (b, (0 : Int), ())) (txG_2n hd hn))).symm⟩
    · have hd := cmp1_F hd
      exact ((prR_ok q0).trans (congrArg (fun b => (b, (0 : Int), ())) (txG_1n hd hn))).symm
  · rintro _ rfl
    refine ⟨fun hd => ⟨⟨n2, l2⟩, ?_⟩, fun hd => ?_⟩
    · have hd := cmp1_T hd
      rintro _ rfl
      exact ⟨sz_2 _ w2, sz_4 _ _ w1 w2, ((prR_ok q0).trans (congrArg (fun b => (b, (0 : Int), ())) (txG_2p hd hn))).symm⟩
    · have hd := cmp1_F hd
      exact ((prR_ok q0).trans (congrArg (fun b => (b, (0 : Int), ())) (txG_1p hd hn))).symm
theorem fo_rPrintG : FnOk Tryz.prog 50 sp_rPrintG := fnOk_of (C := c_rPrintG) iv_rPrintG Tryz.func50 rfl (by kernel_rfl) tys_ok (prims_cons (spec_prim fo_rCheck) (prims_cons (spec_prim fo_aPrintG) (prims_cons (spec_prim fo_aCmp) prims_nil))) mixed_ (Nat.le_refl _) rfl fun y x h1 h2 h3 h4 =>
  Eq.mpr (w_rPrintG y x) (m_rPrintG y x h2 h3)
def nV (s : ByteArray) : Nat := decV s.data.toList
def denG (s : ByteArray) : Nat := bif (cutB s b_sl).2.2 then nV (cutB s b_sl).2.1 else 1
def okRG (s : ByteArray) : Bool := canD (topR s).1.data.toList && !((topR s).2 && decide (nV (topR s).1 = 0)) && (bif (cutB s b_sl).2.2 then canD (cutB s b_sl).2.1.data.toList && decide (1 < nV (cutB s b_sl).2.1) else true) && decide (Nat.gcd (nV (topR s).1) (denG s) = 1)
def parRG (s : ByteArray) : Fr × Int := if 65536 < s.size then (Fr.zero, 3) else if okRG s = true then (⟨(topR s).2, wd (nV (topR s).1), wd (denG s)⟩, 0) else (Fr.zero, 130)
theorem okRG_un {s : ByteArray} (h : okRG s = true) : canD (topR s).1.data.toList = true ∧ ((topR s).2 = true → nV (topR s).1 ≠ 0) ∧ ((cutB s b_sl).2.2 = true → canD (cutB s b_sl).2.1.data.toList = true ∧ 1 < nV (cutB s b_sl).2.1) ∧ Nat.gcd (nV (topR s).1) (denG s) = 1 := by
  unfold okRG at h
  simp only [Bool.and_eq_true, decide_eq_true_eq] at h
  obtain ⟨⟨⟨h2, h3⟩, h4⟩, h5⟩ := h
  refine ⟨h2, fun hn hz => ?_, fun hb => ?_, h5⟩
  · rw [hn, decide_eq_true hz] at h3
    cases h3
  · rw [hb] at h4
    simp only [cond_true, Bool.and_eq_true, decide_eq_true_eq] at h4
    exact h4
theorem okRG_mk {s : ByteArray} (h2 : canD (topR s).1.data.toList = true) (h3 : (topR s).2 = true → nV (topR s).1 ≠ 0) (h4 : (cutB s b_sl).2.2 = true → canD (cutB s b_sl).2.1.data.toList = true ∧ 1 < nV (cutB s b_sl).2.1) (h5 : Nat.gcd (nV (topR s).1) (denG s) = 1) : okRG s = true := by
  unfold okRG
  simp only [Bool.and_eq_true, decide_eq_true_eq]
  refine ⟨⟨⟨h2, ?_⟩, ?_⟩, h5⟩
  · cases hn : (topR s).2 with
    | false => rfl
    | true => rw [decide_eq_false (h3 hn)]; rfl
  · cases hb : (cutB s b_sl).2.2 with
    | false => rfl
    | true =>
      simp only [cond_true, Bool.and_eq_true, decide_eq_true_eq]
      exact h4 hb
theorem pg_long {s : ByteArray} (h : 65536 < s.size) : parRG s = (Fr.zero, 3) := if_pos h
theorem pg_bad {s : ByteArray} (h : s.size ≤ 3000) (k : ¬ okRG s = true) : parRG s = (Fr.zero, 130) := (if_neg (by omega)).trans (if_neg k)
theorem pg_ok {s : ByteArray} (h : s.size ≤ 3000) (k : okRG s = true) : parRG s = (⟨(topR s).2, wd (nV (topR s).1), wd (denG s)⟩, 0) := (if_neg (by omega)).trans (if_pos k)
theorem cut_sz (s p : ByteArray) : (cutB s p).1.size ≤ s.size ∧ (cutB s p).2.1.size ≤ s.size := by
  unfold cutB
  split
  · refine ⟨?_, ?_⟩
    all_goals
      dsimp only
      rw [← ba_len, ex_list, List.length_take, List.length_drop, ba_len]
      omega
  · exact ⟨Nat.le_refl _, Nat.zero_le _⟩
theorem dec_wds9 {l : List UInt8} {j : Nat} (h : l.all isD = true) (hl : l.length ≤ 9 * j) : (wd (decV l)).length ≤ j := by
  refine wd_len_le _ j ?_
  have h1 := decV_lt h
  have h2 : 10 ^ l.length ≤ 10 ^ (9 * j) := Nat.pow_le_pow_right (by decide) hl
  have h3 : (10 ^ 9) ^ j ≤ 4294967296 ^ j := Nat.pow_le_pow_left (by decide) j
  rw [← Nat.pow_mul] at h3
  have h4 : pw j = ((4294967296 ^ j : Nat) : Int) := by unfold pw; rw [Int.natCast_pow]; rfl
  omega
theorem can_wds {s : ByteArray} (h : s.size ≤ 3000) (k : canD s.data.toList = true) : (wd (nV s)).length ≤ 2048 := Nat.le_trans (dec_wds9 (j := 334) (can_all k) (by rw [ba_len]; omega)) (by decide)
theorem cmp_le1 {v : Nat} (h : ¬ 1 < v) : (cmp (toN (wd v)) (toN [1]) : Int) ≤ 0 := by
  rw [toN_wd, toN_1]
  unfold cmp
  repeat' split
  all_goals first | decide | omega
noncomputable def sp_rParseG : Spec := { q := .un, ps := [.st], rs := [tR, .it .i64], fresh := true, pre := fun _ x => some (ByteArray.size x.1 ≤ 3000 ∨ 65536 < ByteArray.size x.1), post := fun _ x => pR (parRG x.1) }
noncomputable def iv_rParseG (y : El sp_rParseG.q) (x : Els sp_rParseG.ps) : Nat → Option Inv := fun _ => none
noncomputable abbrev c_rParseG : Cfg := cfgS (Tryz.f52).ntmps false [(87, sp_sCut.prim), (127, sp_sCutP.prim), (128, sp_aParseG.prim), (122, sp_aCmp.prim), (129, sp_aGcd.prim), (130, sp_rlong.prim)]
def F_rParseG (y : El sp_rParseG.q) (x : Els sp_rParseG.ps) : Prop :=
  (decide ((↑(ByteArray.size x.1) : Int) > (65536 : Int)) = true → ((false, [], [], ()), (3 : Int), ()) = (pR (parRG x.1)).2) ∧ (decide ((↑(ByteArray.size x.1) : Int) > (65536 : Int)) = false → (⟨#[(47 : UInt8)]⟩ : ByteArray).size = (1 : Nat) ∧ ∀ (r : Ro [Ty.st, Ty.st, Ty.bo]), r = ((), (cutB x.1 (⟨#[(47 : UInt8)]⟩ : ByteArray)).1, (cutB x.1 (⟨#[(47 : UInt8)]⟩ : ByteArray)).2.1, (cutB x.1 (⟨#[(47 : UInt8)]⟩ : ByteArray)).2.2, ()) → ∀ (r_1 : Ro [Ty.st, Ty.bo]), r_1 = ((), (cutP r.2.1 (⟨#[(45 : UInt8)]⟩ : ByteArray)).1, (cutP r.2.1 (⟨#[(45 : UInt8)]⟩ : ByteArray)).2, ()) → (ByteArray.size r_1.2.1 ≤ (3000 : Nat) ∨ (65536 : Nat) < ByteArray.size r_1.2.1) ∧ ∀ (r_2 : Ro [tW32, Ty.it IntKind.i64]), r_2 = ((), parN r_1.2.1) → ((r_2.2.2.1 != (0 : Int)) = true → ((false, [], [], ()), (130 : Int), ()) = (pR (parRG x.1)).2) ∧ ((r_2.2.2.1 != (0 : Int)) = false → (r_1.2.2.1 = true → ((lenM (0 : Nat) (Ty.it IntKind.u32) r_2.2.1 == (0 : Int)) = true → ((false, [], [], ()), (130 : Int), ()) = (pR (parRG x.1)).2) ∧ ((lenM (0 : Nat) (Ty.it IntKind.u32) r_2.2.1 == (0 : Int)) = false → (r.2.2.2.1 = true → (ByteArray.size r.2.2.1 ≤ (3000 : Nat) ∨ (65536 : Nat) < ByteArray.size r.2.2.1) ∧ ∀ (r_3 : Ro [tW32, Ty.it IntKind.i64]), r_3 = ((), parN r.2.2.1) → ((r_3.2.2.1 != (0 : Int)) = true → ((false, [], [], ()), (130 : Int), ()) = (pR (parRG x.1)).2) ∧ ((r_3.2.2.1 != (0 : Int)) = false → (r_3.2.1 = wd (toN r_3.2.1) ∧ [(1 : Int)] = wd (toN [(1 : Int)])) ∧ ∀ (r : Ro [Ty.it IntKind.i64]), r = ((), cmp (toN r_3.2.1) (toN [(1 : Int)]), ()) → (decide (r.2.1 ≤ (0 : Int)) = true → ((false, [], [], ()), (130 : Int), ()) = (pR (parRG x.1)).2) ∧ (decide (r.2.1 ≤ (0 : Int)) = false → (r_2.2.1 = wd (toN r_2.2.1) ∧ r_3.2.1 = wd (toN r_3.2.1) ∧ List.length r_2.2.1 ≤ (8192 : Nat) ∧ List.length r_3.2.1 ≤ (8192 : Nat)) ∧ ∀ (r : Ro [tW32, Ty.it IntKind.i64]), r = ((), wd ((toN r_2.2.1).gcd (toN r_3.2.1)), (0 : El (Ty.it IntKind.i64)), ()) → (r.2.1 = wd (toN r.2.1) ∧ [(1 : Int)] = wd (toN [(1 : Int)])) ∧ ∀ (r_4 : Ro [Ty.it IntKind.i64]), r_4 = ((), cmp (toN r.2.1) (toN [(1 : Int)]), ()) → ((r_4.2.1 != (0 : Int)) = true → ((false, [], [], ()), (130 : Int), ()) = (pR (parRG x.1)).2) ∧ ((r_4.2.1 != (0 : Int)) = false → ∀ (r : Ro [Ty.bo]), r = ((), decide ((2048 : Nat) < List.length r_2.2.1), ()) → (r.2.1 = true → ((false, [], [], ()), (3 : Int), ()) = (pR (parRG x.1)).2) ∧ (r.2.1 = false → ∀ (r : Ro [Ty.bo]), r = ((), decide ((2048 : Nat) < List.length r_3.2.1), ()) → (r.2.1 = true → ((false, [], [], ()), (3 : Int), ()) = (pR (parRG x.1)).2) ∧ (r.2.1 = false → ((r_1.2.2.1, r_2.2.1, r_3.2.1, ()), (0 : Int), ()) = (pR (parRG x.1)).2)))))) ∧ (r.2.2.2.1 = false → (r_2.2.1 = wd (toN r_2.2.1) ∧ [(1 : Int)] = wd (toN [(1 : Int)]) ∧ List.length r_2.2.1 ≤ (8192 : Nat) ∧ [(1 : Int)].length ≤ (8192 : Nat)) ∧ ∀ (r : Ro [tW32, Ty.it IntKind.i64]), r = ((), wd ((toN r_2.2.1).gcd (toN [(1 : Int)])), (0 : El (Ty.it IntKind.i64)), ()) → (r.2.1 = wd (toN r.2.1) ∧ [(1 : Int)] = wd (toN [(1 : Int)])) ∧ ∀ (r_3 : Ro [Ty.it IntKind.i64]), r_3 = ((), cmp (toN r.2.1) (toN [(1 : Int)]), ()) → ((r_3.2.1 != (0 : Int)) = true → ((false, [], [], ()), (130 : Int), ()) = (pR (parRG x.1)).2) ∧ ((r_3.2.1 != (0 : Int)) = false → ∀ (r : Ro [Ty.bo]), r = ((), decide ((2048 : Nat) < List.length r_2.2.1), ()) → (r.2.1 = true → ((false, [], [], ()), (3 : Int), ()) = (pR (parRG x.1)).2) ∧ (r.2.1 = false → ∀ (r : Ro [Ty.bo]), r = ((), decide ((2048 : Nat) < [(1 : Int)].length), ()) → (r.2.1 = true → ((false, [], [], ()), (3 : Int), ()) = (pR (parRG x.1)).2) ∧ (r.2.1 = false → ((r_1.2.2.1, r_2.2.1, [(1 : Int)], ()), (0 : Int), ()) = (pR (parRG x.1)).2)))))) ∧ (r_1.2.2.1 = false → (r.2.2.2.1 = true → (ByteArray.size r.2.2.1 ≤ (3000 : Nat) ∨ (65536 : Nat) < ByteArray.size r.2.2.1) ∧ ∀ (r_3 : Ro [tW32, Ty.it IntKind.i64]), r_3 = ((), parN r.2.2.1) → ((r_3.2.2.1 != (0 : Int)) = true → ((false, [], [], ()), (130 : Int), ()) = (pR (parRG x.1)).2) ∧ ((r_3.2.2.1 != (0 : Int)) = false → (r_3.2.1 = wd (toN r_3.2.1) ∧ [(1 : Int)] = wd (toN [(1 : Int)])) ∧ ∀ (r : Ro [Ty.it IntKind.i64]), r = ((), cmp (toN r_3.2.1) (toN [(1 : Int)]), ()) → (decide (r.2.1 ≤ (0 : Int)) = true → ((false, [], [], ()), (130 : Int), ()) = (pR (parRG x.1)).2) ∧ (decide (r.2.1 ≤ (0 : Int)) = false → (r_2.2.1 = wd (toN r_2.2.1) ∧ r_3.2.1 = wd (toN r_3.2.1) ∧ List.length r_2.2.1 ≤ (8192 : Nat) ∧ List.length r_3.2.1 ≤ (8192 : Nat)) ∧ ∀ (r : Ro [tW32, Ty.it IntKind.i64]), r = ((), wd ((toN r_2.2.1).gcd (toN r_3.2.1)), (0 : El (Ty.it IntKind.i64)), ()) → (r.2.1 = wd (toN r.2.1) ∧ [(1 : Int)] = wd (toN [(1 : Int)])) ∧ ∀ (r_4 : Ro [Ty.it IntKind.i64]), r_4 = ((), cmp (toN r.2.1) (toN [(1 : Int)]), ()) → ((r_4.2.1 != (0 : Int)) = true → ((false, [], [], ()), (130 : Int), ()) = (pR (parRG x.1)).2) ∧ ((r_4.2.1 != (0 : Int)) = false → ∀ (r : Ro [Ty.bo]), r = ((), decide ((2048 : Nat) < List.length r_2.2.1), ()) → (r.2.1 = true → ((false, [], [], ()), (3 : Int), ()) = (pR (parRG x.1)).2) ∧ (r.2.1 = false → ∀ (r : Ro [Ty.bo]), r = ((), decide ((2048 : Nat) < List.length r_3.2.1), ()) → (r.2.1 = true → ((false, [], [], ()), (3 : Int), ()) = (pR (parRG x.1)).2) ∧ (r.2.1 = false → ((r_1.2.2.1, r_2.2.1, r_3.2.1, ()), (0 : Int), ()) = (pR (parRG x.1)).2)))))) ∧ (r.2.2.2.1 = false → (r_2.2.1 = wd (toN r_2.2.1) ∧ [(1 : Int)] = wd (toN [(1 : Int)]) ∧ List.length r_2.2.1 ≤ (8192 : Nat) ∧ [(1 : Int)].length ≤ (8192 : Nat)) ∧ ∀ (r : Ro [tW32, Ty.it IntKind.i64]), r = ((), wd ((toN r_2.2.1).gcd (toN [(1 : Int)])), (0 : El (Ty.it IntKind.i64)), ()) → (r.2.1 = wd (toN r.2.1) ∧ [(1 : Int)] = wd (toN [(1 : Int)])) ∧ ∀ (r_3 : Ro [Ty.it IntKind.i64]), r_3 = ((), cmp (toN r.2.1) (toN [(1 : Int)]), ()) → ((r_3.2.1 != (0 : Int)) = true → ((false, [], [], ()), (130 : Int), ()) = (pR (parRG x.1)).2) ∧ ((r_3.2.1 != (0 : Int)) = false → ∀ (r : Ro [Ty.bo]), r = ((), decide ((2048 : Nat) < List.length r_2.2.1), ()) → (r.2.1 = true → ((false, [], [], ()), (3 : Int), ()) = (pR (parRG x.1)).2) ∧ (r.2.1 = false → ∀ (r : Ro [Ty.bo]), r = ((), decide ((2048 : Nat) < [(1 : Int)].length), ()) → (r.2.1 = true → ((false, [], [], ()), (3 : Int), ()) = (pR (parRG x.1)).2) ∧ (r.2.1 = false → ((r_1.2.2.1, r_2.2.1, [(1 : Int)], ()), (0 : Int), ()) = (pR (parRG x.1)).2)))))))
theorem w_rParseG (y : El sp_rParseG.q) (x : Els sp_rParseG.ps) : aW c_rParseG (iv_rParseG y x) Tryz.f52 sp_rParseG y x = F_rParseG y x := by kernel_rfl
theorem m_rParseG (y : El (.un)) (x : Els [.st]) (h2 : wfE (.un) y) (h3 : wfEs [.st] x) (h4 : ByteArray.size x.1 ≤ 3000 ∨ 65536 < ByteArray.size x.1) : F_rParseG y x := by
  unfold F_rParseG
  have hsz : ByteArray.size x.1 ≤ 3000 ∨ 65536 < ByteArray.size x.1 := h4
  refine ⟨fun h => congrArg (fun t => (pR t).2) (pg_long (Int.ofNat_lt.1 (gtT h))).symm, fun h => ⟨rfl, ?_⟩⟩
  have h3k : ByteArray.size x.1 ≤ 3000 := hsz.resolve_right (fun c => absurd (Int.ofNat_lt.2 c) (Int.not_lt.2 (gtF h)))
  rintro _ rfl _ rfl
  have t3k : (topR x.1).1.size ≤ 3000 := Nat.le_trans (cutP_size _ _) (Nat.le_trans (cut_sz x.1 b_sl).1 h3k)
  refine ⟨.inl t3k, ?_⟩
  intro r2 hr2
  by_cases c1 : canD (topR x.1).1.data.toList = true
  · have l1 := can_wds t3k c1
    obtain rfl := hr2.trans (congrArg (fun t => (((), t) : El .un × Els [tW32, .it .i64])) (par_ok t3k c1))
    refine ⟨fun h => Bool.noConfusion (show false = true from h), fun _ => ⟨fun hn => ⟨fun hz => ?_, fun hz => ?_⟩, fun hn => ?_⟩⟩
    · exact congrArg (fun t => (pR t).2) (pg_bad h3k (fun k => (okRG_un k).2.1 hn (lenM_nz hz))).symm
    · have HN : (topR x.1).2 = true → nV (topR x.1).1 ≠ 0 := fun _ e => by
        have h : ((wd (nV (topR x.1).1)).length : Int) ≠ 0 := eqF hz
        rw [e, wd_zero] at h
        exact h rfl
      refine ⟨fun hb => ⟨.inl (Nat.le_trans (cut_sz x.1 b_sl).2 h3k), ?_⟩, fun hb => ⟨⟨nrm_wd _, nrm_1, Nat.le_trans l1 (by decide), by decide⟩, ?_⟩⟩
      · have hb : (cutB x.1 b_sl).2.2 = true := hb
        have hdg : denG x.1 = nV (cutB x.1 b_sl).2.1 := by unfold denG; rw [hb]; rfl
        intro r3 hr3
        by_cases c2 : canD (cutB x.1 b_sl).2.1.data.toList = true
        · have l2 := can_wds (Nat.le_trans (cut_sz x.1 b_sl).2 h3k) c2
          obtain rfl := hr3.trans (congrArg (fun t => (((), t) : El .un × Els [tW32, .it .i64])) (par_ok (Nat.le_trans (cut_sz x.1 b_sl).2 h3k) c2))
          refine ⟨fun h => Bool.noConfusion (show false = true from h), fun _ => ⟨⟨nrm_wd _, nrm_1⟩, ?_⟩⟩
          rintro _ rfl
          refine ⟨fun h => ?_, fun h => ⟨⟨nrm_wd _, nrm_wd _, Nat.le_trans l1 (by decide), Nat.le_trans l2 (by decide)⟩, ?_⟩⟩
          · have h : (cmp (toN (wd (nV (cutB x.1 b_sl).2.1))) (toN [1]) : Int) ≤ 0 := leT h
            exact congrArg (fun t => (pR t).2) (pg_bad h3k (fun k => by
              have := cmp_gt1 ((okRG_un k).2.2.1 hb).2
              omega)).symm
          have g1 : 1 < nV (cutB x.1 b_sl).2.1 := Decidable.byContradiction fun c => absurd (cmp_le1 c) (Int.not_le.2 (leF h))
          rintro _ rfl
          refine ⟨⟨nrm_wd _, nrm_1⟩, ?_⟩
          rintro _ rfl
          refine ⟨fun h => ?_, fun h => ?_⟩
          · have h := cmp1_T h
            exact congrArg (fun t => (pR t).2) (pg_bad h3k (fun k => h (by
              rw [toN_wd, toN_wd, toN_wd]
              have := (okRG_un k).2.2.2
              rw [hdg] at this
              exact this))).symm
          have g2 := cmp1_F h
          rw [toN_wd, toN_wd, toN_wd] at g2
          rintro _ rfl
          refine ⟨fun h => absurd (of_decide_eq_true h) (Nat.not_lt.2 l1), fun _ => ?_⟩
          rintro _ rfl
          refine ⟨fun h => absurd (of_decide_eq_true h) (Nat.not_lt.2 l2), fun _ => ?_⟩
          have e := pg_ok h3k (okRG_mk c1 HN (fun _ => ⟨c2, g1⟩) (by rw [hdg]; exact g2))
          rw [hdg] at e
          exact congrArg (fun t => (pR t).2) e.symm
        · obtain rfl := hr3.trans (congrArg (fun t => (((), t) : El .un × Els [tW32, .it .i64])) (par_bad (Nat.le_trans (cut_sz x.1 b_sl).2 h3k) c2))
          exact ⟨fun _ => congrArg (fun t => (pR t).2) (pg_bad h3k (fun k => c2 ((okRG_un k).2.2.1 hb).1)).symm, fun h => Bool.noConfusion (show true = false from h)⟩
      · have hb : (cutB x.1 b_sl).2.2 = false := hb
        have hdg : denG x.1 = 1 := by unfold denG; rw [hb]; rfl
        rintro _ rfl
        refine ⟨⟨nrm_wd _, nrm_1⟩, ?_⟩
        rintro _ rfl
        refine ⟨fun h => ?_, fun h => ?_⟩
        · have h := cmp1_T h
          refine absurd ?_ h
          rw [toN_wd, toN_wd, toN_1]
          exact Nat.gcd_one_right _
        rintro _ rfl
        refine ⟨fun h => absurd (of_decide_eq_true h) (Nat.not_lt.2 l1), fun _ => ?_⟩
        rintro _ rfl
        refine ⟨fun h => Bool.noConfusion (show false = true from h), fun _ => ?_⟩
        have e := pg_ok h3k (okRG_mk c1 HN (fun c => by rw [hb] at c; cases c) (by rw [hdg]; exact Nat.gcd_one_right _))
        rw [hdg, wd_one] at e
        exact congrArg (fun t => (pR t).2) e.symm
    · have HN : (topR x.1).2 = true → nV (topR x.1).1 ≠ 0 := fun c => by
        have hn : (topR x.1).2 = false := hn
        rw [hn] at c
        cases c
      refine ⟨fun hb => ⟨.inl (Nat.le_trans (cut_sz x.1 b_sl).2 h3k), ?_⟩, fun hb => ⟨⟨nrm_wd _, nrm_1, Nat.le_trans l1 (by decide), by decide⟩, ?_⟩⟩
      · have hb : (cutB x.1 b_sl).2.2 = true := hb
        have hdg : denG x.1 = nV (cutB x.1 b_sl).2.1 := by unfold denG; rw [hb]; rfl
        intro r3 hr3
        by_cases c2 : canD (cutB x.1 b_sl).2.1.data.toList = true
        · have l2 := can_wds (Nat.le_trans (cut_sz x.1 b_sl).2 h3k) c2
          obtain rfl := hr3.trans (congrArg (fun t => (((), t) : El .un × Els [tW32, .it .i64])) (par_ok (Nat.le_trans (cut_sz x.1 b_sl).2 h3k) c2))
          refine ⟨fun h => Bool.noConfusion (show false = true from h), fun _ => ⟨⟨nrm_wd _, nrm_1⟩, ?_⟩⟩
          rintro _ rfl
          refine ⟨fun h => ?_, fun h => ⟨⟨nrm_wd _, nrm_wd _, Nat.le_trans l1 (by decide), Nat.le_trans l2 (by decide)⟩, ?_⟩⟩
          · have h : (cmp (toN (wd (nV (cutB x.1 b_sl).2.1))) (toN [1]) : Int) ≤ 0 := leT h
            exact congrArg (fun t => (pR t).2) (pg_bad h3k (fun k => by
              have := cmp_gt1 ((okRG_un k).2.2.1 hb).2
              omega)).symm
          have g1 : 1 < nV (cutB x.1 b_sl).2.1 := Decidable.byContradiction fun c => absurd (cmp_le1 c) (Int.not_le.2 (leF h))
          rintro _ rfl
          refine ⟨⟨nrm_wd _, nrm_1⟩, ?_⟩
          rintro _ rfl
          refine ⟨fun h => ?_, fun h => ?_⟩
          · have h := cmp1_T h
            exact congrArg (fun t => (pR t).2) (pg_bad h3k (fun k => h (by
              rw [toN_wd, toN_wd, toN_wd]
              have := (okRG_un k).2.2.2
              rw [hdg] at this
              exact this))).symm
          have g2 := cmp1_F h
          rw [toN_wd, toN_wd, toN_wd] at g2
          rintro _ rfl
          refine ⟨fun h => absurd (of_decide_eq_true h) (Nat.not_lt.2 l1), fun _ => ?_⟩
          rintro _ rfl
          refine ⟨fun h => absurd (of_decide_eq_true h) (Nat.not_lt.2 l2), fun _ => ?_⟩
          have e := pg_ok h3k (okRG_mk c1 HN (fun _ => ⟨c2, g1⟩) (by rw [hdg]; exact g2))
          rw [hdg] at e
          exact congrArg (fun t => (pR t).2) e.symm
        · obtain rfl := hr3.trans (congrArg (fun t => (((), t) : El .un × Els [tW32, .it .i64])) (par_bad (Nat.le_trans (cut_sz x.1 b_sl).2 h3k) c2))
          exact ⟨fun _ => congrArg (fun t => (pR t).2) (pg_bad h3k (fun k => c2 ((okRG_un k).2.2.1 hb).1)).symm, fun h => Bool.noConfusion (show true = false from h)⟩
      · have hb : (cutB x.1 b_sl).2.2 = false := hb
        have hdg : denG x.1 = 1 := by unfold denG; rw [hb]; rfl
        rintro _ rfl
        refine ⟨⟨nrm_wd _, nrm_1⟩, ?_⟩
        rintro _ rfl
        refine ⟨fun h => ?_, fun h => ?_⟩
        · have h := cmp1_T h
          refine absurd ?_ h
          rw [toN_wd, toN_wd, toN_1]
          exact Nat.gcd_one_right _
        rintro _ rfl
        refine ⟨fun h => absurd (of_decide_eq_true h) (Nat.not_lt.2 l1), fun _ => ?_⟩
        rintro _ rfl
        refine ⟨fun h => Bool.noConfusion (show false = true from h), fun _ => ?_⟩
        have e := pg_ok h3k (okRG_mk c1 HN (fun c => by rw [hb] at c; cases c) (by rw [hdg]; exact Nat.gcd_one_right _))
        rw [hdg, wd_one] at e
        exact congrArg (fun t => (pR t).2) e.symm
  · obtain rfl := hr2.trans (congrArg (fun t => (((), t) : El .un × Els [tW32, .it .i64])) (par_bad t3k c1))
    exact ⟨fun _ => congrArg (fun t => (pR t).2) (pg_bad h3k (fun k => c1 (okRG_un k).1)).symm, fun h => Bool.noConfusion (show true = false from h)⟩
theorem fo_rParseG : FnOk Tryz.prog 52 sp_rParseG := fnOk_of (C := c_rParseG) iv_rParseG Tryz.func52 rfl (by kernel_rfl) tys_ok (prims_cons (spec_prim fo_sCut) (prims_cons (spec_prim fo_sCutP) (prims_cons (spec_prim fo_aParseG) (prims_cons (spec_prim fo_aCmp) (prims_cons (spec_prim fo_aGcd) (prims_cons (spec_prim fo_rlong) prims_nil)))))) mixed_ (Nat.le_refl _) rfl fun y x h1 h2 h3 h4 =>
  Eq.mpr (w_rParseG y x) (m_rParseG y x h2 h3 h4)
theorem ix_none : ∀ {l : List UInt8} {c : UInt8}, c ∉ l → Lib.indexByte l c = -1
  | [], _, _ => rfl
  | b :: l, c, h => by
    rw [List.mem_cons, not_or] at h
    unfold Lib.indexByte
    rw [if_neg (by simpa using fun e => h.1 e.symm), ix_none h.2]
    rfl
theorem ix_app : ∀ {l : List UInt8} {c : UInt8} (m : List UInt8), c ∉ l → Lib.indexByte (l ++ c :: m) c = l.length
  | [], c, m, _ => by
    unfold Lib.indexByte
    rw [List.nil_append]
    show (if (c == c) = true then (0 : Int) else _) = _
    rw [if_pos (by simp)]
    rfl
  | b :: l, c, m, h => by
    rw [List.mem_cons, not_or] at h
    rw [List.cons_append]
    unfold Lib.indexByte
    rw [if_neg (by simpa using fun e => h.1 e.symm), ix_app m h.2, if_neg (by simp), List.length_cons]
    rfl
theorem sl_byte : b_sl.get! 0 = 47 := by decide
theorem mk_of {s : ByteArray} {l : List UInt8} (h : s.data.toList = l) : s = ⟨l.toArray⟩ := Go.WideShapes.bytes_inj h
theorem cutB_found {s : ByteArray} {A B : List UInt8} (h : s.data.toList = A ++ 47 :: B) (hA : (47 : UInt8) ∉ A) : cutB s b_sl = (⟨A.toArray⟩, ⟨B.toArray⟩, true) := by
  have hi : ixB s b_sl = (A.length : Int) := by
    unfold ixB
    rw [sl_byte, h]
    exact ix_app B hA
  unfold cutB
  rw [if_pos (by rw [hi]; exact Int.natCast_nonneg _), hi, Int.toNat_natCast]
  have e1 : s.extract 0 A.length = ⟨A.toArray⟩ := mk_of (by rw [ex_list, h, List.drop_zero, Nat.sub_zero, List.take_left])
  have e2 : s.extract (A.length + 1) s.size = ⟨B.toArray⟩ := mk_of (by
    rw [ex_rest, h, ← List.drop_drop, List.drop_left]
    rfl)
  rw [e1, e2]
theorem cutB_none {s : ByteArray} (h : (47 : UInt8) ∉ s.data.toList) : cutB s b_sl = (s, ⟨#[]⟩, false) := by
  have hi : ixB s b_sl = -1 := by
    unfold ixB
    rw [sl_byte]
    exact ix_none h
  unfold cutB
  rw [if_neg (by rw [hi]; decide)]
theorem cutB_split {s : ByteArray} (h : (cutB s b_sl).2.2 = true) : s.data.toList = (cutB s b_sl).1.data.toList ++ 47 :: (cutB s b_sl).2.1.data.toList := by
  by_cases c : 0 ≤ ixB s b_sl
  · obtain ⟨i, hi⟩ : ∃ i : Nat, ixB s b_sl = (i : Int) := ⟨(ixB s b_sl).toNat, (Int.toNat_of_nonneg c).symm⟩
    have e : cutB s b_sl = (s.extract 0 i, s.extract (i + 1) s.size, true) := by
      unfold cutB
      rw [if_pos c, hi, Int.toNat_natCast]
    have hk : Lib.indexByte s.data.toList 47 = (i : Int) := by
      unfold ixB at hi
      rw [sl_byte] at hi
      exact hi
    obtain ⟨k1, _⟩ := Lib.indexByte_some hk
    rw [e]
    dsimp only
    rw [ex_list, ex_rest, List.drop_zero, Nat.sub_zero]
    have hlt := (List.getElem?_eq_some_iff.1 k1).1
    have hd := List.drop_eq_getElem_cons hlt
    have hv := (List.getElem?_eq_some_iff.1 k1).2
    rw [hv] at hd
    rw [← hd, List.take_append_drop]
  · have e : cutB s b_sl = (s, ⟨#[]⟩, false) := if_neg c
    rw [e] at h
    cases h
theorem cutB_same {s : ByteArray} (h : (cutB s b_sl).2.2 = false) : (cutB s b_sl).1 = s := by
  by_cases c : 0 ≤ ixB s b_sl
  · have e : cutB s b_sl = (s.extract 0 (ixB s b_sl).toNat, s.extract ((ixB s b_sl).toNat + 1) s.size, true) := if_pos c
    rw [e] at h
    cases h
  · have e : cutB s b_sl = (s, ⟨#[]⟩, false) := if_neg c
    rw [e]
theorem mi_list : b_mi.data.toList = [45] := rfl
theorem hp_45 : ∀ (l : List UInt8), Lib.hasPrefix l [45] = true ↔ ∃ m, l = 45 :: m
  | [] => ⟨fun h => by simp [Lib.hasPrefix] at h, fun ⟨m, h⟩ => by cases h⟩
  | c :: l => by
    unfold Lib.hasPrefix
    constructor
    · intro h
      simp [List.isPrefixOf] at h
      exact ⟨l, by rw [h]⟩
    · rintro ⟨m, h⟩
      injection h with h1 h2
      rw [h1]
      simp [List.isPrefixOf]
theorem cutP_neg {s : ByteArray} {m : List UInt8} (h : s.data.toList = 45 :: m) : cutP s b_mi = (⟨m.toArray⟩, true) := by
  unfold cutP
  rw [mi_list, h, (hp_45 (45 :: m)).2 ⟨m, rfl⟩]
  unfold Lib.trimPrefix
  rw [(hp_45 (45 :: m)).2 ⟨m, rfl⟩]
  rfl
theorem cutP_pos {s : ByteArray} (h : ∀ m, s.data.toList ≠ 45 :: m) : cutP s b_mi = (s, false) := by
  have e : Lib.hasPrefix s.data.toList [45] = false := by
    cases c : Lib.hasPrefix s.data.toList [45] with
    | false => rfl
    | true =>
      obtain ⟨m, hm⟩ := (hp_45 _).1 c
      exact absurd hm (h m)
  unfold cutP Lib.trimPrefix
  rw [mi_list, e]
  rfl
theorem cutP_split {s : ByteArray} : ((cutP s b_mi).2 = true → s.data.toList = 45 :: (cutP s b_mi).1.data.toList) ∧ ((cutP s b_mi).2 = false → (cutP s b_mi).1 = s) := by
  by_cases c : ∃ m, s.data.toList = 45 :: m
  · obtain ⟨m, hm⟩ := c
    rw [cutP_neg hm]
    exact ⟨fun _ => hm, (fun h => by cases h)⟩
  · rw [cutP_pos (fun m hm => c ⟨m, hm⟩)]
    exact ⟨(fun h => by cases h), fun _ => rfl⟩
theorem d_not {l : List UInt8} (h : l.all isD = true) : (47 : UInt8) ∉ l ∧ ∀ m, l ≠ 45 :: m := by
  have h := List.all_eq_true.1 h
  exact ⟨fun c => absurd (h _ c) (by decide), fun m e => absurd (h 45 (by rw [e]; exact List.mem_cons_self)) (by decide)⟩
def sgD (neg : Bool) (a : Nat) : List UInt8 := if neg = true then 45 :: Lib.decDigits a else Lib.decDigits a
theorem sgD_not (neg : Bool) (a : Nat) : (47 : UInt8) ∉ sgD neg a := by
  have := (d_not (dec_all a)).1
  unfold sgD
  split
  · rw [List.mem_cons, not_or]
    exact ⟨by decide, this⟩
  · exact this
theorem top_of {t : ByteArray} {neg : Bool} {a : Nat} (h : (cutB t b_sl).1.data.toList = sgD neg a) : (topR t).1.data.toList = Lib.decDigits a ∧ (topR t).2 = neg := by
  unfold topR
  cases neg with
  | true =>
    have h : (cutB t b_sl).1.data.toList = 45 :: Lib.decDigits a := h
    rw [cutP_neg h]
    exact ⟨rfl, rfl⟩
  | false =>
    have h : (cutB t b_sl).1.data.toList = Lib.decDigits a := h
    rw [cutP_pos (fun m e => (d_not (dec_all a)).2 m (h.symm.trans e))]
    exact ⟨h, rfl⟩
theorem par_shape {t : ByteArray} {neg : Bool} {a b : Nat} (ht : t.data.toList = if b = 1 then sgD neg a else sgD neg a ++ 47 :: Lib.decDigits b) (h3 : t.size ≤ 3000) (hb : b ≠ 0) (hn : neg = true → a ≠ 0) (hg : Nat.gcd a b = 1) : parRG t = (⟨neg, wd a, wd b⟩, 0) := by
  by_cases h1 : b = 1
  · subst h1
    rw [if_pos rfl] at ht
    have hc : cutB t b_sl = (t, ⟨#[]⟩, false) := cutB_none (by rw [ht]; exact sgD_not neg a)
    obtain ⟨t1, t2⟩ := top_of (t := t) (neg := neg) (a := a) (by rw [hc]; exact ht)
    have hv : nV (topR t).1 = a := by unfold nV; rw [t1, dec_val]
    have hd : denG t = 1 := by unfold denG; rw [hc]; rfl
    rw [pg_ok h3 (okRG_mk (by rw [t1]; exact dec_can a) (by rw [t2, hv]; exact hn) (fun c => by rw [hc] at c; cases c) (by rw [hv, hd]; exact hg)), hv, hd, t2]
  · rw [if_neg h1] at ht
    have hc := cutB_found ht (sgD_not neg a)
    obtain ⟨t1, t2⟩ := top_of (t := t) (neg := neg) (a := a) (by rw [hc])
    have hv : nV (topR t).1 = a := by unfold nV; rw [t1, dec_val]
    have hw : nV (cutB t b_sl).2.1 = b := by unfold nV; rw [hc]; exact dec_val b
    have hd : denG t = b := by unfold denG; rw [hw, hc]; rfl
    rw [pg_ok h3 (okRG_mk (by rw [t1]; exact dec_can a) (by rw [t2, hv]; exact hn) (fun _ => ⟨by rw [hc]; exact dec_can b, by rw [hw]; omega⟩) (by rw [hv, hd]; exact hg)), hv, hd, t2]
theorem txG_list {neg : Bool} {a b : Nat} : (txG ⟨neg, wd a, wd b⟩).data.toList = if b = 1 then sgD neg a else sgD neg a ++ 47 :: Lib.decDigits b := by
  have ea : toN (⟨neg, wd a, wd b⟩ : Fr).num = a := toN_wd a
  have eb : toN (⟨neg, wd a, wd b⟩ : Fr).den = b := toN_wd b
  by_cases h1 : b = 1
  · rw [if_pos h1]
    cases neg with
    | true => rw [txG_1n (eb.trans h1) rfl, ba_app, ea]; rfl
    | false => rw [txG_1p (eb.trans h1) rfl, ea]; rfl
  · rw [if_neg h1]
    cases neg with
    | true => rw [txG_2n (by rw [eb]; exact h1) rfl, ba_app, ba_app, ba_app, ea, eb]; rfl
    | false => rw [txG_2p (by rw [eb]; exact h1) rfl, ba_app, ba_app, ea, eb]; rfl
theorem sgD_len (neg : Bool) (a : Nat) : (sgD neg a).length ≤ (Lib.decDigits a).length + 1 := by
  unfold sgD
  split
  · exact Nat.le_refl _
  · exact Nat.le_succ _
theorem back_of {q : Rat} (h1 : (wd q.num.natAbs).length ≤ 60) (h2 : (wd q.den).length ≤ 60) : (txG (enc q)).size ≤ 3000 ∧ parRG (txG (enc q)) = (enc q, 0) := by
  have e : enc q = ⟨decide (q.num < 0), wd q.num.natAbs, wd q.den⟩ := rfl
  have hl := txG_list (neg := decide (q.num < 0)) (a := q.num.natAbs) (b := q.den)
  rw [← e] at hl
  have s : (txG (enc q)).size ≤ 3000 := by
    rw [← ba_len, hl]
    have d1 := dec_words 59 _ h1
    have d2 := dec_words 59 _ h2
    have d3 := sgD_len (decide (q.num < 0)) q.num.natAbs
    split
    · omega
    · rw [List.length_append, List.length_cons]
      omega
  refine ⟨s, ?_⟩
  rw [par_shape hl s q.den_nz (fun hn hz => ?_) q.reduced]
  · exact congrArg (fun f => (f, (0 : Int))) e.symm
  · have := of_decide_eq_true hn
    omega
theorem enc_of {neg : Bool} {a b : Nat} (hb : b ≠ 0) (hn : neg = true → a ≠ 0) (hg : Nat.gcd a b = 1) : ∃ q : Rat, enc q = ⟨neg, wd a, wd b⟩ ∧ q.num.natAbs = a ∧ q.den = b := by
  cases neg with
  | true =>
    have ha := hn rfl
    refine ⟨⟨-(a : Int), b, hb, by rw [Int.natAbs_neg, Int.natAbs_natCast]; exact hg⟩, ?_, by show (-(a : Int)).natAbs = a; omega, rfl⟩
    unfold enc
    dsimp only
    rw [decide_eq_true (by omega), show (-(a : Int)).natAbs = a by omega]
  | false =>
    refine ⟨⟨(a : Int), b, hb, by rw [Int.natAbs_natCast]; exact hg⟩, ?_, by show ((a : Int)).natAbs = a; omega, rfl⟩
    unfold enc
    dsimp only
    rw [decide_eq_false (by omega), show ((a : Int)).natAbs = a by omega]
theorem bt_mk {s : ByteArray} (h : canD s.data.toList = true) : Lib.decDigits (nV s) = s.data.toList := dec_back' h
theorem text_of {s : ByteArray} (h3 : s.size ≤ 3000) (h : okRG s = true) : fchk ⟨(topR s).2, wd (nV (topR s).1), wd (denG s)⟩ = 0 ∧ txG ⟨(topR s).2, wd (nV (topR s).1), wd (denG s)⟩ = s := by
  obtain ⟨c1, c2, c3, c4⟩ := okRG_un h
  have t3 : (topR s).1.size ≤ 3000 := Nat.le_trans (cutP_size _ _) (Nat.le_trans (cut_sz s b_sl).1 h3)
  have hden : denG s ≠ 0 ∧ (wd (denG s)).length ≤ 2048 := by
    cases hb : (cutB s b_sl).2.2 with
    | true =>
      have e : denG s = nV (cutB s b_sl).2.1 := by unfold denG; rw [hb]; rfl
      rw [e]
      exact ⟨by have := (c3 hb).2; omega, can_wds (Nat.le_trans (cut_sz s b_sl).2 h3) (c3 hb).1⟩
    | false =>
      have e : denG s = 1 := by unfold denG; rw [hb]; rfl
      rw [e, wd_one]
      exact ⟨by decide, by decide⟩
  obtain ⟨q, e1, e2, e3⟩ := enc_of (neg := (topR s).2) hden.1 c2 c4
  refine ⟨?_, ?_⟩
  · rw [← e1]
    exact fchk_enc q (lng_of (by rw [e2]; exact can_wds t3 c1) (by rw [e3]; exact hden.2))
  · refine Go.WideShapes.bytes_inj ?_
    rw [txG_list]
    have hs : sgD (topR s).2 (nV (topR s).1) = (cutB s b_sl).1.data.toList := by
      unfold sgD
      rw [bt_mk c1]
      have k := @cutP_split (cutB s b_sl).1
      cases hn : (topR s).2 with
      | true => exact (k.1 hn).symm
      | false =>
        have e : (topR s).1 = (cutB s b_sl).1 := k.2 hn
        rw [e]
        rfl
    rw [hs]
    cases hb : (cutB s b_sl).2.2 with
    | true =>
      have e : denG s = nV (cutB s b_sl).2.1 := by unfold denG; rw [hb]; rfl
      rw [e, if_neg (by have := (c3 hb).2; omega), bt_mk (c3 hb).1]
      exact (cutB_split hb).symm
    | false =>
      have e : denG s = 1 := by unfold denG; rw [hb]; rfl
      rw [if_pos e, cutB_same hb]
noncomputable def sp_f3small : Spec := { q := .un, ps := [.it .i64, .it .i64], rs := [tR], fresh := true, pre := fun _ _ => none, post := fun _ x => ((), (ofFr (fsmall x.1 x.2.1).1, ())) }
noncomputable def iv_f3small (y : El sp_f3small.q) (x : Els sp_f3small.ps) : Nat → Option Inv := fun _ => none
noncomputable abbrev c_f3small : Cfg := cfgS (Tryz.f61).ntmps false [(59, sp_rSmall.prim)]
def F_f3small (y : El sp_f3small.q) (x : Els sp_f3small.ps) : Prop :=
  ∀ (r : Ro [tR, Ty.it IntKind.i64]), r = pR (fsmall x.1 x.2.1) → (r.2.1, ()) = (ofFr (fsmall x.1 x.2.1).1, ())
theorem w_f3small (y : El sp_f3small.q) (x : Els sp_f3small.ps) : aW c_f3small (iv_f3small y x) Tryz.f61 sp_f3small y x = F_f3small y x := by kernel_rfl
theorem m_f3small (y : El (.un)) (x : Els [.it .i64, .it .i64]) (h2 : wfE (.un) y) (h3 : wfEs [.it .i64, .it .i64] x) : F_f3small y x := by
  unfold F_f3small
  rintro _ rfl
  rfl
theorem fo_f3small : FnOk Tryz.prog 61 sp_f3small := fnOk_of (C := c_f3small) iv_f3small Tryz.func61 rfl (by kernel_rfl) tys_ok (prims_cons (spec_prim fo_rSmall) prims_nil) mixed_ (Nat.le_refl _) rfl fun y x h1 h2 h3 h4 =>
  Eq.mpr (w_f3small y x) (m_f3small y x h2 h3)
theorem str_eq {a b : ByteArray} {P : Prop} [Decidable P] (h : P ↔ a = b) : (a.toList == b.toList) = decide P := by
  rw [Bool.eq_iff_iff, decide_eq_true_eq, beq_iff_eq, Lib.toList_data, Lib.toList_data, h]
  exact ⟨fun e => Go.WideShapes.bytes_inj e, fun e => by rw [e]⟩
noncomputable def sp_f3is : Spec := { q := .un, ps := [tR, .it .i64, .st], rs := [.bo], fresh := true, pre := fun _ x => some (sP (toFr x.1)), post := fun _ x => ((), (decide (x.2.1 = 0 ∧ txR (toFr x.1) = x.2.2.1), ())) }
noncomputable def iv_f3is (y : El sp_f3is.q) (x : Els sp_f3is.ps) : Nat → Option Inv := fun _ => none
noncomputable abbrev c_f3is : Cfg := cfgS (Tryz.f65).ntmps false [(50, sp_rPrint.prim)]
def F_f3is (y : El sp_f3is.q) (x : Els sp_f3is.ps) : Prop :=
  (fchk (toFr x.1) = (0 : Int) ∧ toN (toFr x.1).num < (100 : Nat) ∧ toN (toFr x.1).den < (100 : Nat)) ∧ ∀ (r : Ro [Ty.st, Ty.it IntKind.i64]), r = ((), txR (toFr x.1), (0 : El (Ty.it IntKind.i64)), ()) → ((x.2.1 == (0 : Int)) = true → ((r.2.2.1 == (0 : Int)) = true → (ByteArray.toList r.2.1 == ByteArray.toList x.2.2.1, ()) = (decide (x.2.1 = (0 : El (Ty.it IntKind.i64)) ∧ txR (toFr x.1) = x.2.2.1), ())) ∧ ((r.2.2.1 == (0 : Int)) = false → (false, ()) = (decide (x.2.1 = (0 : El (Ty.it IntKind.i64)) ∧ txR (toFr x.1) = x.2.2.1), ()))) ∧ ((x.2.1 == (0 : Int)) = false → (false, ()) = (decide (x.2.1 = (0 : El (Ty.it IntKind.i64)) ∧ txR (toFr x.1) = x.2.2.1), ()))
theorem w_f3is (y : El sp_f3is.q) (x : Els sp_f3is.ps) : aW c_f3is (iv_f3is y x) Tryz.f65 sp_f3is y x = F_f3is y x := by kernel_rfl
theorem m_f3is (y : El (.un)) (x : Els [tR, .it .i64, .st]) (h2 : wfE (.un) y) (h3 : wfEs [tR, .it .i64, .st] x) (h4 : sP (toFr x.1)) : F_f3is y x := by
  unfold F_f3is
  refine ⟨h4, ?_⟩
  rintro _ rfl
  refine ⟨fun h => ⟨fun _ => ?_, fun h => Bool.noConfusion (show true = false from h)⟩, fun h => ?_⟩
  · have h := eqT h
    exact congrArg (fun b => (b, ())) (str_eq ⟨fun c => c.2, fun c => ⟨h, c⟩⟩)
  · have h := eqF h
    rw [decide_eq_false (fun c => h c.1)]
theorem fo_f3is : FnOk Tryz.prog 65 sp_f3is := fnOk_of (C := c_f3is) iv_f3is Tryz.func65 rfl (by kernel_rfl) tys_ok (prims_cons (spec_prim fo_rPrint) prims_nil) mixed_ (Nat.le_refl _) rfl fun y x h1 h2 h3 h4 =>
  Eq.mpr (w_f3is y x) (m_f3is y x h2 h3 h4)
theorem sP_s3 {q : Rat} (h : sm q = true) (h1 : q.num.natAbs < 100) (h2 : q.den < 100) : sP (enc q) := ⟨fchk_s h, by show toN (wd _) < _; rw [toN_wd]; exact h1, by show toN (wd _) < _; rw [toN_wd]; exact h2⟩
theorem r3_64 : fsmall 6 (-4) = (enc (-3/2), 0) := fsmall_s (by decide) (by decide +kernel) (by decide +kernel)
theorem r3_12 : fsmall 1 2 = (enc (1/2), 0) := fsmall_s (by decide) (by decide +kernel) (by decide +kernel)
theorem r3_13 : fsmall 1 3 = (enc (1/3), 0) := fsmall_s (by decide) (by decide +kernel) (by decide +kernel)
theorem r3_14 : fsmall (-1) 4 = (enc (-1/4), 0) := fsmall_s (by decide) (by decide +kernel) (by decide +kernel)
theorem r3_add : fadd (enc (1/2)) (enc (1/3)) = (enc (5/6), 0) := fadd_s (by decide +kernel) (by decide +kernel)
theorem r3_quo : fquo (enc (1/2)) (enc (-1/4)) = (enc (-2), 0) := by
  rw [fquo_enc (sm_lng (by decide +kernel)) (sm_lng (by decide +kernel)) (by decide +kernel), show (1/2 : Rat) / (-1/4) = -2 by decide +kernel]
  exact tell_ok (sm_lng (by decide +kernel))
theorem r3_ok : okR ⟨#[45, 51, 47, 50]⟩ = true := by decide +kernel
theorem r3_val : valR ⟨#[45, 51, 47, 50]⟩ = enc (-3/2) := by decide +kernel
theorem tx_m32 : txR (enc (-3/2)) = ⟨#[45, 51, 47, 50]⟩ := by decide +kernel
theorem tx_56 : txR (enc (5/6)) = ⟨#[53, 47, 54]⟩ := by decide +kernel
theorem tx_m2 : txR (enc (-2)) = ⟨#[45, 50]⟩ := by decide +kernel
noncomputable def sp_f3awake : Spec := { q := .un, ps := [], rs := [.bo], fresh := true, pre := fun _ _ => none, post := fun _ x => ((), (true, ())) }
noncomputable def iv_f3awake (y : El sp_f3awake.q) (x : Els sp_f3awake.ps) : Nat → Option Inv := fun _ => none
noncomputable abbrev c_f3awake : Cfg := cfgS (Tryz.f57).ntmps false [(59, sp_rSmall.prim), (64, sp_rAdd.prim), (61, sp_f3small.prim), (63, sp_rQuo.prim), (52, sp_rParse.prim), (65, p_sure (sp_f3is.prim)), (19, p_sure (sp_rSame.prim))]
def F_f3awake (y : El sp_f3awake.q) (x : Els sp_f3awake.ps) : Prop :=
  ∀ (r : Ro [tR, Ty.it IntKind.i64]), r = pR (fsmall (6 : Int) (-4 : Int)) → ∀ (r_1 : Ro [tR]), r_1 = ((), ofFr (fsmall (1 : Int) (2 : Int)).1, ()) → ∀ (r_2 : Ro [tR]), r_2 = ((), ofFr (fsmall (1 : Int) (3 : Int)).1, ()) → ∀ (r_3 : Ro [tR, Ty.it IntKind.i64]), r_3 = pR (fadd (toFr r_1.2.1) (toFr r_2.2.1)) → ∀ (r_4 : Ro [tR]), r_4 = ((), ofFr (fsmall (1 : Int) (2 : Int)).1, ()) → ∀ (r_5 : Ro [tR]), r_5 = ((), ofFr (fsmall (-1 : Int) (4 : Int)).1, ()) → ∀ (r_6 : Ro [tR, Ty.it IntKind.i64]), r_6 = pR (fquo (toFr r_4.2.1) (toFr r_5.2.1)) → okR (⟨#[(45 : UInt8), (51 : UInt8), (47 : UInt8), (50 : UInt8)]⟩ : ByteArray) = true ∧ ∀ (r_7 : Ro [tR, Ty.it IntKind.i64]), r_7 = pR (valR (⟨#[(45 : UInt8), (51 : UInt8), (47 : UInt8), (50 : UInt8)]⟩ : ByteArray), (0 : Int)) → ((fchk (toFr r.2.1) = (0 : Int) ∧ toN (toFr r.2.1).num < (100 : Nat) ∧ toN (toFr r.2.1).den < (100 : Nat)) ∧ decide (r.2.2.1 = (0 : El (Ty.it IntKind.i64)) ∧ txR (toFr r.2.1) = (⟨#[(45 : UInt8), (51 : UInt8), (47 : UInt8), (50 : UInt8)]⟩ : ByteArray)) = true) ∧ ((fchk (toFr r_3.2.1) = (0 : Int) ∧ toN (toFr r_3.2.1).num < (100 : Nat) ∧ toN (toFr r_3.2.1).den < (100 : Nat)) ∧ decide (r_3.2.2.1 = (0 : El (Ty.it IntKind.i64)) ∧ txR (toFr r_3.2.1) = (⟨#[(53 : UInt8), (47 : UInt8), (54 : UInt8)]⟩ : ByteArray)) = true) ∧ ((fchk (toFr r_6.2.1) = (0 : Int) ∧ toN (toFr r_6.2.1).num < (100 : Nat) ∧ toN (toFr r_6.2.1).den < (100 : Nat)) ∧ decide (r_6.2.2.1 = (0 : El (Ty.it IntKind.i64)) ∧ txR (toFr r_6.2.1) = (⟨#[(45 : UInt8), (50 : UInt8)]⟩ : ByteArray)) = true) ∧ ((fchk (toFr r_7.2.1) = (0 : Int) ∧ toN (toFr r_7.2.1).num < (100 : Nat) ∧ toN (toFr r_7.2.1).den < (100 : Nat)) ∧ decide (r_7.2.2.1 = (0 : El (Ty.it IntKind.i64)) ∧ txR (toFr r_7.2.1) = (⟨#[(45 : UInt8), (51 : UInt8), (47 : UInt8), (50 : UInt8)]⟩ : ByteArray)) = true) ∧ decide (toFr r.2.1 = toFr r_7.2.1) = true ∧ (true, ()) = (true, ())
theorem w_f3awake (y : El sp_f3awake.q) (x : Els sp_f3awake.ps) : aW c_f3awake (iv_f3awake y x) Tryz.f57 sp_f3awake y x = F_f3awake y x := by kernel_rfl
theorem m_f3awake (y : El (.un)) (x : Els []) (h2 : wfE (.un) y) (h3 : wfEs [] x) : F_f3awake y x := by
  unfold F_f3awake
  rw [r3_64, r3_12, r3_13, r3_14]
  rintro _ rfl _ rfl _ rfl _ hr
  obtain rfl := hr.trans (congrArg pR r3_add)
  rintro _ rfl _ rfl _ hr
  obtain rfl := hr.trans (congrArg pR r3_quo)
  refine ⟨r3_ok, ?_⟩
  intro r hr
  obtain rfl := hr.trans (congrArg (fun f => pR (f, 0)) r3_val)
  exact ⟨⟨sP_s3 (q := -3/2) (by decide +kernel) (by decide +kernel) (by decide +kernel), decide_eq_true ⟨rfl, tx_m32⟩⟩, ⟨sP_s3 (q := 5/6) (by decide +kernel) (by decide +kernel) (by decide +kernel), decide_eq_true ⟨rfl, tx_56⟩⟩, ⟨sP_s3 (q := -2) (by decide +kernel) (by decide +kernel) (by decide +kernel), decide_eq_true ⟨rfl, tx_m2⟩⟩, ⟨sP_s3 (q := -3/2) (by decide +kernel) (by decide +kernel) (by decide +kernel), decide_eq_true ⟨rfl, tx_m32⟩⟩, decide_eq_true rfl, rfl⟩
theorem fo_f3awake : FnOk Tryz.prog 57 sp_f3awake := fnOk_of (C := c_f3awake) iv_f3awake Tryz.func57 rfl (by kernel_rfl) tys_ok (prims_cons (spec_prim fo_rSmall) (prims_cons (spec_prim fo_rAdd) (prims_cons (spec_prim fo_f3small) (prims_cons (spec_prim fo_rQuo) (prims_cons (spec_prim fo_rParse) (prims_cons (pr_sure (spec_prim fo_f3is)) (prims_cons (pr_sure (spec_prim fo_rSame)) prims_nil))))))) mixed_ (Nat.le_refl _) rfl fun y x h1 h2 h3 h4 =>
  Eq.mpr (w_f3awake y x) (m_f3awake y x h2 h3)
theorem not_long {f : Fr} (h : fchk f = 0) (k : lngF f = false) : f.num.length ≤ 60 ∧ f.den.length ≤ 60 := by
  obtain ⟨l1, l2⟩ := fchk_ln h
  unfold lngF isLong at k
  simp only [Bool.or_eq_false_iff, decide_eq_false_iff_not] at k
  omega
abbrev prE (t : ByteArray × Int × Unit) : El .un × Els [.st, .it .i64] := ((), t)
theorem law_back {f : Fr} (wf : f.Wf) (h : fchk f = 0) (k : lngF f = false) : (txG f).size ≤ 3000 ∧ parRG (txG f) = (f, 0) := by
  obtain ⟨l1, l2⟩ := not_long h k
  obtain ⟨q, rfl, _⟩ := fchk_ok wf h
  exact back_of l1 l2
noncomputable def sp_lawRatioBack : Spec := { q := .un, ps := [tR, .st], rs := [.bo], fresh := true, pre := fun _ _ => none, post := fun _ _ => ((), (true, ())) }
noncomputable def iv_lawRatioBack (y : El sp_lawRatioBack.q) (x : Els sp_lawRatioBack.ps) : Nat → Option Inv := fun _ => none
noncomputable abbrev c_lawRatioBack : Cfg := cfgS (Tryz.f9).ntmps false [(57, p_sure (sp_f3awake.prim)), (48, sp_kLong.prim), (50, sp_rPrintG.prim), (58, sp_rCheck.prim), (52, sp_rParseG.prim), (19, p_sure (sp_rSame.prim))]
def F_lawRatioBack (y : El sp_lawRatioBack.q) (x : Els sp_lawRatioBack.ps) : Prop :=
  true = true ∧ ∀ (r : Ro [Ty.bo]), r = ((), longs [x.1], ()) → (r.2.1 = true → (true, ()) = (true, ())) ∧ (r.2.1 = false → (decide ((↑(ByteArray.size x.2.1) : Int) > (3000 : Int)) = true → (true, ()) = (true, ())) ∧ (decide ((↑(ByteArray.size x.2.1) : Int) > (3000 : Int)) = false → ∀ (r : Ro [Ty.st, Ty.it IntKind.i64]), r = ((), prR (toFr x.1)) → ∀ (r_1 : Ro [Ty.it IntKind.i64]), r_1 = ((), fchk (toFr x.1), ()) → ((r.2.2.1 != r_1.2.1) = true → (false, ()) = (true, ())) ∧ ((r.2.2.1 != r_1.2.1) = false → ((r.2.2.1 == (0 : Int)) = true → (ByteArray.size r.2.1 ≤ (3000 : Nat) ∨ (65536 : Nat) < ByteArray.size r.2.1) ∧ ∀ (r_2 : Ro [tR, Ty.it IntKind.i64]), r_2 = pR (parRG r.2.1) → ((r_2.2.2.1 != (0 : Int)) = true → (false, ()) = (true, ())) ∧ ((r_2.2.2.1 != (0 : Int)) = false → decide (toFr r_2.2.1 = toFr x.1) = true ∧ (ByteArray.size x.2.1 ≤ (3000 : Nat) ∨ (65536 : Nat) < ByteArray.size x.2.1) ∧ ∀ (r : Ro [tR, Ty.it IntKind.i64]), r = pR (parRG x.2.1) → ((r.2.2.1 != (0 : Int)) = true → ((-9223372036854775808 : Int) ≤ lenM (0 : Nat) (Ty.it IntKind.u32) r.2.1.2.1 + lenM (0 : Nat) (Ty.it IntKind.u32) r.2.1.2.2.1 ∧ lenM (0 : Nat) (Ty.it IntKind.u32) r.2.1.2.1 + lenM (0 : Nat) (Ty.it IntKind.u32) r.2.1.2.2.1 ≤ (9223372036854775807 : Int)) ∧ (lenM (0 : Nat) (Ty.it IntKind.u32) r.2.1.2.1 + lenM (0 : Nat) (Ty.it IntKind.u32) r.2.1.2.2.1 == (0 : Int), ()) = (true, ())) ∧ ((r.2.2.1 != (0 : Int)) = false → ∀ (r_3 : Ro [Ty.st, Ty.it IntKind.i64]), r_3 = ((), prR (toFr r.2.1)) → ((r_3.2.2.1 == (0 : Int)) = true → ((ByteArray.toList r_3.2.1 == ByteArray.toList x.2.1) = true → ∀ (r_4 : Ro [Ty.it IntKind.i64]), r_4 = ((), fchk (toFr r.2.1), ()) → (r_4.2.1 == (0 : Int), ()) = (true, ())) ∧ ((ByteArray.toList r_3.2.1 == ByteArray.toList x.2.1) = false → (false, ()) = (true, ()))) ∧ ((r_3.2.2.1 == (0 : Int)) = false → (false, ()) = (true, ()))))) ∧ ((r.2.2.1 == (0 : Int)) = false → (ByteArray.size x.2.1 ≤ (3000 : Nat) ∨ (65536 : Nat) < ByteArray.size x.2.1) ∧ ∀ (r : Ro [tR, Ty.it IntKind.i64]), r = pR (parRG x.2.1) → ((r.2.2.1 != (0 : Int)) = true → ((-9223372036854775808 : Int) ≤ lenM (0 : Nat) (Ty.it IntKind.u32) r.2.1.2.1 + lenM (0 : Nat) (Ty.it IntKind.u32) r.2.1.2.2.1 ∧ lenM (0 : Nat) (Ty.it IntKind.u32) r.2.1.2.1 + lenM (0 : Nat) (Ty.it IntKind.u32) r.2.1.2.2.1 ≤ (9223372036854775807 : Int)) ∧ (lenM (0 : Nat) (Ty.it IntKind.u32) r.2.1.2.1 + lenM (0 : Nat) (Ty.it IntKind.u32) r.2.1.2.2.1 == (0 : Int), ()) = (true, ())) ∧ ((r.2.2.1 != (0 : Int)) = false → ∀ (r_2 : Ro [Ty.st, Ty.it IntKind.i64]), r_2 = ((), prR (toFr r.2.1)) → ((r_2.2.2.1 == (0 : Int)) = true → ((ByteArray.toList r_2.2.1 == ByteArray.toList x.2.1) = true → ∀ (r_3 : Ro [Ty.it IntKind.i64]), r_3 = ((), fchk (toFr r.2.1), ()) → (r_3.2.1 == (0 : Int), ()) = (true, ())) ∧ ((ByteArray.toList r_2.2.1 == ByteArray.toList x.2.1) = false → (false, ()) = (true, ()))) ∧ ((r_2.2.2.1 == (0 : Int)) = false → (false, ()) = (true, ())))))))
theorem w_lawRatioBack (y : El sp_lawRatioBack.q) (x : Els sp_lawRatioBack.ps) : aW c_lawRatioBack (iv_lawRatioBack y x) Tryz.f9 sp_lawRatioBack y x = F_lawRatioBack y x := by kernel_rfl
theorem m_lawRatioBack (y : El (.un)) (x : Els [tR, .st]) (h2 : wfE (.un) y) (h3 : wfEs [tR, .st] x) : F_lawRatioBack y x := by
  unfold F_lawRatioBack
  refine ⟨rfl, ?_⟩
  rintro _ rfl
  refine ⟨fun _ => rfl, fun hl => ⟨fun _ => rfl, fun hs => ?_⟩⟩
  have hs3 : ByteArray.size x.2.1 ≤ 3000 := Int.ofNat_le.1 (gtF hs)
  have hl : lngF (toFr x.1) = false := by
    have hl : (lngF (toFr x.1) || false) = false := hl
    rw [Bool.or_false] at hl
    exact hl
  intro r hr
  rintro _ rfl
  by_cases hc : fchk (toFr x.1) = 0
  · obtain rfl := hr.trans (congrArg prE (prR_ok hc))
    obtain ⟨b1, b2⟩ := law_back (wf_fr h3.1) hc hl
    refine ⟨fun h => absurd hc.symm (neT h), fun _ => ⟨fun _ => ⟨.inl b1, ?_⟩, fun h => Bool.noConfusion (show true = false from h)⟩⟩
    intro r hr
    obtain rfl := hr.trans (congrArg pR b2)
    refine ⟨fun h => Bool.noConfusion (show false = true from h), fun _ => ⟨decide_eq_true rfl, ?_⟩⟩
    refine ⟨.inl hs3, ?_⟩
    intro r hr
    by_cases ho : okRG x.2.1 = true
    · obtain ⟨t1, t2⟩ := text_of hs3 ho
      obtain rfl := hr.trans (congrArg pR (pg_ok hs3 ho))
      refine ⟨fun h => Bool.noConfusion (show false = true from h), fun _ => ?_⟩
      intro r hr
      obtain rfl := hr.trans (congrArg prE ((prR_ok t1).trans (congrArg (fun b => (b, (0 : Int), ())) t2)))
      refine ⟨fun _ => ⟨fun _ => ?_, fun h => ?_⟩, fun h => Bool.noConfusion (show true = false from h)⟩
      · rintro _ rfl
        exact congrArg (fun e : Int => (e == 0, ())) t1
      · exact absurd (beq_self_eq_true (ByteArray.toList x.2.1)) (by rw [show (ByteArray.toList x.2.1 == ByteArray.toList x.2.1) = false from h]; decide)
    · obtain rfl := hr.trans (congrArg pR (pg_bad hs3 ho))
      exact ⟨fun _ => ⟨(show (-9223372036854775808 : Int) ≤ 0 ∧ (0 : Int) ≤ 9223372036854775807 by decide), rfl⟩, fun h => Bool.noConfusion (show true = false from h)⟩
  · obtain rfl := hr.trans (congrArg prE (prR_bad hc))
    refine ⟨fun h => absurd rfl (neT h), fun _ => ⟨fun h => absurd (eqT h) hc, fun _ => ?_⟩⟩
    refine ⟨.inl hs3, ?_⟩
    intro r hr
    by_cases ho : okRG x.2.1 = true
    · obtain ⟨t1, t2⟩ := text_of hs3 ho
      obtain rfl := hr.trans (congrArg pR (pg_ok hs3 ho))
      refine ⟨fun h => Bool.noConfusion (show false = true from h), fun _ => ?_⟩
      intro r hr
      obtain rfl := hr.trans (congrArg prE ((prR_ok t1).trans (congrArg (fun b => (b, (0 : Int), ())) t2)))
      refine ⟨fun _ => ⟨fun _ => ?_, fun h => ?_⟩, fun h => Bool.noConfusion (show true = false from h)⟩
      · rintro _ rfl
        exact congrArg (fun e : Int => (e == 0, ())) t1
      · exact absurd (beq_self_eq_true (ByteArray.toList x.2.1)) (by rw [show (ByteArray.toList x.2.1 == ByteArray.toList x.2.1) = false from h]; decide)
    · obtain rfl := hr.trans (congrArg pR (pg_bad hs3 ho))
      exact ⟨fun _ => ⟨(show (-9223372036854775808 : Int) ≤ 0 ∧ (0 : Int) ≤ 9223372036854775807 by decide), rfl⟩, fun h => Bool.noConfusion (show true = false from h)⟩
theorem fo_lawRatioBack : FnOk Tryz.prog 9 sp_lawRatioBack := fnOk_of (C := c_lawRatioBack) iv_lawRatioBack Tryz.func9 rfl (by kernel_rfl) tys_ok (prims_cons (pr_sure (spec_prim fo_f3awake)) (prims_cons (spec_prim fo_kLong) (prims_cons (spec_prim fo_rPrintG) (prims_cons (spec_prim fo_rCheck) (prims_cons (spec_prim fo_rParseG) (prims_cons (pr_sure (spec_prim fo_rSame)) prims_nil)))))) mixed_ (Nat.le_refl _) rfl fun y x h1 h2 h3 h4 =>
  Eq.mpr (w_lawRatioBack y x) (m_lawRatioBack y x h2 h3)
end Go.Proofs.YtemlaompalbgiaaGreatDoor
namespace Go.Proofs.YtemlaompalbgiaaGreatDoor
open Go.ChangeShapes Go.WideShapes Go.ChangeAt Go.RowKit Go.Joins Go.Deep
set_option linter.unusedVariables false
section
variable {H : Type} {enc : TypeId × Value → H} {P : Program} {w : World} {base : Nat} {spare : Nat → Bool} {held : Bool}
end
theorem mk_own : ownKnob Tryz.prog.godebug = none := by kernel_rfl
theorem mk_laidOut : laidOutB Tryz.prog = true := by kernel_rfl
end Go.Proofs.YtemlaompalbgiaaGreatDoor
