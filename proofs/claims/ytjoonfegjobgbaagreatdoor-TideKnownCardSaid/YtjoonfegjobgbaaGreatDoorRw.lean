/- Texts of this claim, joined: Q1 P17 B20 B21 B22 P9 B23 B24 P14 W0 W1 Q3 P18. -/
import Derived.Lib.IndexLaws
import Derived.Test.YtjoonfegjobgbaaGreatDoorRv
set_option linter.unusedVariables false
set_option linter.unusedSimpArgs false
set_option maxRecDepth 100000
namespace Go.Proofs.YtjoonfegjobgbaaGreatDoor
open Go Go.RowKit
def txG (f : Fr) : ByteArray := if toN f.den = 1 then (if f.neg = true then ⟨#[45]⟩ ++ dcB (toN f.num) else dcB (toN f.num)) else (if f.neg = true then ⟨#[45]⟩ ++ dcB (toN f.num) else dcB (toN f.num)) ++ (⟨#[47]⟩ ++ dcB (toN f.den))
def prR (f : Fr) : ByteArray × Int × Unit := if fchk f = 0 then (txG f, 0, ()) else (⟨#[]⟩, fchk f, ())
theorem fchk_ln {f : Fr} (h : fchk f = 0) : f.num.length ≤ 2048 ∧ f.den.length ≤ 2048 := by
  unfold fchk at h
  split at h
  · cases h
  · split at h
    · cases h
    · constructor <;> omega
theorem dcW {l : List Int} (h : nrm l) (k : l.length ≤ 2048) : (dcB (toN l)).size ≤ 20480 := by
  rw [dcB_size]
  exact dec_words 2047 (toN l) (Nat.le_trans (Nat.le_of_eq (congrArg List.length h.symm)) k)
theorem prR_ok {f : Fr} (h : fchk f = 0) : prR f = (txG f, 0, ()) := if_pos h
theorem prR_bad {f : Fr} (h : fchk f ≠ 0) : prR f = (⟨#[]⟩, fchk f, ()) := if_neg h
theorem txG_1n {f : Fr} (h : toN f.den = 1) (k : f.neg = true) : txG f = ⟨#[45]⟩ ++ dcB (toN f.num) := (if_pos h).trans (if_pos k)
theorem txG_1p {f : Fr} (h : toN f.den = 1) (k : f.neg = false) : txG f = dcB (toN f.num) := (if_pos h).trans (if_neg (by rw [k]; decide))
theorem txG_2n {f : Fr} (h : toN f.den ≠ 1) (k : f.neg = true) : txG f = ⟨#[45]⟩ ++ dcB (toN f.num) ++ (⟨#[47]⟩ ++ dcB (toN f.den)) := by
  unfold txG
  rw [if_neg h, if_pos k]
theorem txG_2p {f : Fr} (h : toN f.den ≠ 1) (k : f.neg = false) : txG f = dcB (toN f.num) ++ (⟨#[47]⟩ ++ dcB (toN f.den)) := by
  unfold txG
  rw [if_neg h, if_neg (by rw [k]; decide)]
theorem sz_1 (b : ByteArray) (h : b.size ≤ 20480) : (⟨#[45]⟩ : ByteArray).size + b.size ≤ 9223372036854775807 := by
  have : (⟨#[45]⟩ : ByteArray).size = 1 := rfl
  omega
theorem sz_2 (b : ByteArray) (h : b.size ≤ 20480) : (⟨#[47]⟩ : ByteArray).size + b.size ≤ 9223372036854775807 := by
  have : (⟨#[47]⟩ : ByteArray).size = 1 := rfl
  omega
theorem sz_3 (a b : ByteArray) (h : a.size ≤ 20480) (k : b.size ≤ 20480) : (⟨#[45]⟩ ++ a : ByteArray).size + (⟨#[47]⟩ ++ b : ByteArray).size ≤ 9223372036854775807 := by
  rw [ByteArray.size_append, ByteArray.size_append]
  have : (⟨#[45]⟩ : ByteArray).size = 1 := rfl
  have : (⟨#[47]⟩ : ByteArray).size = 1 := rfl
  omega
theorem sz_4 (a b : ByteArray) (h : a.size ≤ 20480) (k : b.size ≤ 20480) : a.size + (⟨#[47]⟩ ++ b : ByteArray).size ≤ 9223372036854775807 := by
  rw [ByteArray.size_append]
  have : (⟨#[47]⟩ : ByteArray).size = 1 := rfl
  omega
noncomputable def sp_rPrintG : Spec := { q := .un, ps := [tR], rs := [.st, .it .i64], fresh := true, pre := fun _ _ => none, post := fun _ x => ((), prR (toFr x.1)) }
noncomputable def iv_rPrintG (y : El sp_rPrintG.q) (x : Els sp_rPrintG.ps) : Nat → Option Inv := fun _ => none
noncomputable abbrev c_rPrintG : Cfg := cfgS (Tryz.f105).ntmps false [(24, sp_rCheck.prim), (150, sp_aPrintG.prim), (84, sp_aCmp.prim)]
def F_rPrintG (y : El sp_rPrintG.q) (x : Els sp_rPrintG.ps) : Prop :=
  ∀ (r : Ro [Ty.it IntKind.i64]), r = ((), fchk (toFr x.1), ()) → ((r.2.1 != (0 : Int)) = true → ((⟨#[]⟩ : ByteArray), r.2) = prR (toFr x.1)) ∧ ((r.2.1 != (0 : Int)) = false → (x.1.2.1 = wd (toN x.1.2.1) ∧ List.length x.1.2.1 ≤ (2048 : Nat)) ∧ ∀ (r : Ro [Ty.st, Ty.it IntKind.i64]), r = ((), dcB (toN x.1.2.1), (0 : El (Ty.it IntKind.i64)), ()) → (x.1.1 = true → (⟨#[(45 : UInt8)]⟩ : ByteArray).size + ByteArray.size r.2.1 ≤ (9223372036854775807 : Nat) ∧ (x.1.2.2.1 = wd (toN x.1.2.2.1) ∧ [(1 : Int)] = wd (toN [(1 : Int)])) ∧ ∀ (r_1 : Ro [Ty.it IntKind.i64]), r_1 = ((), cmp (toN x.1.2.2.1) (toN [(1 : Int)]), ()) → ((r_1.2.1 != (0 : Int)) = true → (x.1.2.2.1 = wd (toN x.1.2.2.1) ∧ List.length x.1.2.2.1 ≤ (2048 : Nat)) ∧ ∀ (r_2 : Ro [Ty.st, Ty.it IntKind.i64]), r_2 = ((), dcB (toN x.1.2.2.1), (0 : El (Ty.it IntKind.i64)), ()) → (⟨#[(47 : UInt8)]⟩ : ByteArray).size + ByteArray.size r_2.2.1 ≤ (9223372036854775807 : Nat) ∧ ((⟨#[(45 : UInt8)]⟩ : ByteArray) ++ r.2.1).size + ((⟨#[(47 : UInt8)]⟩ : ByteArray) ++ r_2.2.1).size ≤ (9223372036854775807 : Nat) ∧ ((⟨#[(45 : UInt8)]⟩ : ByteArray) ++ r.2.1 ++ ((⟨#[(47 : UInt8)]⟩ : ByteArray) ++ r_2.2.1), (0 : Int), ()) = prR (toFr x.1)) ∧ ((r_1.2.1 != (0 : Int)) = false → ((⟨#[(45 : UInt8)]⟩ : ByteArray) ++ r.2.1, (0 : Int), ()) = prR (toFr x.1))) ∧ (x.1.1 = false → (x.1.2.2.1 = wd (toN x.1.2.2.1) ∧ [(1 : Int)] = wd (toN [(1 : Int)])) ∧ ∀ (r_1 : Ro [Ty.it IntKind.i64]), r_1 = ((), cmp (toN x.1.2.2.1) (toN [(1 : Int)]), ()) → ((r_1.2.1 != (0 : Int)) = true → (x.1.2.2.1 = wd (toN x.1.2.2.1) ∧ List.length x.1.2.2.1 ≤ (2048 : Nat)) ∧ ∀ (r_2 : Ro [Ty.st, Ty.it IntKind.i64]), r_2 = ((), dcB (toN x.1.2.2.1), (0 : El (Ty.it IntKind.i64)), ()) → (⟨#[(47 : UInt8)]⟩ : ByteArray).size + ByteArray.size r_2.2.1 ≤ (9223372036854775807 : Nat) ∧ ByteArray.size r.2.1 + ((⟨#[(47 : UInt8)]⟩ : ByteArray) ++ r_2.2.1).size ≤ (9223372036854775807 : Nat) ∧ (r.2.1 ++ ((⟨#[(47 : UInt8)]⟩ : ByteArray) ++ r_2.2.1), (0 : Int), ()) = prR (toFr x.1)) ∧ ((r_1.2.1 != (0 : Int)) = false → (r.2.1, (0 : Int), ()) = prR (toFr x.1))))
theorem w_rPrintG (y : El sp_rPrintG.q) (x : Els sp_rPrintG.ps) : aW c_rPrintG (iv_rPrintG y x) Tryz.f105 sp_rPrintG y x = F_rPrintG y x := by kernel_rfl
theorem m_rPrintG (y : El (.un)) (x : Els [tR]) (h2 : wfE (.un) y) (h3 : wfEs [tR] x) : F_rPrintG y x := by
  unfold F_rPrintG
  rintro _ rfl
  refine ⟨fun h => (prR_bad (neT h)).symm, fun h => ?_⟩
  have q0 : fchk (toFr x.1) = 0 := neF h
  obtain ⟨n1, n2⟩ := nrm_of (wf_fr h3.1) q0
  obtain ⟨l1, l2⟩ := fchk_ln q0
  have w1 := dcW n1 l1
  have w2 := dcW n2 l2
  refine ⟨⟨n1, l1⟩, ?_⟩
  rintro _ rfl
  refine ⟨fun hn => ⟨sz_1 _ w1, ⟨n2, nrm_1⟩, ?_⟩, fun hn => ⟨⟨n2, nrm_1⟩, ?_⟩⟩
  · rintro _ rfl
    refine ⟨fun hd => ⟨⟨n2, l2⟩, ?_⟩, fun hd => ?_⟩
    · have hd := cmp1_T hd
      rintro _ rfl
      exact ⟨sz_2 _ w2, sz_3 _ _ w1 w2, ((prR_ok q0).trans (congrArg (fun b => (b, (0 : Int), ())) (txG_2n hd hn))).symm⟩
    · have hd := cmp1_F hd
      exact ((prR_ok q0).trans (congrArg (fun b => (b, (0 : Int), ())) (txG_1n hd hn))).symm
  · rintro _ rfl
    refine ⟨fun hd => ⟨⟨n2, l2⟩, ?_⟩, fun hd => ?_⟩
    · have hd := cmp1_T hd
      rintro _ rfl
      exact ⟨sz_2 _ w2, sz_4 _ _ w1 w2, ((prR_ok q0).trans (congrArg (fun b => (b, (0 : Int), ())) (txG_2p hd hn))).symm⟩
    · have hd := cmp1_F hd
      exact ((prR_ok q0).trans (congrArg (fun b => (b, (0 : Int), ())) (txG_1p hd hn))).symm
theorem fo_rPrintG : FnOk Tryz.prog 105 sp_rPrintG := fnOk_of (C := c_rPrintG) iv_rPrintG Tryz.func105 rfl (by kernel_rfl) tys_ok (prims_cons (spec_prim fo_rCheck) (prims_cons (spec_prim fo_aPrintG) (prims_cons (spec_prim fo_aCmp) prims_nil))) mixed_ (Nat.le_refl _) rfl fun y x h1 h2 h3 h4 =>
  Eq.mpr (w_rPrintG y x) (m_rPrintG y x h2 h3)
def nV (s : ByteArray) : Nat := decV s.data.toList
def denG (s : ByteArray) : Nat := bif (cutB s b_sl).2.2 then nV (cutB s b_sl).2.1 else 1
def okRG (s : ByteArray) : Bool := canD (topR s).1.data.toList && !((topR s).2 && decide (nV (topR s).1 = 0)) && (bif (cutB s b_sl).2.2 then canD (cutB s b_sl).2.1.data.toList && decide (1 < nV (cutB s b_sl).2.1) else true) && decide (Nat.gcd (nV (topR s).1) (denG s) = 1)
def parRG (s : ByteArray) : Fr × Int := if 65536 < s.size then (Fr.zero, 3) else if okRG s = true then (⟨(topR s).2, wd (nV (topR s).1), wd (denG s)⟩, 0) else (Fr.zero, 130)
theorem okRG_un {s : ByteArray} (h : okRG s = true) : canD (topR s).1.data.toList = true ∧ ((topR s).2 = true → nV (topR s).1 ≠ 0) ∧ ((cutB s b_sl).2.2 = true → canD (cutB s b_sl).2.1.data.toList = true ∧ 1 < nV (cutB s b_sl).2.1) ∧ Nat.gcd (nV (topR s).1) (denG s) = 1 := by
  unfold okRG at h
  simp only [Bool.and_eq_true, decide_eq_true_eq] at h
  obtain ⟨⟨⟨h2, h3⟩, h4⟩, h5⟩ := h
  refine ⟨h2, fun hn hz => ?_, fun hb => ?_, h5⟩
  · rw [hn, decide_eq_true hz] at h3
    cases h3
  · rw [hb] at h4
    simp only [cond_true, Bool.and_eq_true, decide_eq_true_eq] at h4
    exact h4
theorem okRG_mk {s : ByteArray} (h2 : canD (topR s).1.data.toList = true) (h3 : (topR s).2 = true → nV (topR s).1 ≠ 0) (h4 : (cutB s b_sl).2.2 = true → canD (cutB s b_sl).2.1.data.toList = true ∧ 1 < nV (cutB s b_sl).2.1) (h5 : Nat.gcd (nV (topR s).1) (denG s) = 1) : okRG s = true := by
  unfold okRG
  simp only [Bool.and_eq_true, decide_eq_true_eq]
  refine ⟨⟨⟨h2, ?_⟩, ?_⟩, h5⟩
  · cases hn : (topR s).2 with
    | false => rfl
    | true => rw [decide_eq_false (h3 hn)]; rfl
  · cases hb : (cutB s b_sl).2.2 with
    | false => rfl
    | true =>
      simp only [cond_true, Bool.and_eq_true, decide_eq_true_eq]
      exact h4 hb
theorem pg_long {s : ByteArray} (h : 65536 < s.size) : parRG s = (Fr.zero, 3) := if_pos h
theorem pg_bad {s : ByteArray} (h : s.size ≤ 3000) (k : ¬ okRG s = true) : parRG s = (Fr.zero, 130) := (if_neg (by omega)).trans (if_neg k)
theorem pg_ok {s : ByteArray} (h : s.size ≤ 3000) (k : okRG s = true) : parRG s = (⟨(topR s).2, wd (nV (topR s).1), wd (denG s)⟩, 0) := (if_neg (by omega)).trans (if_pos k)
theorem cut_sz (s p : ByteArray) : (cutB s p).1.size ≤ s.size ∧ (cutB s p).2.1.size ≤ s.size := by
  unfold cutB
  split
  · refine ⟨?_, ?_⟩
    all_goals
      dsimp only
      rw [← ba_len, ex_list, List.length_take, List.length_drop, ba_len]
      omega
  · exact ⟨Nat.le_refl _, Nat.zero_le _⟩
theorem dec_wds9 {l : List UInt8} {j : Nat} (h : l.all isD = true) (hl : l.length ≤ 9 * j) : (wd (decV l)).length ≤ j := by
  refine wd_len_le _ j ?_
  have h1 := decV_lt h
  have h2 : 10 ^ l.length ≤ 10 ^ (9 * j) := Nat.pow_le_pow_right (by decide) hl
  have h3 : (10 ^ 9) ^ j ≤ 4294967296 ^ j := Nat.pow_le_pow_left (by decide) j
  rw [← Nat.pow_mul] at h3
  have h4 : pw j = ((4294967296 ^ j : Nat) : Int) := by unfold pw; rw [Int.natCast_pow]; rfl
  omega
theorem can_wds {s : ByteArray} (h : s.size ≤ 3000) (k : canD s.data.toList = true) : (wd (nV s)).length ≤ 2048 := Nat.le_trans (dec_wds9 (j := 334) (can_all k) (by rw [ba_len]; omega)) (by decide)
theorem cmp_le1 {v : Nat} (h : ¬ 1 < v) : (cmp (toN (wd v)) (toN [1]) : Int) ≤ 0 := by
  rw [toN_wd, toN_1]
  unfold cmp
  repeat' split
  all_goals first | decide | omega
noncomputable def sp_rParseG : Spec := { q := .un, ps := [.st], rs := [tR, .it .i64], fresh := true, pre := fun _ x => some (ByteArray.size x.1 ≤ 3000 ∨ 65536 < ByteArray.size x.1), post := fun _ x => pR (parRG x.1) }
noncomputable def iv_rParseG (y : El sp_rParseG.q) (x : Els sp_rParseG.ps) : Nat → Option Inv := fun _ => none
noncomputable abbrev c_rParseG : Cfg := cfgS (Tryz.f74).ntmps false [(108, sp_sCut.prim), (132, sp_sCutP.prim), (133, sp_aParseG.prim), (84, sp_aCmp.prim), (87, sp_aGcd.prim), (85, sp_rlong.prim)]
def F_rParseG (y : El sp_rParseG.q) (x : Els sp_rParseG.ps) : Prop :=
  (decide ((↑(ByteArray.size x.1) : Int) > (65536 : Int)) = true → ((false, [], [], ()), (3 : Int), ()) = (pR (parRG x.1)).2) ∧ (decide ((↑(ByteArray.size x.1) : Int) > (65536 : Int)) = false → (⟨#[(47 : UInt8)]⟩ : ByteArray).size = (1 : Nat) ∧ ∀ (r : Ro [Ty.st, Ty.st, Ty.bo]), r = ((), (cutB x.1 (⟨#[(47 : UInt8)]⟩ : ByteArray)).1, (cutB x.1 (⟨#[(47 : UInt8)]⟩ : ByteArray)).2.1, (cutB x.1 (⟨#[(47 : UInt8)]⟩ : ByteArray)).2.2, ()) → ∀ (r_1 : Ro [Ty.st, Ty.bo]), r_1 = ((), (cutP r.2.1 (⟨#[(45 : UInt8)]⟩ : ByteArray)).1, (cutP r.2.1 (⟨#[(45 : UInt8)]⟩ : ByteArray)).2, ()) → (ByteArray.size r_1.2.1 ≤ (3000 : Nat) ∨ (65536 : Nat) < ByteArray.size r_1.2.1) ∧ ∀ (r_2 : Ro [tW32, Ty.it IntKind.i64]), r_2 = ((), parN r_1.2.1) → ((r_2.2.2.1 != (0 : Int)) = true → ((false, [], [], ()), (130 : Int), ()) = (pR (parRG x.1)).2) ∧ ((r_2.2.2.1 != (0 : Int)) = false → (r_1.2.2.1 = true → ((lenM (0 : Nat) (Ty.it IntKind.u32) r_2.2.1 == (0 : Int)) = true → ((false, [], [], ()), (130 : Int), ()) = (pR (parRG x.1)).2) ∧ ((lenM (0 : Nat) (Ty.it IntKind.u32) r_2.2.1 == (0 : Int)) = false → (r.2.2.2.1 = true → (ByteArray.size r.2.2.1 ≤ (3000 : Nat) ∨ (65536 : Nat) < ByteArray.size r.2.2.1) ∧ ∀ (r_3 : Ro [tW32, Ty.it IntKind.i64]), r_3 = ((), parN r.2.2.1) → ((r_3.2.2.1 != (0 : Int)) = true → ((false, [], [], ()), (130 : Int), ()) = (pR (parRG x.1)).2) ∧ ((r_3.2.2.1 != (0 : Int)) = false → (r_3.2.1 = wd (toN r_3.2.1) ∧ [(1 : Int)] = wd (toN [(1 : Int)])) ∧ ∀ (r : Ro [Ty.it IntKind.i64]), r = ((), cmp (toN r_3.2.1) (toN [(1 : Int)]), ()) → (decide (r.2.1 ≤ (0 : Int)) = true → ((false, [], [], ()), (130 : Int), ()) = (pR (parRG x.1)).2) ∧ (decide (r.2.1 ≤ (0 : Int)) = false → (r_2.2.1 = wd (toN r_2.2.1) ∧ r_3.2.1 = wd (toN r_3.2.1) ∧ List.length r_2.2.1 ≤ (8192 : Nat) ∧ List.length r_3.2.1 ≤ (8192 : Nat)) ∧ ∀ (r : Ro [tW32, Ty.it IntKind.i64]), r = ((), wd ((toN r_2.2.1).gcd (toN r_3.2.1)), (0 : El (Ty.it IntKind.i64)), ()) → (r.2.1 = wd (toN r.2.1) ∧ [(1 : Int)] = wd (toN [(1 : Int)])) ∧ ∀ (r_4 : Ro [Ty.it IntKind.i64]), r_4 = ((), cmp (toN r.2.1) (toN [(1 : Int)]), ()) → ((r_4.2.1 != (0 : Int)) = true → ((false, [], [], ()), (130 : Int), ()) = (pR (parRG x.1)).2) ∧ ((r_4.2.1 != (0 : Int)) = false → ∀ (r : Ro [Ty.bo]), r = ((), decide ((2048 : Nat) < List.length r_2.2.1), ()) → (r.2.1 = true → ((false, [], [], ()), (3 : Int), ()) = (pR (parRG x.1)).2) ∧ (r.2.1 = false → ∀ (r : Ro [Ty.bo]), r = ((), decide ((2048 : Nat) < List.length r_3.2.1), ()) → (r.2.1 = true → ((false, [], [], ()), (3 : Int), ()) = (pR (parRG x.1)).2) ∧ (r.2.1 = false → ((r_1.2.2.1, r_2.2.1, r_3.2.1, ()), (0 : Int), ()) = (pR (parRG x.1)).2)))))) ∧ (r.2.2.2.1 = false → (r_2.2.1 = wd (toN r_2.2.1) ∧ [(1 : Int)] = wd (toN [(1 : Int)]) ∧ List.length r_2.2.1 ≤ (8192 : Nat) ∧ [(1 : Int)].length ≤ (8192 : Nat)) ∧ ∀ (r : Ro [tW32, Ty.it IntKind.i64]), r = ((), wd ((toN r_2.2.1).gcd (toN [(1 : Int)])), (0 : El (Ty.it IntKind.i64)), ()) → (r.2.1 = wd (toN r.2.1) ∧ [(1 : Int)] = wd (toN [(1 : Int)])) ∧ ∀ (r_3 : Ro [Ty.it IntKind.i64]), r_3 = ((), cmp (toN r.2.1) (toN [(1 : Int)]), ()) → ((r_3.2.1 != (0 : Int)) = true → ((false, [], [], ()), (130 : Int), ()) = (pR (parRG x.1)).2) ∧ ((r_3.2.1 != (0 : Int)) = false → ∀ (r : Ro [Ty.bo]), r = ((), decide ((2048 : Nat) < List.length r_2.2.1), ()) → (r.2.1 = true → ((false, [], [], ()), (3 : Int), ()) = (pR (parRG x.1)).2) ∧ (r.2.1 = false → ∀ (r : Ro [Ty.bo]), r = ((), decide ((2048 : Nat) < [(1 : Int)].length), ()) → (r.2.1 = true → ((false, [], [], ()), (3 : Int), ()) = (pR (parRG x.1)).2) ∧ (r.2.1 = false → ((r_1.2.2.1, r_2.2.1, [(1 : Int)], ()), (0 : Int), ()) = (pR (parRG x.1)).2)))))) ∧ (r_1.2.2.1 = false → (r.2.2.2.1 = true → (ByteArray.size r.2.2.1 ≤ (3000 : Nat) ∨ (65536 : Nat) < ByteArray.size r.2.2.1) ∧ ∀ (r_3 : Ro [tW32, Ty.it IntKind.i64]), r_3 = ((), parN r.2.2.1) → ((r_3.2.2.1 != (0 : Int)) = true → ((false, [], [], ()), (130 : Int), ()) = (pR (parRG x.1)).2) ∧ ((r_3.2.2.1 != (0 : Int)) = false → (r_3.2.1 = wd (toN r_3.2.1) ∧ [(1 : Int)] = wd (toN [(1 : Int)])) ∧ ∀ (r : Ro [Ty.it IntKind.i64]), r = ((), cmp (toN r_3.2.1) (toN [(1 : Int)]), ()) → (decide (r.2.1 ≤ (0 : Int)) = true → ((false, [], [], ()), (130 : Int), ()) = (pR (parRG x.1)).2) ∧ (decide (r.2.1 ≤ (0 : Int)) = false → (r_2.2.1 = wd (toN r_2.2.1) ∧ r_3.2.1 = wd (toN r_3.2.1) ∧ List.length r_2.2.1 ≤ (8192 : Nat) ∧ List.length r_3.2.1 ≤ (8192 : Nat)) ∧ ∀ (r : Ro [tW32, Ty.it IntKind.i64]), r = ((), wd ((toN r_2.2.1).gcd (toN r_3.2.1)), (0 : El (Ty.it IntKind.i64)), ()) → (r.2.1 = wd (toN r.2.1) ∧ [(1 : Int)] = wd (toN [(1 : Int)])) ∧ ∀ (r_4 : Ro [Ty.it IntKind.i64]), r_4 = ((), cmp (toN r.2.1) (toN [(1 : Int)]), ()) → ((r_4.2.1 != (0 : Int)) = true → ((false, [], [], ()), (130 : Int), ()) = (pR (parRG x.1)).2) ∧ ((r_4.2.1 != (0 : Int)) = false → ∀ (r : Ro [Ty.bo]), r = ((), decide ((2048 : Nat) < List.length r_2.2.1), ()) → (r.2.1 = true → ((false, [], [], ()), (3 : Int), ()) = (pR (parRG x.1)).2) ∧ (r.2.1 = false → ∀ (r : Ro [Ty.bo]), r = ((), decide ((2048 : Nat) < List.length r_3.2.1), ()) → (r.2.1 = true → ((false, [], [], ()), (3 : Int), ()) = (pR (parRG x.1)).2) ∧ (r.2.1 = false → ((r_1.2.2.1, r_2.2.1, r_3.2.1, ()), (0 : Int), ()) = (pR (parRG x.1)).2)))))) ∧ (r.2.2.2.1 = false → (r_2.2.1 = wd (toN r_2.2.1) ∧ [(1 : Int)] = wd (toN [(1 : Int)]) ∧ List.length r_2.2.1 ≤ (8192 : Nat) ∧ [(1 : Int)].length ≤ (8192 : Nat)) ∧ ∀ (r : Ro [tW32, Ty.it IntKind.i64]), r = ((), wd ((toN r_2.2.1).gcd (toN [(1 : Int)])), (0 : El (Ty.it IntKind.i64)), ()) → (r.2.1 = wd (toN r.2.1) ∧ [(1 : Int)] = wd (toN [(1 : Int)])) ∧ ∀ (r_3 : Ro [Ty.it IntKind.i64]), r_3 = ((), cmp (toN r.2.1) (toN [(1 : Int)]), ()) → ((r_3.2.1 != (0 : Int)) = true → ((false, [], [], ()), (130 : Int), ()) = (pR (parRG x.1)).2) ∧ ((r_3.2.1 != (0 : Int)) = false → ∀ (r : Ro [Ty.bo]), r = ((), decide ((2048 : Nat) < List.length r_2.2.1), ()) → (r.2.1 = true → ((false, [], [], ()), (3 : Int), ()) = (pR (parRG x.1)).2) ∧ (r.2.1 = false → ∀ (r : Ro [Ty.bo]), r = ((), decide ((2048 : Nat) < [(1 : Int)].length), ()) → (r.2.1 = true → ((false, [], [], ()), (3 : Int), ()) = (pR (parRG x.1)).2) ∧ (r.2.1 = false → ((r_1.2.2.1, r_2.2.1, [(1 : Int)], ()), (0 : Int), ()) = (pR (parRG x.1)).2)))))))
theorem w_rParseG (y : El sp_rParseG.q) (x : Els sp_rParseG.ps) : aW c_rParseG (iv_rParseG y x) Tryz.f74 sp_rParseG y x = F_rParseG y x := by kernel_rfl
theorem m_rParseG (y : El (.un)) (x : Els [.st]) (h2 : wfE (.un) y) (h3 : wfEs [.st] x) (h4 : ByteArray.size x.1 ≤ 3000 ∨ 65536 < ByteArray.size x.1) : F_rParseG y x := by
  unfold F_rParseG
  have hsz : ByteArray.size x.1 ≤ 3000 ∨ 65536 < ByteArray.size x.1 := h4
  refine ⟨fun h => congrArg (fun t => (pR t).2) (pg_long (Int.ofNat_lt.1 (gtT h))).symm, fun h => ⟨rfl, ?_⟩⟩
  have h3k : ByteArray.size x.1 ≤ 3000 := hsz.resolve_right (fun c => absurd (Int.ofNat_lt.2 c) (Int.not_lt.2 (gtF h)))
  rintro _ rfl _ rfl
  have t3k : (topR x.1).1.size ≤ 3000 := Nat.le_trans (cutP_size _ _) (Nat.le_trans (cut_sz x.1 b_sl).1 h3k)
  refine ⟨.inl t3k, ?_⟩
  intro r2 hr2
  by_cases c1 : canD (topR x.1).1.data.toList = true
  · have l1 := can_wds t3k c1
    obtain rfl := hr2.trans (congrArg (fun t => (((), t) : El .un × Els [tW32, .it .i64])) (par_ok t3k c1))
    refine ⟨fun h => Bool.noConfusion (show false = true from h), fun _ => ⟨fun hn => ⟨fun hz => ?_, fun hz => ?_⟩, fun hn => ?_⟩⟩
    · exact congrArg (fun t => (pR t).2) (pg_bad h3k (fun k => (okRG_un k).2.1 hn (lenM_nz hz))).symm
    · have HN : (topR x.1).2 = true → nV (topR x.1).1 ≠ 0 := fun _ e => by
        have h : ((wd (nV (topR x.1).1)).length : Int) ≠ 0 := eqF hz
        rw [e, wd_zero] at h
        exact h rfl
      refine ⟨fun hb => ⟨.inl (Nat.le_trans (cut_sz x.1 b_sl).2 h3k), ?_⟩, fun hb => ⟨⟨nrm_wd _, nrm_1, Nat.le_trans l1 (by decide), by decide⟩, ?_⟩⟩
      · have hb : (cutB x.1 b_sl).2.2 = true := hb
        have hdg : denG x.1 = nV (cutB x.1 b_sl).2.1 := by unfold denG; rw [hb]; rfl
        intro r3 hr3
        by_cases c2 : canD (cutB x.1 b_sl).2.1.data.toList = true
        · have l2 := can_wds (Nat.le_trans (cut_sz x.1 b_sl).2 h3k) c2
          obtain rfl := hr3.trans (congrArg (fun t => (((), t) : El .un × Els [tW32, .it .i64])) (par_ok (Nat.le_trans (cut_sz x.1 b_sl).2 h3k) c2))
          refine ⟨fun h => Bool.noConfusion (show false = true from h), fun _ => ⟨⟨nrm_wd _, nrm_1⟩, ?_⟩⟩
          rintro _ rfl
          refine ⟨fun h => ?_, fun h => ⟨⟨nrm_wd _, nrm_wd _, Nat.le_trans l1 (by decide), Nat.le_trans l2 (by decide)⟩, ?_⟩⟩
          · have h : (cmp (toN (wd (nV (cutB x.1 b_sl).2.1))) (toN [1]) : Int) ≤ 0 := leT h
            exact congrArg (fun t => (pR t).2) (pg_bad h3k (fun k => by
              have := cmp_gt1 ((okRG_un k).2.2.1 hb).2
              omega)).symm
          have g1 : 1 < nV (cutB x.1 b_sl).2.1 := Decidable.byContradiction fun c => absurd (cmp_le1 c) (Int.not_le.2 (leF h))
          rintro _ rfl
          refine ⟨⟨nrm_wd _, nrm_1⟩, ?_⟩
          rintro _ rfl
          refine ⟨fun h => ?_, fun h => ?_⟩
          · have h := cmp1_T h
            exact congrArg (fun t => (pR t).2) (pg_bad h3k (fun k => h (by
              rw [toN_wd, toN_wd, toN_wd]
              have := (okRG_un k).2.2.2
              rw [hdg] at this
              exact this))).symm
          have g2 := cmp1_F h
          rw [toN_wd, toN_wd, toN_wd] at g2
          rintro _ rfl
          refine ⟨fun h => absurd (of_decide_eq_true h) (Nat.not_lt.2 l1), fun _ => ?_⟩
          rintro _ rfl
          refine ⟨fun h => absurd (of_decide_eq_true h) (Nat.not_lt.2 l2), fun _ => ?_⟩
          have e := pg_ok h3k (okRG_mk c1 HN (fun _ => ⟨c2, g1⟩) (by rw [hdg]; exact g2))
          rw [hdg] at e
          exact congrArg (fun t => (pR t).2) e.symm
        · obtain rfl := hr3.trans (congrArg (fun t => (((), t) : El .un × Els [tW32, .it .i64])) (par_bad (Nat.le_trans (cut_sz x.1 b_sl).2 h3k) c2))
          exact ⟨fun _ => congrArg (fun t => (pR t).2) (pg_bad h3k (fun k => c2 ((okRG_un k).2.2.1 hb).1)).symm, fun h => Bool.noConfusion (show true = false from h)⟩
      · have hb : (cutB x.1 b_sl).2.2 = false := hb
        have hdg : denG x.1 = 1 := by unfold denG; rw [hb]; rfl
        rintro _ rfl
        refine ⟨⟨nrm_wd _, nrm_1⟩, ?_⟩
        rintro _ rfl
        refine ⟨fun h => ?_, fun h => ?_⟩
        · have h := cmp1_T h
          refine absurd ?_ h
          rw [toN_wd, toN_wd, toN_1]
          exact Nat.gcd_one_right _
        rintro _ rfl
        refine ⟨fun h => absurd (of_decide_eq_true h) (Nat.not_lt.2 l1), fun _ => ?_⟩
        rintro _ rfl
        refine ⟨fun h => Bool.noConfusion (show false = true from h), fun _ => ?_⟩
        have e := pg_ok h3k (okRG_mk c1 HN (fun c => by rw [hb] at c; cases c) (by rw [hdg]; exact Nat.gcd_one_right _))
        rw [hdg, wd_one] at e
        exact congrArg (fun t => (pR t).2) e.symm
    · have HN : (topR x.1).2 = true → nV (topR x.1).1 ≠ 0 := fun c => by
        have hn : (topR x.1).2 = false := hn
        rw [hn] at c
        cases c
      refine ⟨fun hb => ⟨.inl (Nat.le_trans (cut_sz x.1 b_sl).2 h3k), ?_⟩, fun hb => ⟨⟨nrm_wd _, nrm_1, Nat.le_trans l1 (by decide), by decide⟩, ?_⟩⟩
      · have hb : (cutB x.1 b_sl).2.2 = true := hb
        have hdg : denG x.1 = nV (cutB x.1 b_sl).2.1 := by unfold denG; rw [hb]; rfl
        intro r3 hr3
        by_cases c2 : canD (cutB x.1 b_sl).2.1.data.toList = true
        · have l2 := can_wds (Nat.le_trans (cut_sz x.1 b_sl).2 h3k) c2
          obtain rfl := hr3.trans (congrArg (fun t => (((), t) : El .un × Els [tW32, .it .i64])) (par_ok (Nat.le_trans (cut_sz x.1 b_sl).2 h3k) c2))
          refine ⟨fun h => Bool.noConfusion (show false = true from h), fun _ => ⟨⟨nrm_wd _, nrm_1⟩, ?_⟩⟩
          rintro _ rfl
          refine ⟨fun h => ?_, fun h => ⟨⟨nrm_wd _, nrm_wd _, Nat.le_trans l1 (by decide), Nat.le_trans l2 (by decide)⟩, ?_⟩⟩
          · have h : (cmp (toN (wd (nV (cutB x.1 b_sl).2.1))) (toN [1]) : Int) ≤ 0 := leT h
            exact congrArg (fun t => (pR t).2) (pg_bad h3k (fun k => by
              have := cmp_gt1 ((okRG_un k).2.2.1 hb).2
              omega)).symm
          have g1 : 1 < nV (cutB x.1 b_sl).2.1 := Decidable.byContradiction fun c => absurd (cmp_le1 c) (Int.not_le.2 (leF h))
          rintro _ rfl
          refine ⟨⟨nrm_wd _, nrm_1⟩, ?_⟩
          rintro _ rfl
          refine ⟨fun h => ?_, fun h => ?_⟩
          · have h := cmp1_T h
            exact congrArg (fun t => (pR t).2) (pg_bad h3k (fun k => h (by
              rw [toN_wd, toN_wd, toN_wd]
              have := (okRG_un k).2.2.2
              rw [hdg] at this
              exact this))).symm
          have g2 := cmp1_F h
          rw [toN_wd, toN_wd, toN_wd] at g2
          rintro _ rfl
          refine ⟨fun h => absurd (of_decide_eq_true h) (Nat.not_lt.2 l1), fun _ => ?_⟩
          rintro _ rfl
          refine ⟨fun h => absurd (of_decide_eq_true h) (Nat.not_lt.2 l2), fun _ => ?_⟩
          have e := pg_ok h3k (okRG_mk c1 HN (fun _ => ⟨c2, g1⟩) (by rw [hdg]; exact g2))
          rw [hdg] at e
          exact congrArg (fun t => (pR t).2) e.symm
        · obtain rfl := hr3.trans (congrArg (fun t => (((), t) : El .un × Els [tW32, .it .i64])) (par_bad (Nat.le_trans (cut_sz x.1 b_sl).2 h3k) c2))
          exact ⟨fun _ => congrArg (fun t => (pR t).2) (pg_bad h3k (fun k => c2 ((okRG_un k).2.2.1 hb).1)).symm, fun h => Bool.noConfusion (show true = false from h)⟩
      · have hb : (cutB x.1 b_sl).2.2 = false := hb
        have hdg : denG x.1 = 1 := by unfold denG; rw [hb]; rfl
        rintro _ rfl
        refine ⟨⟨nrm_wd _, nrm_1⟩, ?_⟩
        rintro _ rfl
        refine ⟨fun h => ?_, fun h => ?_⟩
        · have h := cmp1_T h
          refine absurd ?_ h
          rw [toN_wd, toN_wd, toN_1]
          exact Nat.gcd_one_right _
        rintro _ rfl
        refine ⟨fun h => absurd (of_decide_eq_true h) (Nat.not_lt.2 l1), fun _ => ?_⟩
        rintro _ rfl
        refine ⟨fun h => Bool.noConfusion (show false = true from h), fun _ => ?_⟩
        have e := pg_ok h3k (okRG_mk c1 HN (fun c => by rw [hb] at c; cases c) (by rw [hdg]; exact Nat.gcd_one_right _))
        rw [hdg, wd_one] at e
        exact congrArg (fun t => (pR t).2) e.symm
  · obtain rfl := hr2.trans (congrArg (fun t => (((), t) : El .un × Els [tW32, .it .i64])) (par_bad t3k c1))
    exact ⟨fun _ => congrArg (fun t => (pR t).2) (pg_bad h3k (fun k => c1 (okRG_un k).1)).symm, fun h => Bool.noConfusion (show true = false from h)⟩
theorem fo_rParseG : FnOk Tryz.prog 74 sp_rParseG := fnOk_of (C := c_rParseG) iv_rParseG Tryz.func74 rfl (by kernel_rfl) tys_ok (prims_cons (spec_prim fo_sCut) (prims_cons (spec_prim fo_sCutP) (prims_cons (spec_prim fo_aParseG) (prims_cons (spec_prim fo_aCmp) (prims_cons (spec_prim fo_aGcd) (prims_cons (spec_prim fo_rlong) prims_nil)))))) mixed_ (Nat.le_refl _) rfl fun y x h1 h2 h3 h4 =>
  Eq.mpr (w_rParseG y x) (m_rParseG y x h2 h3 h4)
theorem ix_none : ∀ {l : List UInt8} {c : UInt8}, c ∉ l → Lib.indexByte l c = -1
  | [], _, _ => rfl
  | b :: l, c, h => by
    rw [List.mem_cons, not_or] at h
    unfold Lib.indexByte
    rw [if_neg (by simpa using fun e => h.1 e.symm), ix_none h.2]
    rfl
theorem ix_app : ∀ {l : List UInt8} {c : UInt8} (m : List UInt8), c ∉ l → Lib.indexByte (l ++ c :: m) c = l.length
  | [], c, m, _ => by
    unfold Lib.indexByte
    rw [List.nil_append]
    show (if (c == c) = true then (0 : Int) else _) = _
    rw [if_pos (by simp)]
    rfl
  | b :: l, c, m, h => by
    rw [List.mem_cons, not_or] at h
    rw [List.cons_append]
    unfold Lib.indexByte
    rw [if_neg (by simpa using fun e => h.1 e.symm), ix_app m h.2, if_neg (by simp), List.length_cons]
    rfl
theorem sl_byte : b_sl.get! 0 = 47 := by decide
theorem mk_of {s : ByteArray} {l : List UInt8} (h : s.data.toList = l) : s = ⟨l.toArray⟩ := Go.WideShapes.bytes_inj h
theorem cutB_found {s : ByteArray} {A B : List UInt8} (h : s.data.toList = A ++ 47 :: B) (hA : (47 : UInt8) ∉ A) : cutB s b_sl = (⟨A.toArray⟩, ⟨B.toArray⟩, true) := by
  have hi : ixB s b_sl = (A.length : Int) := by
    unfold ixB
    rw [sl_byte, h]
    exact ix_app B hA
  unfold cutB
  rw [if_pos (by rw [hi]; exact Int.natCast_nonneg _), hi, Int.toNat_natCast]
  have e1 : s.extract 0 A.length = ⟨A.toArray⟩ := mk_of (by rw [ex_list, h, List.drop_zero, Nat.sub_zero, List.take_left])
  have e2 : s.extract (A.length + 1) s.size = ⟨B.toArray⟩ := mk_of (by
    rw [ex_rest, h, ← List.drop_drop, List.drop_left]
    rfl)
  rw [e1, e2]
theorem cutB_none {s : ByteArray} (h : (47 : UInt8) ∉ s.data.toList) : cutB s b_sl = (s, ⟨#[]⟩, false) := by
  have hi : ixB s b_sl = -1 := by
    unfold ixB
    rw [sl_byte]
    exact ix_none h
  unfold cutB
  rw [if_neg (by rw [hi]; decide)]
theorem cutB_split {s : ByteArray} (h : (cutB s b_sl).2.2 = true) : s.data.toList = (cutB s b_sl).1.data.toList ++ 47 :: (cutB s b_sl).2.1.data.toList := by
  by_cases c : 0 ≤ ixB s b_sl
  · obtain ⟨i, hi⟩ : ∃ i : Nat, ixB s b_sl = (i : Int) := ⟨(ixB s b_sl).toNat, (Int.toNat_of_nonneg c).symm⟩
    have e : cutB s b_sl = (s.extract 0 i, s.extract (i + 1) s.size, true) := by
      unfold cutB
      rw [if_pos c, hi, Int.toNat_natCast]
    have hk : Lib.indexByte s.data.toList 47 = (i : Int) := by
      unfold ixB at hi
      rw [sl_byte] at hi
      exact hi
    obtain ⟨k1, _⟩ := Lib.indexByte_some hk
    rw [e]
    dsimp only
    rw [ex_list, ex_rest, List.drop_zero, Nat.sub_zero]
    have hlt := (List.getElem?_eq_some_iff.1 k1).1
    have hd := List.drop_eq_getElem_cons hlt
    have hv := (List.getElem?_eq_some_iff.1 k1).2
    rw [hv] at hd
    rw [← hd, List.take_append_drop]
  · have e : cutB s b_sl = (s, ⟨#[]⟩, false) := if_neg c
    rw [e] at h
    cases h
theorem cutB_same {s : ByteArray} (h : (cutB s b_sl).2.2 = false) : (cutB s b_sl).1 = s := by
  by_cases c : 0 ≤ ixB s b_sl
  · have e : cutB s b_sl = (s.extract 0 (ixB s b_sl).toNat, s.extract ((ixB s b_sl).toNat + 1) s.size, true) := if_pos c
    rw [e] at h
    cases h
  · have e : cutB s b_sl = (s, ⟨#[]⟩, false) := if_neg c
    rw [e]
theorem mi_list : b_mi.data.toList = [45] := rfl
theorem hp_45 : ∀ (l : List UInt8), Lib.hasPrefix l [45] = true ↔ ∃ m, l = 45 :: m
  | [] => ⟨fun h => by simp [Lib.hasPrefix] at h, fun ⟨m, h⟩ => by cases h⟩
  | c :: l => by
    unfold Lib.hasPrefix
    constructor
    · intro h
      simp [List.isPrefixOf] at h
      exact ⟨l, by rw [h]⟩
    · rintro ⟨m, h⟩
      injection h with h1 h2
      rw [h1]
      simp [List.isPrefixOf]
theorem cutP_neg {s : ByteArray} {m : List UInt8} (h : s.data.toList = 45 :: m) : cutP s b_mi = (⟨m.toArray⟩, true) := by
  unfold cutP
  rw [mi_list, h, (hp_45 (45 :: m)).2 ⟨m, rfl⟩]
  unfold Lib.trimPrefix
  rw [(hp_45 (45 :: m)).2 ⟨m, rfl⟩]
  rfl
theorem cutP_pos {s : ByteArray} (h : ∀ m, s.data.toList ≠ 45 :: m) : cutP s b_mi = (s, false) := by
  have e : Lib.hasPrefix s.data.toList [45] = false := by
    cases c : Lib.hasPrefix s.data.toList [45] with
    | false => rfl
    | true =>
      obtain ⟨m, hm⟩ := (hp_45 _).1 c
      exact absurd hm (h m)
  unfold cutP Lib.trimPrefix
  rw [mi_list, e]
  rfl
theorem cutP_split {s : ByteArray} : ((cutP s b_mi).2 = true → s.data.toList = 45 :: (cutP s b_mi).1.data.toList) ∧ ((cutP s b_mi).2 = false → (cutP s b_mi).1 = s) := by
  by_cases c : ∃ m, s.data.toList = 45 :: m
  · obtain ⟨m, hm⟩ := c
    rw [cutP_neg hm]
    exact ⟨fun _ => hm, (fun h => by cases h)⟩
  · rw [cutP_pos (fun m hm => c ⟨m, hm⟩)]
    exact ⟨(fun h => by cases h), fun _ => rfl⟩
theorem d_not {l : List UInt8} (h : l.all isD = true) : (47 : UInt8) ∉ l ∧ ∀ m, l ≠ 45 :: m := by
  have h := List.all_eq_true.1 h
  exact ⟨fun c => absurd (h _ c) (by decide), fun m e => absurd (h 45 (by rw [e]; exact List.mem_cons_self)) (by decide)⟩
def sgD (neg : Bool) (a : Nat) : List UInt8 := if neg = true then 45 :: Lib.decDigits a else Lib.decDigits a
theorem sgD_not (neg : Bool) (a : Nat) : (47 : UInt8) ∉ sgD neg a := by
  have := (d_not (dec_all a)).1
  unfold sgD
  split
  · rw [List.mem_cons, not_or]
    exact ⟨by decide, this⟩
  · exact this
theorem top_of {t : ByteArray} {neg : Bool} {a : Nat} (h : (cutB t b_sl).1.data.toList = sgD neg a) : (topR t).1.data.toList = Lib.decDigits a ∧ (topR t).2 = neg := by
  unfold topR
  cases neg with
  | true =>
    have h : (cutB t b_sl).1.data.toList = 45 :: Lib.decDigits a := h
    rw [cutP_neg h]
    exact ⟨rfl, rfl⟩
  | false =>
    have h : (cutB t b_sl).1.data.toList = Lib.decDigits a := h
    rw [cutP_pos (fun m e => (d_not (dec_all a)).2 m (h.symm.trans e))]
    exact ⟨h, rfl⟩
theorem par_shape {t : ByteArray} {neg : Bool} {a b : Nat} (ht : t.data.toList = if b = 1 then sgD neg a else sgD neg a ++ 47 :: Lib.decDigits b) (h3 : t.size ≤ 3000) (hb : b ≠ 0) (hn : neg = true → a ≠ 0) (hg : Nat.gcd a b = 1) : parRG t = (⟨neg, wd a, wd b⟩, 0) := by
  by_cases h1 : b = 1
  · subst h1
    rw [if_pos rfl] at ht
    have hc : cutB t b_sl = (t, ⟨#[]⟩, false) := cutB_none (by rw [ht]; exact sgD_not neg a)
    obtain ⟨t1, t2⟩ := top_of (t := t) (neg := neg) (a := a) (by rw [hc]; exact ht)
    have hv : nV (topR t).1 = a := by unfold nV; rw [t1, dec_val]
    have hd : denG t = 1 := by unfold denG; rw [hc]; rfl
    rw [pg_ok h3 (okRG_mk (by rw [t1]; exact dec_can a) (by rw [t2, hv]; exact hn) (fun c => by rw [hc] at c; cases c) (by rw [hv, hd]; exact hg)), hv, hd, t2]
  · rw [if_neg h1] at ht
    have hc := cutB_found ht (sgD_not neg a)
    obtain ⟨t1, t2⟩ := top_of (t := t) (neg := neg) (a := a) (by rw [hc])
    have hv : nV (topR t).1 = a := by unfold nV; rw [t1, dec_val]
    have hw : nV (cutB t b_sl).2.1 = b := by unfold nV; rw [hc]; exact dec_val b
    have hd : denG t = b := by unfold denG; rw [hw, hc]; rfl
    rw [pg_ok h3 (okRG_mk (by rw [t1]; exact dec_can a) (by rw [t2, hv]; exact hn) (fun _ => ⟨by rw [hc]; exact dec_can b, by rw [hw]; omega⟩) (by rw [hv, hd]; exact hg)), hv, hd, t2]
theorem txG_list {neg : Bool} {a b : Nat} : (txG ⟨neg, wd a, wd b⟩).data.toList = if b = 1 then sgD neg a else sgD neg a ++ 47 :: Lib.decDigits b := by
  have ea : toN (⟨neg, wd a, wd b⟩ : Fr).num = a := toN_wd a
  have eb : toN (⟨neg, wd a, wd b⟩ : Fr).den = b := toN_wd b
  by_cases h1 : b = 1
  · rw [if_pos h1]
    cases neg with
    | true => rw [txG_1n (eb.trans h1) rfl, ba_app, ea]; rfl
    | false => rw [txG_1p (eb.trans h1) rfl, ea]; rfl
  · rw [if_neg h1]
    cases neg with
    | true => rw [txG_2n (by rw [eb]; exact h1) rfl, ba_app, ba_app, ba_app, ea, eb]; rfl
    | false => rw [txG_2p (by rw [eb]; exact h1) rfl, ba_app, ba_app, ea, eb]; rfl
theorem sgD_len (neg : Bool) (a : Nat) : (sgD neg a).length ≤ (Lib.decDigits a).length + 1 := by
  unfold sgD
  split
  · exact Nat.le_refl _
  · exact Nat.le_succ _
theorem back_of {q : Rat} (h1 : (wd q.num.natAbs).length ≤ 60) (h2 : (wd q.den).length ≤ 60) : (txG (enc q)).size ≤ 3000 ∧ parRG (txG (enc q)) = (enc q, 0) := by
  have e : enc q = ⟨decide (q.num < 0), wd q.num.natAbs, wd q.den⟩ := rfl
  have hl := txG_list (neg := decide (q.num < 0)) (a := q.num.natAbs) (b := q.den)
  rw [← e] at hl
  have s : (txG (enc q)).size ≤ 3000 := by
    rw [← ba_len, hl]
    have d1 := dec_words 59 _ h1
    have d2 := dec_words 59 _ h2
    have d3 := sgD_len (decide (q.num < 0)) q.num.natAbs
    split
    · omega
    · rw [List.length_append, List.length_cons]
      omega
  refine ⟨s, ?_⟩
  rw [par_shape hl s q.den_nz (fun hn hz => ?_) q.reduced]
  · exact congrArg (fun f => (f, (0 : Int))) e.symm
  · have := of_decide_eq_true hn
    omega
theorem enc_of {neg : Bool} {a b : Nat} (hb : b ≠ 0) (hn : neg = true → a ≠ 0) (hg : Nat.gcd a b = 1) : ∃ q : Rat, enc q = ⟨neg, wd a, wd b⟩ ∧ q.num.natAbs = a ∧ q.den = b := by
  cases neg with
  | true =>
    have ha := hn rfl
    refine ⟨⟨-(a : Int), b, hb, by rw [Int.natAbs_neg, Int.natAbs_natCast]; exact hg⟩, ?_, by show (-(a : Int)).natAbs = a; omega, rfl⟩
    unfold enc
    dsimp only
    rw [decide_eq_true (by omega), show (-(a : Int)).natAbs = a by omega]
  | false =>
    refine ⟨⟨(a : Int), b, hb, by rw [Int.natAbs_natCast]; exact hg⟩, ?_, by show ((a : Int)).natAbs = a; omega, rfl⟩
    unfold enc
    dsimp only
    rw [decide_eq_false (by omega), show ((a : Int)).natAbs = a by omega]
theorem bt_mk {s : ByteArray} (h : canD s.data.toList = true) : Lib.decDigits (nV s) = s.data.toList := dec_back' h
theorem text_of {s : ByteArray} (h3 : s.size ≤ 3000) (h : okRG s = true) : fchk ⟨(topR s).2, wd (nV (topR s).1), wd (denG s)⟩ = 0 ∧ txG ⟨(topR s).2, wd (nV (topR s).1), wd (denG s)⟩ = s := by
  obtain ⟨c1, c2, c3, c4⟩ := okRG_un h
  have t3 : (topR s).1.size ≤ 3000 := Nat.le_trans (cutP_size _ _) (Nat.le_trans (cut_sz s b_sl).1 h3)
  have hden : denG s ≠ 0 ∧ (wd (denG s)).length ≤ 2048 := by
    cases hb : (cutB s b_sl).2.2 with
    | true =>
      have e : denG s = nV (cutB s b_sl).2.1 := by unfold denG; rw [hb]; rfl
      rw [e]
      exact ⟨by have := (c3 hb).2; omega, can_wds (Nat.le_trans (cut_sz s b_sl).2 h3) (c3 hb).1⟩
    | false =>
      have e : denG s = 1 := by unfold denG; rw [hb]; rfl
      rw [e, wd_one]
      exact ⟨by decide, by decide⟩
  obtain ⟨q, e1, e2, e3⟩ := enc_of (neg := (topR s).2) hden.1 c2 c4
  refine ⟨?_, ?_⟩
  · rw [← e1]
    exact fchk_enc q (lng_of (by rw [e2]; exact can_wds t3 c1) (by rw [e3]; exact hden.2))
  · refine Go.WideShapes.bytes_inj ?_
    rw [txG_list]
    have hs : sgD (topR s).2 (nV (topR s).1) = (cutB s b_sl).1.data.toList := by
      unfold sgD
      rw [bt_mk c1]
      have k := @cutP_split (cutB s b_sl).1
      cases hn : (topR s).2 with
      | true => exact (k.1 hn).symm
      | false =>
        have e : (topR s).1 = (cutB s b_sl).1 := k.2 hn
        rw [e]
        rfl
    rw [hs]
    cases hb : (cutB s b_sl).2.2 with
    | true =>
      have e : denG s = nV (cutB s b_sl).2.1 := by unfold denG; rw [hb]; rfl
      rw [e, if_neg (by have := (c3 hb).2; omega), bt_mk (c3 hb).1]
      exact (cutB_split hb).symm
    | false =>
      have e : denG s = 1 := by unfold denG; rw [hb]; rfl
      rw [if_pos e, cutB_same hb]
def bd (k : Nat) (z : Int) : Prop := z.natAbs ≤ 2000 ^ k
section
variable {x y : Int} {c d j k : Nat}
end
section
variable {a b : Int}
end
section
variable {a b c d : Int} {i : Nat}
end
section
variable {a b : El tRot} {n : Int}
end
end Go.Proofs.YtjoonfegjobgbaaGreatDoor
namespace Go.Proofs.YtjoonfegjobgbaaGreatDoor
section
variable {a b c d p q r s : Rat}
variable (la : ¬ lng a = true) (lb : ¬ lng b = true) (lc : ¬ lng c = true) (ld : ¬ lng d = true)
include la lb lc ld
end
end Go.Proofs.YtjoonfegjobgbaaGreatDoor
namespace Go.Proofs.YtjoonfegjobgbaaGreatDoor
open Go Go.RowKit
def b_sp : ByteArray := ⟨#[32]⟩
def txGa (a : Ga) : ByteArray := txG a.re ++ ⟨#[32]⟩ ++ txG a.im
def prG (a : Ga) : ByteArray × Int × Unit := if gchk a = 0 then (if 65536 < (txGa a).size then (⟨#[]⟩, 3, ()) else (txGa a, 0, ())) else (⟨#[]⟩, gchk a, ())
theorem ntF {b : Bool} (h : (!b) = false) : b = true := by simpa using h
theorem gchk_zr {a : Ga} (h : gchk a = 0) : fchk a.re = 0 ∧ fchk a.im = 0 := by
  unfold gchk fchk2 at h
  split at h
  · next c => exact absurd h c
  · next c => exact ⟨Decidable.not_not.1 c, h⟩
theorem txG_sz {f : Fr} (wf : f.Wf) (h : fchk f = 0) : (txG f).size ≤ 40962 := by
  obtain ⟨n1, n2⟩ := nrm_of wf h
  obtain ⟨l1, l2⟩ := fchk_ln h
  have w1 := dcW n1 l1
  have w2 := dcW n2 l2
  have z1 : (⟨#[45]⟩ : ByteArray).size = 1 := rfl
  have z2 : (⟨#[47]⟩ : ByteArray).size = 1 := rfl
  unfold txG
  repeat' split
  all_goals try simp only [ByteArray.size_append]
  all_goals omega
theorem prG_bad {a : Ga} (h : gchk a ≠ 0) : prG a = (⟨#[]⟩, gchk a, ()) := if_neg h
theorem prG_long {a : Ga} (h : gchk a = 0) (k : 65536 < (txGa a).size) : prG a = (⟨#[]⟩, 3, ()) := (if_pos h).trans (if_pos k)
theorem prG_ok {a : Ga} (h : gchk a = 0) (k : (txGa a).size ≤ 65536) : prG a = (txGa a, 0, ()) := (if_pos h).trans (if_neg (Nat.not_lt.2 k))
noncomputable def sp_gPrintG : Spec := { q := .un, ps := [tG], rs := [.st, .it .i64], fresh := true, pre := fun _ _ => none, post := fun _ x => ((), prG (toGa x.1)) }
noncomputable def iv_gPrintG (y : El sp_gPrintG.q) (x : Els sp_gPrintG.ps) : Nat → Option Inv := fun _ => none
noncomputable abbrev c_gPrintG : Cfg := cfgS (Tryz.f39).ntmps false [(51, sp_gCheck.prim), (105, sp_rPrintG.prim)]
def F_gPrintG (y : El sp_gPrintG.q) (x : Els sp_gPrintG.ps) : Prop :=
  ∀ (r : Ro [Ty.it IntKind.i64]), r = ((), gchk (toGa x.1), ()) → ((r.2.1 != (0 : Int)) = true → ((⟨#[]⟩ : ByteArray), r.2) = prG (toGa x.1)) ∧ ((r.2.1 != (0 : Int)) = false → ∀ (r : Ro [Ty.st, Ty.it IntKind.i64]), r = ((), prR (toFr x.1.1)) → ∀ (r_1 : Ro [Ty.st, Ty.it IntKind.i64]), r_1 = ((), prR (toFr x.1.2.1)) → ByteArray.size r.2.1 + (⟨#[(32 : UInt8)]⟩ : ByteArray).size ≤ (9223372036854775807 : Nat) ∧ (r.2.1 ++ (⟨#[(32 : UInt8)]⟩ : ByteArray)).size + ByteArray.size r_1.2.1 ≤ (9223372036854775807 : Nat) ∧ (decide ((↑(r.2.1 ++ (⟨#[(32 : UInt8)]⟩ : ByteArray) ++ r_1.2.1).size : Int) > (65536 : Int)) = true → ((⟨#[]⟩ : ByteArray), (3 : Int), ()) = prG (toGa x.1)) ∧ (decide ((↑(r.2.1 ++ (⟨#[(32 : UInt8)]⟩ : ByteArray) ++ r_1.2.1).size : Int) > (65536 : Int)) = false → (r.2.1 ++ (⟨#[(32 : UInt8)]⟩ : ByteArray) ++ r_1.2.1, (0 : Int), ()) = prG (toGa x.1)))
theorem w_gPrintG (y : El sp_gPrintG.q) (x : Els sp_gPrintG.ps) : aW c_gPrintG (iv_gPrintG y x) Tryz.f39 sp_gPrintG y x = F_gPrintG y x := by kernel_rfl
theorem m_gPrintG (y : El (.un)) (x : Els [tG]) (h2 : wfE (.un) y) (h3 : wfEs [tG] x) : F_gPrintG y x := by
  unfold F_gPrintG
  rintro _ rfl
  refine ⟨fun h => (prG_bad (neT h)).symm, fun h => ?_⟩
  have q0 : gchk (toGa x.1) = 0 := neF h
  obtain ⟨f1, f2⟩ := gchk_zr q0
  have f1 : fchk (toFr x.1.1) = 0 := f1
  have f2 : fchk (toFr x.1.2.1) = 0 := f2
  have s1 := txG_sz (wf_fr h3.1.1) f1
  have s2 := txG_sz (wf_fr h3.1.2.1) f2
  have z3 : (⟨#[32]⟩ : ByteArray).size = 1 := rfl
  intro r hr
  obtain rfl := hr.trans (congrArg (fun t => (((), t) : El .un × Els [.st, .it .i64])) (prR_ok f1))
  intro r hr
  obtain rfl := hr.trans (congrArg (fun t => (((), t) : El .un × Els [.st, .it .i64])) (prR_ok f2))
  refine ⟨?_, ?_, fun h => ?_, fun h => ?_⟩
  · show (txG (toFr x.1.1)).size + (⟨#[32]⟩ : ByteArray).size ≤ _
    omega
  · show (txG (toFr x.1.1) ++ ⟨#[32]⟩).size + (txG (toFr x.1.2.1)).size ≤ _
    rw [ByteArray.size_append]
    omega
  · exact (prG_long q0 (Int.ofNat_lt.1 (gtT h))).symm
  · exact (prG_ok q0 (Int.ofNat_le.1 (gtF h))).symm
theorem fo_gPrintG : FnOk Tryz.prog 39 sp_gPrintG := fnOk_of (C := c_gPrintG) iv_gPrintG Tryz.func39 rfl (by kernel_rfl) tys_ok (prims_cons (spec_prim fo_gCheck) (prims_cons (spec_prim fo_rPrintG) prims_nil)) mixed_ (Nat.le_refl _) rfl fun y x h1 h2 h3 h4 =>
  Eq.mpr (w_gPrintG y x) (m_gPrintG y x h2 h3)
def okGG (s : ByteArray) : Bool := (cutB s b_sp).2.2 && okRG (cutB s b_sp).1 && okRG (cutB s b_sp).2.1
def frG (s : ByteArray) : Fr := ⟨(topR s).2, wd (nV (topR s).1), wd (denG s)⟩
def parGG (s : ByteArray) : Ga × Int := if 65536 < s.size then (Ga.zero, 3) else if okGG s = true then (⟨frG (cutB s b_sp).1, frG (cutB s b_sp).2.1⟩, 0) else (Ga.zero, 140)
theorem pgg_long {s : ByteArray} (h : 65536 < s.size) : parGG s = (Ga.zero, 3) := if_pos h
theorem pgg_bad {s : ByteArray} (h : s.size ≤ 3000) (k : ¬ okGG s = true) : parGG s = (Ga.zero, 140) := (if_neg (by omega)).trans (if_neg k)
theorem pgg_ok {s : ByteArray} (h : s.size ≤ 3000) (k : okGG s = true) : parGG s = (⟨frG (cutB s b_sp).1, frG (cutB s b_sp).2.1⟩, 0) := (if_neg (by omega)).trans (if_pos k)
theorem okGG_un {s : ByteArray} (h : okGG s = true) : (cutB s b_sp).2.2 = true ∧ okRG (cutB s b_sp).1 = true ∧ okRG (cutB s b_sp).2.1 = true := by
  unfold okGG at h
  simp only [Bool.and_eq_true] at h
  exact ⟨h.1.1, h.1.2, h.2⟩
theorem okGG_mk {s : ByteArray} (h1 : (cutB s b_sp).2.2 = true) (h2 : okRG (cutB s b_sp).1 = true) (h3 : okRG (cutB s b_sp).2.1 = true) : okGG s = true := by
  unfold okGG
  rw [h1, h2, h3]
  rfl
noncomputable def sp_gParseG : Spec := { q := .un, ps := [.st], rs := [tG, .it .i64], fresh := true, pre := fun _ x => some (ByteArray.size x.1 ≤ 3000 ∨ 65536 < ByteArray.size x.1), post := fun _ x => pG (parGG x.1) }
noncomputable def iv_gParseG (y : El sp_gParseG.q) (x : Els sp_gParseG.ps) : Nat → Option Inv := fun _ => none
noncomputable abbrev c_gParseG : Cfg := cfgS (Tryz.f41).ntmps false [(108, sp_sCut.prim), (74, sp_rParseG.prim)]
def F_gParseG (y : El sp_gParseG.q) (x : Els sp_gParseG.ps) : Prop :=
  (decide ((↑(ByteArray.size x.1) : Int) > (65536 : Int)) = true → (((false, [], [], ()), (false, [], [], ()), ()), (3 : Int), ()) = (pG (parGG x.1)).2) ∧ (decide ((↑(ByteArray.size x.1) : Int) > (65536 : Int)) = false → (⟨#[(32 : UInt8)]⟩ : ByteArray).size = (1 : Nat) ∧ ∀ (r : Ro [Ty.st, Ty.st, Ty.bo]), r = ((), (cutB x.1 (⟨#[(32 : UInt8)]⟩ : ByteArray)).1, (cutB x.1 (⟨#[(32 : UInt8)]⟩ : ByteArray)).2.1, (cutB x.1 (⟨#[(32 : UInt8)]⟩ : ByteArray)).2.2, ()) → (ByteArray.size r.2.1 ≤ (3000 : Nat) ∨ (65536 : Nat) < ByteArray.size r.2.1) ∧ ∀ (r_1 : Ro [tR, Ty.it IntKind.i64]), r_1 = pR (parRG r.2.1) → (ByteArray.size r.2.2.1 ≤ (3000 : Nat) ∨ (65536 : Nat) < ByteArray.size r.2.2.1) ∧ ∀ (r_2 : Ro [tR, Ty.it IntKind.i64]), r_2 = pR (parRG r.2.2.1) → ((!r.2.2.2.1) = true → (((false, [], [], ()), (false, [], [], ()), ()), (140 : Int), ()) = (pG (parGG x.1)).2) ∧ ((!r.2.2.2.1) = false → ((r_1.2.2.1 != (0 : Int)) = true → ((r_1.2.2.1 != (3 : Int)) = true → (((false, [], [], ()), (false, [], [], ()), ()), (140 : Int), ()) = (pG (parGG x.1)).2) ∧ ((r_1.2.2.1 != (3 : Int)) = false → ((r_2.2.2.1 != (0 : Int)) = true → ((r_2.2.2.1 != (3 : Int)) = true → (((false, [], [], ()), (false, [], [], ()), ()), (140 : Int), ()) = (pG (parGG x.1)).2) ∧ ((r_2.2.2.1 != (3 : Int)) = false → ((r_1.2.2.1 != (0 : Int)) = true → (((false, [], [], ()), (false, [], [], ()), ()), (3 : Int), ()) = (pG (parGG x.1)).2) ∧ ((r_1.2.2.1 != (0 : Int)) = false → ((r_2.2.2.1 != (0 : Int)) = true → (((false, [], [], ()), (false, [], [], ()), ()), (3 : Int), ()) = (pG (parGG x.1)).2) ∧ ((r_2.2.2.1 != (0 : Int)) = false → ((r_1.2.1, r_2.2.1, ()), (0 : Int), ()) = (pG (parGG x.1)).2)))) ∧ ((r_2.2.2.1 != (0 : Int)) = false → ((r_1.2.2.1 != (0 : Int)) = true → (((false, [], [], ()), (false, [], [], ()), ()), (3 : Int), ()) = (pG (parGG x.1)).2) ∧ ((r_1.2.2.1 != (0 : Int)) = false → ((r_2.2.2.1 != (0 : Int)) = true → (((false, [], [], ()), (false, [], [], ()), ()), (3 : Int), ()) = (pG (parGG x.1)).2) ∧ ((r_2.2.2.1 != (0 : Int)) = false → ((r_1.2.1, r_2.2.1, ()), (0 : Int), ()) = (pG (parGG x.1)).2))))) ∧ ((r_1.2.2.1 != (0 : Int)) = false → ((r_2.2.2.1 != (0 : Int)) = true → ((r_2.2.2.1 != (3 : Int)) = true → (((false, [], [], ()), (false, [], [], ()), ()), (140 : Int), ()) = (pG (parGG x.1)).2) ∧ ((r_2.2.2.1 != (3 : Int)) = false → ((r_1.2.2.1 != (0 : Int)) = true → (((false, [], [], ()), (false, [], [], ()), ()), (3 : Int), ()) = (pG (parGG x.1)).2) ∧ ((r_1.2.2.1 != (0 : Int)) = false → ((r_2.2.2.1 != (0 : Int)) = true → (((false, [], [], ()), (false, [], [], ()), ()), (3 : Int), ()) = (pG (parGG x.1)).2) ∧ ((r_2.2.2.1 != (0 : Int)) = false → ((r_1.2.1, r_2.2.1, ()), (0 : Int), ()) = (pG (parGG x.1)).2)))) ∧ ((r_2.2.2.1 != (0 : Int)) = false → ((r_1.2.2.1 != (0 : Int)) = true → (((false, [], [], ()), (false, [], [], ()), ()), (3 : Int), ()) = (pG (parGG x.1)).2) ∧ ((r_1.2.2.1 != (0 : Int)) = false → ((r_2.2.2.1 != (0 : Int)) = true → (((false, [], [], ()), (false, [], [], ()), ()), (3 : Int), ()) = (pG (parGG x.1)).2) ∧ ((r_2.2.2.1 != (0 : Int)) = false → ((r_1.2.1, r_2.2.1, ()), (0 : Int), ()) = (pG (parGG x.1)).2))))))
theorem w_gParseG (y : El sp_gParseG.q) (x : Els sp_gParseG.ps) : aW c_gParseG (iv_gParseG y x) Tryz.f41 sp_gParseG y x = F_gParseG y x := by kernel_rfl
theorem m_gParseG (y : El (.un)) (x : Els [.st]) (h2 : wfE (.un) y) (h3 : wfEs [.st] x) (h4 : ByteArray.size x.1 ≤ 3000 ∨ 65536 < ByteArray.size x.1) : F_gParseG y x := by
  unfold F_gParseG
  have hsz : ByteArray.size x.1 ≤ 3000 ∨ 65536 < ByteArray.size x.1 := h4
  refine ⟨fun h => congrArg (fun t => (pG t).2) (pgg_long (Int.ofNat_lt.1 (gtT h))).symm, fun h => ⟨rfl, ?_⟩⟩
  have h3k : ByteArray.size x.1 ≤ 3000 := hsz.resolve_right (fun c => absurd (Int.ofNat_lt.2 c) (Int.not_lt.2 (gtF h)))
  rintro _ rfl
  have k1 : (cutB x.1 b_sp).1.size ≤ 3000 := Nat.le_trans (cut_sz _ _).1 h3k
  have k2 : (cutB x.1 b_sp).2.1.size ≤ 3000 := Nat.le_trans (cut_sz _ _).2 h3k
  refine ⟨.inl k1, ?_⟩
  intro r1 hr1
  refine ⟨.inl k2, ?_⟩
  intro r2 hr2
  refine ⟨fun hb => congrArg (fun t => (pG t).2) (pgg_bad h3k (fun k => ?_)).symm, fun hb => ?_⟩
  · have hb : (cutB x.1 b_sp).2.2 = false := ntt hb
    rw [(okGG_un k).1] at hb
    cases hb
  have hb : (cutB x.1 b_sp).2.2 = true := ntF hb
  by_cases c1 : okRG (cutB x.1 b_sp).1 = true
  · obtain rfl := hr1.trans (congrArg pR (pg_ok k1 c1))
    refine ⟨fun h => Bool.noConfusion (show false = true from h), fun _ => ?_⟩
    by_cases c2 : okRG (cutB x.1 b_sp).2.1 = true
    · obtain rfl := hr2.trans (congrArg pR (pg_ok k2 c2))
      refine ⟨fun h => Bool.noConfusion (show false = true from h), fun _ => ⟨fun h => Bool.noConfusion (show false = true from h), fun _ => ⟨fun h => Bool.noConfusion (show false = true from h), fun _ => ?_⟩⟩⟩
      exact congrArg (fun t => (pG t).2) (pgg_ok h3k (okGG_mk hb c1 c2)).symm
    · obtain rfl := hr2.trans (congrArg pR (pg_bad k2 c2))
      exact ⟨fun _ => ⟨fun _ => congrArg (fun t => (pG t).2) (pgg_bad h3k (fun k => c2 (okGG_un k).2.2)).symm, fun h => Bool.noConfusion (show true = false from h)⟩, fun h => Bool.noConfusion (show true = false from h)⟩
  · obtain rfl := hr1.trans (congrArg pR (pg_bad k1 c1))
    exact ⟨fun _ => ⟨fun _ => congrArg (fun t => (pG t).2) (pgg_bad h3k (fun k => c1 (okGG_un k).2.1)).symm, fun h => Bool.noConfusion (show true = false from h)⟩, fun h => Bool.noConfusion (show true = false from h)⟩
theorem fo_gParseG : FnOk Tryz.prog 41 sp_gParseG := fnOk_of (C := c_gParseG) iv_gParseG Tryz.func41 rfl (by kernel_rfl) tys_ok (prims_cons (spec_prim fo_sCut) (prims_cons (spec_prim fo_rParseG) prims_nil)) mixed_ (Nat.le_refl _) rfl fun y x h1 h2 h3 h4 =>
  Eq.mpr (w_gParseG y x) (m_gParseG y x h2 h3 h4)
theorem cutC_found {s p : ByteArray} {c : UInt8} {A B : List UInt8} (hp : p.get! 0 = c) (h : s.data.toList = A ++ c :: B) (hA : c ∉ A) : cutB s p = (⟨A.toArray⟩, ⟨B.toArray⟩, true) := by
  have hi : ixB s p = (A.length : Int) := by
    unfold ixB
    rw [hp, h]
    exact ix_app B hA
  unfold cutB
  rw [if_pos (by rw [hi]; exact Int.natCast_nonneg _), hi, Int.toNat_natCast]
  have e1 : s.extract 0 A.length = ⟨A.toArray⟩ := mk_of (by rw [ex_list, h, List.drop_zero, Nat.sub_zero, List.take_left])
  have e2 : s.extract (A.length + 1) s.size = ⟨B.toArray⟩ := mk_of (by
    rw [ex_rest, h, ← List.drop_drop, List.drop_left]
    rfl)
  rw [e1, e2]
theorem cutC_split {s p : ByteArray} {c : UInt8} (hp : p.get! 0 = c) (h : (cutB s p).2.2 = true) : s.data.toList = (cutB s p).1.data.toList ++ c :: (cutB s p).2.1.data.toList := by
  by_cases k : 0 ≤ ixB s p
  · obtain ⟨i, hi⟩ : ∃ i : Nat, ixB s p = (i : Int) := ⟨(ixB s p).toNat, (Int.toNat_of_nonneg k).symm⟩
    have e : cutB s p = (s.extract 0 i, s.extract (i + 1) s.size, true) := by
      unfold cutB
      rw [if_pos k, hi, Int.toNat_natCast]
    have hk : Lib.indexByte s.data.toList c = (i : Int) := by
      unfold ixB at hi
      rw [hp] at hi
      exact hi
    obtain ⟨k1, _⟩ := Lib.indexByte_some hk
    rw [e]
    dsimp only
    rw [ex_list, ex_rest, List.drop_zero, Nat.sub_zero]
    have hlt := (List.getElem?_eq_some_iff.1 k1).1
    have hd := List.drop_eq_getElem_cons hlt
    have hv := (List.getElem?_eq_some_iff.1 k1).2
    rw [hv] at hd
    rw [← hd, List.take_append_drop]
  · have e : cutB s p = (s, ⟨#[]⟩, false) := if_neg k
    rw [e] at h
    cases h
theorem sp_byte : b_sp.get! 0 = 32 := by decide
theorem d_not32 {l : List UInt8} (h : l.all isD = true) : (32 : UInt8) ∉ l := fun c => absurd (List.all_eq_true.1 h _ c) (by decide)
theorem sgD_not32 (neg : Bool) (a : Nat) : (32 : UInt8) ∉ sgD neg a := by
  have := d_not32 (dec_all a)
  unfold sgD
  split
  · rw [List.mem_cons, not_or]
    exact ⟨by decide, this⟩
  · exact this
theorem txG_not32 (neg : Bool) (a b : Nat) : (32 : UInt8) ∉ (txG ⟨neg, wd a, wd b⟩).data.toList := by
  rw [txG_list]
  split
  · exact sgD_not32 neg a
  · rw [List.mem_append, List.mem_cons, not_or, not_or]
    exact ⟨sgD_not32 neg a, by decide, d_not32 (dec_all b)⟩
theorem txG_short {neg : Bool} {a b : Nat} (h1 : (wd a).length ≤ 20) (h2 : (wd b).length ≤ 20) : (txG ⟨neg, wd a, wd b⟩).size ≤ 402 := by
  rw [← ba_len, txG_list]
  have d1 := dec_words 19 _ h1
  have d2 := dec_words 19 _ h2
  have d3 := sgD_len neg a
  split
  · omega
  · rw [List.length_append, List.length_cons]
    omega
theorem gback_of {a : Ga} (wf : a.Wf) (h : gchk a = 0) (k1 : a.re.num.length ≤ 20 ∧ a.re.den.length ≤ 20) (k2 : a.im.num.length ≤ 20 ∧ a.im.den.length ≤ 20) : (txGa a).size ≤ 805 ∧ okGG (txGa a) = true ∧ parGG (txGa a) = (a, 0) := by
  obtain ⟨re, im⟩ := a
  obtain ⟨f1, f2⟩ := gchk_zr h
  obtain ⟨p, rfl, _⟩ := fchk_ok wf.1 f1
  obtain ⟨q, rfl, _⟩ := fchk_ok wf.2 f2
  have ep : enc p = ⟨decide (p.num < 0), wd p.num.natAbs, wd p.den⟩ := rfl
  have eq : enc q = ⟨decide (q.num < 0), wd q.num.natAbs, wd q.den⟩ := rfl
  obtain ⟨b1, b2⟩ := back_of (q := p) (Nat.le_trans k1.1 (by decide)) (Nat.le_trans k1.2 (by decide))
  obtain ⟨b3, b4⟩ := back_of (q := q) (Nat.le_trans k2.1 (by decide)) (Nat.le_trans k2.2 (by decide))
  have s1 : (txG (enc p)).size ≤ 402 := by rw [ep]; exact txG_short k1.1 k1.2
  have s2 : (txG (enc q)).size ≤ 402 := by rw [eq]; exact txG_short k2.1 k2.2
  have sz : (txGa ⟨enc p, enc q⟩).size ≤ 805 := by
    unfold txGa
    rw [ByteArray.size_append, ByteArray.size_append]
    have z3 : (⟨#[32]⟩ : ByteArray).size = 1 := rfl
    dsimp only
    omega
  have hl : (txGa ⟨enc p, enc q⟩).data.toList = (txG (enc p)).data.toList ++ 32 :: (txG (enc q)).data.toList := by
    unfold txGa
    rw [ba_app, ba_app, List.append_assoc]
    rfl
  have hc := cutC_found sp_byte hl (by rw [ep]; exact txG_not32 _ _ _)
  have r1 : (⟨(txG (enc p)).data.toList.toArray⟩ : ByteArray) = txG (enc p) := rfl
  have r2 : (⟨(txG (enc q)).data.toList.toArray⟩ : ByteArray) = txG (enc q) := rfl
  rw [r1, r2] at hc
  have o1 : okRG (txG (enc p)) = true := Decidable.byContradiction fun c => by
    rw [pg_bad b1 c] at b2
    exact absurd (show (130 : Int) = 0 from congrArg Prod.snd b2) (by decide)
  have o2 : okRG (txG (enc q)) = true := Decidable.byContradiction fun c => by
    rw [pg_bad b3 c] at b4
    exact absurd (show (130 : Int) = 0 from congrArg Prod.snd b4) (by decide)
  have ok : okGG (txGa ⟨enc p, enc q⟩) = true := okGG_mk (by rw [hc]) (by rw [hc]; exact o1) (by rw [hc]; exact o2)
  refine ⟨sz, ok, ?_⟩
  rw [pgg_ok (by omega) ok, hc]
  have g1 : frG (txG (enc p)) = enc p := congrArg Prod.fst ((pg_ok b1 o1).symm.trans b2)
  have g2 : frG (txG (enc q)) = enc q := congrArg Prod.fst ((pg_ok b3 o2).symm.trans b4)
  show ((⟨frG (txG (enc p)), frG (txG (enc q))⟩ : Ga), (0 : Int)) = _
  rw [g1, g2]
theorem gtext_of {s : ByteArray} (h3 : s.size ≤ 3000) (h : okGG s = true) : gchk ⟨frG (cutB s b_sp).1, frG (cutB s b_sp).2.1⟩ = 0 ∧ txGa ⟨frG (cutB s b_sp).1, frG (cutB s b_sp).2.1⟩ = s := by
  obtain ⟨hb, o1, o2⟩ := okGG_un h
  obtain ⟨a1, a2⟩ := text_of (Nat.le_trans (cut_sz s b_sp).1 h3) o1
  obtain ⟨c1, c2⟩ := text_of (Nat.le_trans (cut_sz s b_sp).2 h3) o2
  have a1 : fchk (frG (cutB s b_sp).1) = 0 := a1
  have c1 : fchk (frG (cutB s b_sp).2.1) = 0 := c1
  have a2 : txG (frG (cutB s b_sp).1) = (cutB s b_sp).1 := a2
  have c2 : txG (frG (cutB s b_sp).2.1) = (cutB s b_sp).2.1 := c2
  refine ⟨?_, ?_⟩
  · unfold gchk fchk2
    dsimp only
    rw [a1, c1]
    rfl
  · refine Go.WideShapes.bytes_inj ?_
    unfold txGa
    rw [a2, c2, ba_app, ba_app, List.append_assoc]
    exact (cutC_split sp_byte hb).symm
end Go.Proofs.YtjoonfegjobgbaaGreatDoor
