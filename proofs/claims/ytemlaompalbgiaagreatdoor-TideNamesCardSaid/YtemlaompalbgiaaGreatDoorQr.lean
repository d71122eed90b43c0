/- Texts of this claim, joined: Q1 P17 B20 B21 B22 P9 B23 B24 P14 W0 W1 Q3 Sh4 H8. -/
import Derived.Lib.IndexLaws
import Derived.Shelf.Strconv.AtoiAll
import Derived.Ground.NamesProg
import Derived.Test.YtemlaompalbgiaaGreatDoorProg
import Derived.Lib.SmallJoins
import Derived.Test.YtemlaompalbgiaaGreatDoorQq
set_option linter.unusedVariables false
set_option linter.unusedSimpArgs false
set_option maxRecDepth 100000
namespace Go.Proofs.YtemlaompalbgiaaGreatDoor
open Go Go.RowKit
def txG (f : Fr) : ByteArray := if toN f.den = 1 then (if f.neg = true then ⟨#[45]⟩ ++ dcB (toN f.num) else dcB (toN f.num)) else (if f.neg = true then ⟨#[45]⟩ ++ dcB (toN f.num) else dcB (toN f.num)) ++ (⟨#[47]⟩ ++ dcB (toN f.den))
def prR (f : Fr) : ByteArray × Int × Unit := if fchk f = 0 then (txG f, 0, ()) else (⟨#[]⟩, fchk f, ())
theorem fchk_ln {f : Fr} (h : fchk f = 0) : f.num.length ≤ 2048 ∧ f.den.length ≤ 2048 := by
  unfold fchk at h
  split at h
  · cases h
  · split at h
    · cases h
    · constructor <;> omega
theorem dcW {l : List Int} (h : nrm l) (k : l.length ≤ 2048) : (dcB (toN l)).size ≤ 20480 := by
  rw [dcB_size]
  exact dec_words 2047 (toN l) (Nat.le_trans (Nat.le_of_eq (congrArg List.length h.symm)) k)
theorem prR_ok {f : Fr} (h : fchk f = 0) : prR f = (txG f, 0, ()) := if_pos h
theorem prR_bad {f : Fr} (h : fchk f ≠ 0) : prR f = (⟨#[]⟩, fchk f, ()) := if_neg h
theorem txG_1n {f : Fr} (h : toN f.den = 1) (k : f.neg = true) : txG f = ⟨#[45]⟩ ++ dcB (toN f.num) := (if_pos h).trans (if_pos k)
theorem txG_1p {f : Fr} (h : toN f.den = 1) (k : f.neg = false) : txG f = dcB (toN f.num) := (if_pos h).trans (if_neg (by rw [k]; decide))
theorem txG_2n {f : Fr} (h : toN f.den ≠ 1) (k : f.neg = true) : txG f = ⟨#[45]⟩ ++ dcB (toN f.num) ++ (⟨#[47]⟩ ++ dcB (toN f.den)) := by
  unfold txG
  rw [if_neg h, if_pos k]
theorem txG_2p {f : Fr} (h : toN f.den ≠ 1) (k : f.neg = false) : txG f = dcB (toN f.num) ++ (⟨#[47]⟩ ++ dcB (toN f.den)) := by
  unfold txG
  rw [if_neg h, if_neg (by rw [k]; decide)]
theorem sz_1 (b : ByteArray) (h : b.size ≤ 20480) : (⟨#[45]⟩ : ByteArray).size + b.size ≤ 9223372036854775807 := by
  have : (⟨#[45]⟩ : ByteArray).size = 1 := rfl
  omega
theorem sz_2 (b : ByteArray) (h : b.size ≤ 20480) : (⟨#[47]⟩ : ByteArray).size + b.size ≤ 9223372036854775807 := by
  have : (⟨#[47]⟩ : ByteArray).size = 1 := rfl
  omega
theorem sz_3 (a b : ByteArray) (h : a.size ≤ 20480) (k : b.size ≤ 20480) : (⟨#[45]⟩ ++ a : ByteArray).size + (⟨#[47]⟩ ++ b : ByteArray).size ≤ 9223372036854775807 := by
  rw [ByteArray.size_append, ByteArray.size_append]
  have : (⟨#[45]⟩ : ByteArray).size = 1 := rfl
  have : (⟨#[47]⟩ : ByteArray).size = 1 := rfl
  omega
theorem sz_4 (a b : ByteArray) (h : a.size ≤ 20480) (k : b.size ≤ 20480) : a.size + (⟨#[47]⟩ ++ b : ByteArray).size ≤ 9223372036854775807 := by
  rw [ByteArray.size_append]
  have : (⟨#[47]⟩ : ByteArray).size = 1 := rfl
  omega
noncomputable def sp_rPrintG : Spec := { q := .un, ps := [tR], rs := [.st, .it .i64], fresh := true, pre := fun _ _ => none, post := fun _ x => ((), prR (toFr x.1)) }
noncomputable def iv_rPrintG (y : El sp_rPrintG.q) (x : Els sp_rPrintG.ps) : Nat → Option Inv := fun _ => none
noncomputable abbrev c_rPrintG : Cfg := cfgS (Tryz.f50).ntmps false [(58, sp_rCheck.prim), (121, sp_aPrintG.prim), (122, sp_aCmp.prim)]
def F_rPrintG (y : El sp_rPrintG.q) (x : Els sp_rPrintG.ps) : Prop :=
  ∀ (r : Ro [Ty.it IntKind.i64]), r = ((), fchk (toFr x.1), ()) → ((r.2.1 != (0 : Int)) = true → ((⟨#[]⟩ : ByteArray), r.2) = prR (toFr x.1)) ∧ ((r.2.1 != (0 : Int)) = false → (x.1.2.1 = wd (toN x.1.2.1) ∧ List.length x.1.2.1 ≤ (2048 : Nat)) ∧ ∀ (r : Ro [Ty.st, Ty.it IntKind.i64]), r = ((), dcB (toN x.1.2.1), (0 : El (Ty.it IntKind.i64)), ()) → (x.1.1 = true → (⟨#[(45 : UInt8)]⟩ : ByteArray).size + ByteArray.size r.2.1 ≤ (9223372036854775807 : Nat) ∧ (x.1.2.2.1 = wd (toN x.1.2.2.1) ∧ [(1 : Int)] = wd (toN [(1 : Int)])) ∧ ∀ (r_1 : Ro [Ty.it IntKind.i64]), r_1 = ((), cmp (toN x.1.2.2.1) (toN [(1 : Int)]), ()) → ((r_1.2.1 != (0 : Int)) = true → (x.1.2.2.1 = wd (toN x.1.2.2.1) ∧ List.length x.1.2.2.1 ≤ (2048 : Nat)) ∧ ∀ (r_2 : Ro [Ty.st, Ty.it IntKind.i64]), r_2 = ((), dcB (toN x.1.2.2.1), (0 : El (Ty.it IntKind.i64)), ()) → (⟨#[(47 : UInt8)]⟩ : ByteArray).size + ByteArray.size r_2.2.1 ≤ (9223372036854775807 : Nat) ∧ ((⟨#[(45 : UInt8)]⟩ : ByteArray) ++ r.2.1).size + ((⟨#[(47 : UInt8)]⟩ : ByteArray) ++ r_2.2.1).size ≤ (9223372036854775807 : Nat) ∧ ((⟨#[(45 : UInt8)]⟩ : ByteArray) ++ r.2.1 ++ ((⟨#[(47 : UInt8)]⟩ : ByteArray) ++ r_2.2.1), (0 : Int), ()) = prR (toFr x.1)) ∧ ((r_1.2.1 != (0 : Int)) = false → ((⟨#[(45 : UInt8)]⟩ : ByteArray) ++ r.2.1, (0 : Int), ()) = prR (toFr x.1))) ∧ (x.1.1 = false → (x.1.2.2.1 = wd (toN x.1.2.2.1) ∧ [(1 : Int)] = wd (toN [(1 : Int)])) ∧ ∀ (r_1 : Ro [Ty.it IntKind.i64]), r_1 = ((), cmp (toN x.1.2.2.1) (toN [(1 : Int)]), ()) → ((r_1.2.1 != (0 : Int)) = true → (x.1.2.2.1 = wd (toN x.1.2.2.1) ∧ List.length x.1.2.2.1 ≤ (2048 : Nat)) ∧ ∀ (r_2 : Ro [Ty.st, Ty.it IntKind.i64]), r_2 = ((), dcB (toN x.1.2.2.1), (0 : El (Ty.it IntKind.i64)), ()) → (⟨#[(47 : UInt8)]⟩ : ByteArray).size + ByteArray.size r_2.2.1 ≤ (9223372036854775807 : Nat) ∧ ByteArray.size r.2.1 + ((⟨#[(47 : UInt8)]⟩ : ByteArray) ++ r_2.2.1).size ≤ (9223372036854775807 : Nat) ∧ (r.2.1 ++ ((⟨#[(47 : UInt8)]⟩ : ByteArray) ++ r_2.2.1), (0 : Int), ()) = prR (toFr x.1)) ∧ ((r_1.2.1 != (0 : Int)) = false → (r.2.1, (0 : Int), ()) = prR (toFr x.1))))
theorem w_rPrintG (y : El sp_rPrintG.q) (x : Els sp_rPrintG.ps) : aW c_rPrintG (iv_rPrintG y x) Tryz.f50 sp_rPrintG y x = F_rPrintG y x := by kernel_rfl
theorem m_rPrintG (y : El (.un)) (x : Els [tR]) (h2 : wfE (.un) y) (h3 : wfEs [tR] x) : F_rPrintG y x := by
  unfold F_rPrintG
  rintro _ rfl
  refine ⟨fun h => (prR_bad (neT h)).symm, fun h => ?_⟩
  have q0 : fchk (toFr x.1) = 0 := neF h
  obtain ⟨n1, n2⟩ := nrm_of (wf_fr h3.1) q0
  obtain ⟨l1, l2⟩ := fchk_ln q0
  have w1 := dcW n1 l1
  have w2 := dcW n2 l2
  refine ⟨⟨n1, l1⟩, ?_⟩
  rintro _ rfl
  refine ⟨fun hn => ⟨sz_1 _ w1, ⟨n2, nrm_1⟩, ?_⟩, fun hn => ⟨⟨n2, nrm_1⟩, ?_⟩⟩
  · rintro _ rfl
    refine ⟨fun hd => ⟨⟨n2, l2⟩, ?_⟩, fun hd => ?_⟩
    · have hd := cmp1_T hd
      rintro _ rfl
      exact ⟨sz_2 _ w2, sz_3 _ _ w1 w2, ((prR_ok q0).trans (congrArg (fun b => (b, (0 : Int), ())) (txG_2n hd hn))).symm⟩
    · have hd := cmp1_F hd
      exact ((prR_ok q0).trans (congrArg (fun b => (b, (0 : Int), ())) (txG_1n hd hn))).symm
  · rintro _ rfl
    refine ⟨fun hd => ⟨⟨n2, l2⟩, ?_⟩, fun hd => ?_⟩
    · have hd := cmp1_T hd
      rintro _ rfl
      exact ⟨sz_2 _ w2, sz_4 _ _ w1 w2, ((prR_ok q0).trans (congrArg (fun b => (b, (0 : Int), ())) (txG_2p hd hn))).symm⟩
    · have hd := cmp1_F hd
      exact ((prR_ok q0).trans (congrArg (fun b => (b, (0 : Int), ())) (txG_1p hd hn))).symm
theorem fo_rPrintG : FnOk Tryz.prog 50 sp_rPrintG := fnOk_of (C := c_rPrintG) iv_rPrintG Tryz.func50 rfl (by kernel_rfl) tys_ok (prims_cons (spec_prim fo_rCheck) (prims_cons (spec_prim fo_aPrintG) (prims_cons (spec_prim fo_aCmp) prims_nil))) mixed_ (Nat.le_refl _) rfl fun y x h1 h2 h3 h4 =>
  Eq.mpr (w_rPrintG y x) (m_rPrintG y x h2 h3)
def nV (s : ByteArray) : Nat := decV s.data.toList
def denG (s : ByteArray) : Nat := bif (cutB s b_sl).2.2 then nV (cutB s b_sl).2.1 else 1
def okRG (s : ByteArray) : Bool := canD (topR s).1.data.toList && !((topR s).2 && decide (nV (topR s).1 = 0)) && (bif (cutB s b_sl).2.2 then canD (cutB s b_sl).2.1.data.toList && decide (1 < nV (cutB s b_sl).2.1) else true) && decide (Nat.gcd (nV (topR s).1) (denG s) = 1)
def parRG (s : ByteArray) : Fr × Int := if 65536 < s.size then (Fr.zero, 3) else if okRG s = true then (⟨(topR s).2, wd (nV (topR s).1), wd (denG s)⟩, 0) else (Fr.zero, 130)
theorem okRG_un {s : ByteArray} (h : okRG s = true) : canD (topR s).1.data.toList = true ∧ ((topR s).2 = true → nV (topR s).1 ≠ 0) ∧ ((cutB s b_sl).2.2 = true → canD (cutB s b_sl).2.1.data.toList = true ∧ 1 < nV (cutB s b_sl).2.1) ∧ Nat.gcd (nV (topR s).1) (denG s) = 1 := by
  unfold okRG at h
  simp only [Bool.and_eq_true, decide_eq_true_eq] at h
  obtain ⟨⟨⟨h2, h3⟩, h4⟩, h5⟩ := h
  refine ⟨h2, fun hn hz => ?_, fun hb => ?_, h5⟩
  · rw [hn, decide_eq_true hz] at h3
    cases h3
  · rw [hb] at h4
    simp only [cond_true, Bool.and_eq_true, decide_eq_true_eq] at h4
    exact h4
theorem okRG_mk {s : ByteArray} (h2 : canD (topR s).1.data.toList = true) (h3 : (topR s).2 = true → nV (topR s).1 ≠ 0) (h4 : (cutB s b_sl).2.2 = true → canD (cutB s b_sl).2.1.data.toList = true ∧ 1 < nV (cutB s b_sl).2.1) (h5 : Nat.gcd (nV (topR s).1) (denG s) = 1) : okRG s = true := by
  unfold okRG
  simp only [Bool.and_eq_true, decide_eq_true_eq]
  refine ⟨⟨⟨h2, ?_⟩, ?_⟩, h5⟩
  · cases hn : (topR s).2 with
    | false => rfl
    | true => rw [decide_eq_false (h3 hn)]; rfl
  · cases hb : (cutB s b_sl).2.2 with
    | false => rfl
    | true =>
      simp only [cond_true, Bool.and_eq_true, decide_eq_true_eq]
      exact h4 hb
theorem pg_long {s : ByteArray} (h : 65536 < s.size) : parRG s = (Fr.zero, 3) := if_pos h
theorem pg_bad {s : ByteArray} (h : s.size ≤ 3000) (k : ¬ okRG s = true) : parRG s = (Fr.zero, 130) := (if_neg (by omega)).trans (if_neg k)
theorem pg_ok {s : ByteArray} (h : s.size ≤ 3000) (k : okRG s = true) : parRG s = (⟨(topR s).2, wd (nV (topR s).1), wd (denG s)⟩, 0) := (if_neg (by omega)).trans (if_pos k)
theorem cut_sz (s p : ByteArray) : (cutB s p).1.size ≤ s.size ∧ (cutB s p).2.1.size ≤ s.size := by
  unfold cutB
  split
  · refine ⟨?_, ?_⟩
    all_goals
      dsimp only
      rw [← ba_len, ex_list, List.length_take, List.length_drop, ba_len]
      omega
  · exact ⟨Nat.le_refl _, Nat.zero_le _⟩
theorem dec_wds9 {l : List UInt8} {j : Nat} (h : l.all isD = true) (hl : l.length ≤ 9 * j) : (wd (decV l)).length ≤ j := by
  refine wd_len_le _ j ?_
  have h1 := decV_lt h
  have h2 : 10 ^ l.length ≤ 10 ^ (9 * j) := Nat.pow_le_pow_right (by decide) hl
  have h3 : (10 ^ 9) ^ j ≤ 4294967296 ^ j := Nat.pow_le_pow_left (by decide) j
  rw [← Nat.pow_mul] at h3
  have h4 : pw j = ((4294967296 ^ j : Nat) : Int) := by unfold pw; rw [Int.natCast_pow]; rfl
  omega
theorem can_wds {s : ByteArray} (h : s.size ≤ 3000) (k : canD s.data.toList = true) : (wd (nV s)).length ≤ 2048 := Nat.le_trans (dec_wds9 (j := 334) (can_all k) (by rw [ba_len]; omega)) (by decide)
theorem cmp_le1 {v : Nat} (h : ¬ 1 < v) : (cmp (toN (wd v)) (toN [1]) : Int) ≤ 0 := by
  rw [toN_wd, toN_1]
  unfold cmp
  repeat' split
  all_goals first | decide | omega
noncomputable def sp_rParseG : Spec := { q := .un, ps := [.st], rs := [tR, .it .i64], fresh := true, pre := fun _ x => some (ByteArray.size x.1 ≤ 3000 ∨ 65536 < ByteArray.size x.1), post := fun _ x => pR (parRG x.1) }
noncomputable def iv_rParseG (y : El sp_rParseG.q) (x : Els sp_rParseG.ps) : Nat → Option Inv := fun _ => none
noncomputable abbrev c_rParseG : Cfg := cfgS (Tryz.f52).ntmps false [(87, sp_sCut.prim), (127, sp_sCutP.prim), (128, sp_aParseG.prim), (122, sp_aCmp.prim), (129, sp_aGcd.prim), (130, sp_rlong.prim)]
def F_rParseG (y : El sp_rParseG.q) (x : Els sp_rParseG.ps) : Prop :=
  (decide ((↑(ByteArray.size x.1) : Int) > (65536 : Int)) = true → ((false, [], [], ()), (3 : Int), ()) = (pR (parRG x.1)).2) ∧ (decide ((↑(ByteArray.size x.1) : Int) > (65536 : Int)) = false → (⟨#[(47 : UInt8)]⟩ : ByteArray).size = (1 : Nat) ∧ ∀ (r : Ro [Ty.st, Ty.st, Ty.bo]), r = ((), (cutB x.1 (⟨#[(47 : UInt8)]⟩ : ByteArray)).1, (cutB x.1 (⟨#[(47 : UInt8)]⟩ : ByteArray)).2.1, (cutB x.1 (⟨#[(47 : UInt8)]⟩ : ByteArray)).2.2, ()) → ∀ (r_1 : Ro [Ty.st, Ty.bo]), r_1 = ((), (cutP r.2.1 (⟨#[(45 : UInt8)]⟩ : ByteArray)).1, (cutP r.2.1 (⟨#[(45 : UInt8)]⟩ : ByteArray)).2, ()) → (ByteArray.size r_1.2.1 ≤ (3000 : Nat) ∨ (65536 : Nat) < ByteArray.size r_1.2.1) ∧ ∀ (r_2 : Ro [tW32, Ty.it IntKind.i64]), r_2 = ((), parN r_1.2.1) → ((r_2.2.2.1 != (0 : Int)) = true → ((false, [], [], ()), (130 : Int), ()) = (pR (parRG x.1)).2) ∧ ((r_2.2.2.1 != (0 : Int)) = false → (r_1.2.2.1 = true → ((lenM (0 : Nat) (Ty.it IntKind.u32) r_2.2.1 == (0 : Int)) = true → ((false, [], [], ()), (130 : Int), ()) = (pR (parRG x.1)).2) ∧ ((lenM (0 : Nat) (Ty.it IntKind.u32) r_2.2.1 == (0 : Int)) = false → (r.2.2.2.1 = true → (ByteArray.size r.2.2.1 ≤ (3000 : Nat) ∨ (65536 : Nat) < ByteArray.size r.2.2.1) ∧ ∀ (r_3 : Ro [tW32, Ty.it IntKind.i64]), r_3 = ((), parN r.2.2.1) → ((r_3.2.2.1 != (0 : Int)) = true → ((false, [], [], ()), (130 : Int), ()) = (pR (parRG x.1)).2) ∧ ((r_3.2.2.1 != (0 : Int)) = false → (r_3.2.1 = wd (toN r_3.2.1) ∧ [(1 : Int)] = wd (toN [(1 : Int)])) ∧ ∀ (r : Ro [Ty.it IntKind.i64]), r = ((), cmp (toN r_3.2.1) (toN [(1 : Int)]), ()) → (decide (r.2.1 ≤ (0 : Int)) = true → ((false, [], [], ()), (130 : Int), ()) = (pR (parRG x.1)).2) ∧ (decide (r.2.1 ≤ (0 : Int)) = false → (r_2.2.1 = wd (toN r_2.2.1) ∧ r_3.2.1 = wd (toN r_3.2.1) ∧ List.length r_2.2.1 ≤ (8192 : Nat) ∧ List.length r_3.2.1 ≤ (8192 : Nat)) ∧ ∀ (r : Ro [tW32, Ty.it IntKind.i64]), r = ((), wd ((toN r_2.2.1).gcd (toN r_3.2.1)), (0 : El (Ty.it IntKind.i64)), ()) → (r.2.1 = wd (toN r.2.1) ∧ [(1 : Int)] = wd (toN [(1 : Int)])) ∧ ∀ (r_4 : Ro [Ty.it IntKind.i64]), r_4 = ((), cmp (toN r.2.1) (toN [(1 : Int)]), ()) → ((r_4.2.1 != (0 : Int)) = true → ((false, [], [], ()), (130 : Int), ()) = (pR (parRG x.1)).2) ∧ ((r_4.2.1 != (0 : Int)) = false → ∀ (r : Ro [Ty.bo]), r = ((), decide ((2048 : Nat) < List.length r_2.2.1), ()) → (r.2.1 = true → ((false, [], [], ()), (3 : Int), ()) = (pR (parRG x.1)).2) ∧ (r.2.1 = false → ∀ (r : Ro [Ty.bo]), r = ((), decide ((2048 : Nat) < List.length r_3.2.1), ()) → (r.2.1 = true → ((false, [], [], ()), (3 : Int), ()) = (pR (parRG x.1)).2) ∧ (r.2.1 = false → ((r_1.2.2.1, r_2.2.1, r_3.2.1, ()), (0 : Int), ()) = (pR (parRG x.1)).2)))))) ∧ (r.2.2.2.1 = false → (r_2.2.1 = wd (toN r_2.2.1) ∧ [(1 : Int)] = wd (toN [(1 : Int)]) ∧ List.length r_2.2.1 ≤ (8192 : Nat) ∧ [(1 : Int)].length ≤ (8192 : Nat)) ∧ ∀ (r : Ro [tW32, Ty.it IntKind.i64]), r = ((), wd ((toN r_2.2.1).gcd (toN [(1 : Int)])), (0 : El (Ty.it IntKind.i64)), ()) → (r.2.1 = wd (toN r.2.1) ∧ [(1 : Int)] = wd (toN [(1 : Int)])) ∧ ∀ (r_3 : Ro [Ty.it IntKind.i64]), r_3 = ((), cmp (toN r.2.1) (toN [(1 : Int)]), ()) → ((r_3.2.1 != (0 : Int)) = true → ((false, [], [], ()), (130 : Int), ()) = (pR (parRG x.1)).2) ∧ ((r_3.2.1 != (0 : Int)) = false → ∀ (r : Ro [Ty.bo]), r = ((), decide ((2048 : Nat) < List.length r_2.2.1), ()) → (r.2.1 = true → ((false, [], [], ()), (3 : Int), ()) = (pR (parRG x.1)).2) ∧ (r.2.1 = false → ∀ (r : Ro [Ty.bo]), r = ((), decide ((2048 : Nat) < [(1 : Int)].length), ()) → (r.2.1 = true → ((false, [], [], ()), (3 : Int), ()) = (pR (parRG x.1)).2) ∧ (r.2.1 = false → ((r_1.2.2.1, r_2.2.1, [(1 : Int)], ()), (0 : Int), ()) = (pR (parRG x.1)).2)))))) ∧ (r_1.2.2.1 = false → (r.2.2.2.1 = true → (ByteArray.size r.2.2.1 ≤ (3000 : Nat) ∨ (65536 : Nat) < ByteArray.size r.2.2.1) ∧ ∀ (r_3 : Ro [tW32, Ty.it IntKind.i64]), r_3 = ((), parN r.2.2.1) → ((r_3.2.2.1 != (0 : Int)) = true → ((false, [], [], ()), (130 : Int), ()) = (pR (parRG x.1)).2) ∧ ((r_3.2.2.1 != (0 : Int)) = false → (r_3.2.1 = wd (toN r_3.2.1) ∧ [(1 : Int)] = wd (toN [(1 : Int)])) ∧ ∀ (r : Ro [Ty.it IntKind.i64]), r = ((), cmp (toN r_3.2.1) (toN [(1 : Int)]), ()) → (decide (r.2.1 ≤ (0 : Int)) = true → ((false, [], [], ()), (130 : Int), ()) = (pR (parRG x.1)).2) ∧ (decide (r.2.1 ≤ (0 : Int)) = false → (r_2.2.1 = wd (toN r_2.2.1) ∧ r_3.2.1 = wd (toN r_3.2.1) ∧ List.length r_2.2.1 ≤ (8192 : Nat) ∧ List.length r_3.2.1 ≤ (8192 : Nat)) ∧ ∀ (r : Ro [tW32, Ty.it IntKind.i64]), r = ((), wd ((toN r_2.2.1).gcd (toN r_3.2.1)), (0 : El (Ty.it IntKind.i64)), ()) → (r.2.1 = wd (toN r.2.1) ∧ [(1 : Int)] = wd (toN [(1 : Int)])) ∧ ∀ (r_4 : Ro [Ty.it IntKind.i64]), r_4 = ((), cmp (toN r.2.1) (toN [(1 : Int)]), ()) → ((r_4.2.1 != (0 : Int)) = true → ((false, [], [], ()), (130 : Int), ()) = (pR (parRG x.1)).2) ∧ ((r_4.2.1 != (0 : Int)) = false → ∀ (r : Ro [Ty.bo]), r = ((), decide ((2048 : Nat) < List.length r_2.2.1), ()) → (r.2.1 = true → ((false, [], [], ()), (3 : Int), ()) = (pR (parRG x.1)).2) ∧ (r.2.1 = false → ∀ (r : Ro [Ty.bo]), r = ((), decide ((2048 : Nat) < List.length r_3.2.1), ()) → (r.2.1 = true → ((false, [], [], ()), (3 : Int), ()) = (pR (parRG x.1)).2) ∧ (r.2.1 = false → ((r_1.2.2.1, r_2.2.1, r_3.2.1, ()), (0 : Int), ()) = (pR (parRG x.1)).2)))))) ∧ (r.2.2.2.1 = false → (r_2.2.1 = wd (toN r_2.2.1) ∧ [(1 : Int)] = wd (toN [(1 : Int)]) ∧ List.length r_2.2.1 ≤ (8192 : Nat) ∧ [(1 : Int)].length ≤ (8192 : Nat)) ∧ ∀ (r : Ro [tW32, Ty.it IntKind.i64]), r = ((), wd ((toN r_2.2.1).gcd (toN [(1 : Int)])), (0 : El (Ty.it IntKind.i64)), ()) → (r.2.1 = wd (toN r.2.1) ∧ [(1 : Int)] = wd (toN [(1 : Int)])) ∧ ∀ (r_3 : Ro [Ty.it IntKind.i64]), r_3 = ((), cmp (toN r.2.1) (toN [(1 : Int)]), ()) → ((r_3.2.1 != (0 : Int)) = true → ((false, [], [], ()), (130 : Int), ()) = (pR (parRG x.1)).2) ∧ ((r_3.2.1 != (0 : Int)) = false → ∀ (r : Ro [Ty.bo]), r = ((), decide ((2048 : Nat) < List.length r_2.2.1), ()) → (r.2.1 = true → ((false, [], [], ()), (3 : Int), ()) = (pR (parRG x.1)).2) ∧ (r.2.1 = false → ∀ (r : Ro [Ty.bo]), r = ((), decide ((2048 : Nat) < [(1 : Int)].length), ()) → (r.2.1 = true → ((false, [], [], ()), (3 : Int), ()) = (pR (parRG x.1)).2) ∧ (r.2.1 = false → ((r_1.2.2.1, r_2.2.1, [(1 : Int)], ()), (0 : Int), ()) = (pR (parRG x.1)).2)))))))
theorem w_rParseG (y : El sp_rParseG.q) (x : Els sp_rParseG.ps) : aW c_rParseG (iv_rParseG y x) Tryz.f52 sp_rParseG y x = F_rParseG y x := by kernel_rfl
theorem m_rParseG (y : El (.un)) (x : Els [.st]) (h2 : wfE (.un) y) (h3 : wfEs [.st] x) (h4 : ByteArray.size x.1 ≤ 3000 ∨ 65536 < ByteArray.size x.1) : F_rParseG y x := by
  unfold F_rParseG
  have hsz : ByteArray.size x.1 ≤ 3000 ∨ 65536 < ByteArray.size x.1 := h4
  refine ⟨fun h => congrArg (fun t => (pR t).2) (pg_long (Int.ofNat_lt.1 (gtT h))).symm, fun h => ⟨rfl, ?_⟩⟩
  have h3k : ByteArray.size x.1 ≤ 3000 := hsz.resolve_right (fun c => absurd (Int.ofNat_lt.2 c) (Int.not_lt.2 (gtF h)))
  rintro _ rfl _ rfl
  have t3k : (topR x.1).1.size ≤ 3000 := Nat.le_trans (cutP_size _ _) (Nat.le_trans (cut_sz x.1 b_sl).1 h3k)
  refine ⟨.inl t3k, ?_⟩
  intro r2 hr2
  by_cases c1 : canD (topR x.1).1.data.toList = true
  · have l1 := can_wds t3k c1
    obtain rfl := hr2.trans (congrArg (fun t => (((), t) : El .un × Els [tW32, .it .i64])) (par_ok t3k c1))
    refine ⟨fun h => Bool.noConfusion (show false = true from h), fun _ => ⟨fun hn => ⟨fun hz => ?_, fun hz => ?_⟩, fun hn => ?_⟩⟩
    · exact congrArg (fun t => (pR t).2) (pg_bad h3k (fun k => (okRG_un k).2.1 hn (lenM_nz hz))).symm
    · have HN : (topR x.1).2 = true → nV (topR x.1).1 ≠ 0 := fun _ e => by
        have h : ((wd (nV (topR x.1).1)).length : Int) ≠ 0 := eqF hz
        rw [e, wd_zero] at h
        exact h rfl
      refine ⟨fun hb => ⟨.inl (Nat.le_trans (cut_sz x.1 b_sl).2 h3k), ?_⟩, fun hb => ⟨⟨nrm_wd _, nrm_1, Nat.le_trans l1 (by decide), by decide⟩, ?_⟩⟩
      · have hb : (cutB x.1 b_sl).2.2 = true := hb
        have hdg : denG x.1 = nV (cutB x.1 b_sl).2.1 := by unfold denG; rw [hb]; rfl
        intro r3 hr3
        by_cases c2 : canD (cutB x.1 b_sl).2.1.data.toList = true
        · have l2 := can_wds (Nat.le_trans (cut_sz x.1 b_sl).2 h3k) c2
          obtain rfl := hr3.trans (congrArg (fun t => (((), t) : El .un × Els [tW32, .it .i64])) (par_ok (Nat.le_trans (cut_sz x.1 b_sl).2 h3k) c2))
          refine ⟨fun h => Bool.noConfusion (show false = true from h), fun _ => ⟨⟨nrm_wd _, nrm_1⟩, ?_⟩⟩
          rintro _ rfl
          refine ⟨fun h => ?_, fun h => ⟨⟨nrm_wd _, nrm_wd _, Nat.le_trans l1 (by decide), Nat.le_trans l2 (by decide)⟩, ?_⟩⟩
          · have h : (cmp (toN (wd (nV (cutB x.1 b_sl).2.1))) (toN [1]) : Int) ≤ 0 := leT h
            exact congrArg (fun t => (pR t).2) (pg_bad h3k (fun k => by
              have := cmp_gt1 ((okRG_un k).2.2.1 hb).2
              omega)).symm
          have g1 : 1 < nV (cutB x.1 b_sl).2.1 := Decidable.byContradiction fun c => absurd (cmp_le1 c) (Int.not_le.2 (leF h))
          rintro _ rfl
          refine ⟨⟨nrm_wd _, nrm_1⟩, ?_⟩
          rintro _ rfl
          refine ⟨fun h => ?_, fun h => ?_⟩
          · have h := cmp1_T h
            exact congrArg (fun t => (pR t).2) (pg_bad h3k (fun k => h (by
              rw [toN_wd, toN_wd, toN_wd]
              have := (okRG_un k).2.2.2
              rw [hdg] at this
              exact this))).symm
          have g2 := cmp1_F h
          rw [toN_wd, toN_wd, toN_wd] at g2
          rintro _ rfl
          refine ⟨fun h => absurd (of_decide_eq_true h) (Nat.not_lt.2 l1), fun _ => ?_⟩
          rintro _ rfl
          refine ⟨fun h => absurd (of_decide_eq_true h) (Nat.not_lt.2 l2), fun _ => ?_⟩
          have e := pg_ok h3k (okRG_mk c1 HN (fun _ => ⟨c2, g1⟩) (by rw [hdg]; exact g2))
          rw [hdg] at e
          exact congrArg (fun t => (pR t).2) e.symm
        · obtain rfl := hr3.trans (congrArg (fun t => (((), t) : El .un × Els [tW32, .it .i64])) (par_bad (Nat.le_trans (cut_sz x.1 b_sl).2 h3k) c2))
          exact ⟨fun _ => congrArg (fun t => (pR t).2) (pg_bad h3k (fun k => c2 ((okRG_un k).2.2.1 hb).1)).symm, fun h => Bool.noConfusion (show true = false from h)⟩
      · have hb : (cutB x.1 b_sl).2.2 = false := hb
        have hdg : denG x.1 = 1 := by unfold denG; rw [hb]; rfl
        rintro _ rfl
        refine ⟨⟨nrm_wd _, nrm_1⟩, ?_⟩
        rintro _ rfl
        refine ⟨fun h => ?_, fun h => ?_⟩
        · have h := cmp1_T h
          refine absurd ?_ h
          rw [toN_wd, toN_wd, toN_1]
          exact Nat.gcd_one_right _
        rintro _ rfl
        refine ⟨fun h => absurd (of_decide_eq_true h) (Nat.not_lt.2 l1), fun _ => ?_⟩
        rintro _ rfl
        refine ⟨fun h => Bool.noConfusion (show false = true from h), fun _ => ?_⟩
        have e := pg_ok h3k (okRG_mk c1 HN (fun c => by rw [hb] at c; cases c) (by rw [hdg]; exact Nat.gcd_one_right _))
        rw [hdg, wd_one] at e
        exact congrArg (fun t => (pR t).2) e.symm
    · have HN : (topR x.1).2 = true → nV (topR x.1).1 ≠ 0 := fun c => by
        have hn : (topR x.1).2 = false := hn
        rw [hn] at c
        cases c
      refine ⟨fun hb => ⟨.inl (Nat.le_trans (cut_sz x.1 b_sl).2 h3k), ?_⟩, fun hb => ⟨⟨nrm_wd _, nrm_1, Nat.le_trans l1 (by decide), by decide⟩, ?_⟩⟩
      · have hb : (cutB x.1 b_sl).2.2 = true := hb
        have hdg : denG x.1 = nV (cutB x.1 b_sl).2.1 := by unfold denG; rw [hb]; rfl
        intro r3 hr3
        by_cases c2 : canD (cutB x.1 b_sl).2.1.data.toList = true
        · have l2 := can_wds (Nat.le_trans (cut_sz x.1 b_sl).2 h3k) c2
          obtain rfl := hr3.trans (congrArg (fun t => (((), t) : El .un × Els [tW32, .it .i64])) (par_ok (Nat.le_trans (cut_sz x.1 b_sl).2 h3k) c2))
          refine ⟨fun h => Bool.noConfusion (show false = true from h), fun _ => ⟨⟨nrm_wd _, nrm_1⟩, ?_⟩⟩
          rintro _ rfl
          refine ⟨fun h => ?_, fun h => ⟨⟨nrm_wd _, nrm_wd _, Nat.le_trans l1 (by decide), Nat.le_trans l2 (by decide)⟩, ?_⟩⟩
          · have h : (cmp (toN (wd (nV (cutB x.1 b_sl).2.1))) (toN [1]) : Int) ≤ 0 := leT h
            exact congrArg (fun t => (pR t).2) (pg_bad h3k (fun k => by
              have := cmp_gt1 ((okRG_un k).2.2.1 hb).2
              omega)).symm
          have g1 : 1 < nV (cutB x.1 b_sl).2.1 := Decidable.byContradiction fun c => absurd (cmp_le1 c) (Int.not_le.2 (leF h))
          rintro _ rfl
          refine ⟨⟨nrm_wd _, nrm_1⟩, ?_⟩
          rintro _ rfl
          refine ⟨fun h => ?_, fun h => ?_⟩
          · have h := cmp1_T h
            exact congrArg (fun t => (pR t).2) (pg_bad h3k (fun k => h (by
              rw [toN_wd, toN_wd, toN_wd]
              have := (okRG_un k).2.2.2
              rw [hdg] at this
              exact this))).symm
          have g2 := cmp1_F h
          rw [toN_wd, toN_wd, toN_wd] at g2
          rintro _ rfl
          refine ⟨fun h => absurd (of_decide_eq_true h) (Nat.not_lt.2 l1), fun _ => ?_⟩
          rintro _ rfl
          refine ⟨fun h => absurd (of_decide_eq_true h) (Nat.not_lt.2 l2), fun _ => ?_⟩
          have e := pg_ok h3k (okRG_mk c1 HN (fun _ => ⟨c2, g1⟩) (by rw [hdg]; exact g2))
          rw [hdg] at e
          exact congrArg (fun t => (pR t).2) e.symm
        · obtain rfl := hr3.trans (congrArg (fun t => (((), t) : El .un × Els [tW32, .it .i64])) (par_bad (Nat.le_trans (cut_sz x.1 b_sl).2 h3k) c2))
          exact ⟨fun _ => congrArg (fun t => (pR t).2) (pg_bad h3k (fun k => c2 ((okRG_un k).2.2.1 hb).1)).symm, fun h => Bool.noConfusion (show true = false from h)⟩
      · have hb : (cutB x.1 b_sl).2.2 = false := hb
        have hdg : denG x.1 = 1 := by unfold denG; rw [hb]; rfl
        rintro _ rfl
        refine ⟨⟨nrm_wd _, nrm_1⟩, ?_⟩
        rintro _ rfl
        refine ⟨fun h => ?_, fun h => ?_⟩
        · have h := cmp1_T h
          refine absurd ?_ h
          rw [toN_wd, toN_wd, toN_1]
          exact Nat.gcd_one_right _
        rintro _ rfl
        refine ⟨fun h => absurd (of_decide_eq_true h) (Nat.not_lt.2 l1), fun _ => ?_⟩
        rintro _ rfl
        refine ⟨fun h => Bool.noConfusion (show false = true from h), fun _ => ?_⟩
        have e := pg_ok h3k (okRG_mk c1 HN (fun c => by rw [hb] at c; cases c) (by rw [hdg]; exact Nat.gcd_one_right _))
        rw [hdg, wd_one] at e
        exact congrArg (fun t => (pR t).2) e.symm
  · obtain rfl := hr2.trans (congrArg (fun t => (((), t) : El .un × Els [tW32, .it .i64])) (par_bad t3k c1))
    exact ⟨fun _ => congrArg (fun t => (pR t).2) (pg_bad h3k (fun k => c1 (okRG_un k).1)).symm, fun h => Bool.noConfusion (show true = false from h)⟩
theorem fo_rParseG : FnOk Tryz.prog 52 sp_rParseG := fnOk_of (C := c_rParseG) iv_rParseG Tryz.func52 rfl (by kernel_rfl) tys_ok (prims_cons (spec_prim fo_sCut) (prims_cons (spec_prim fo_sCutP) (prims_cons (spec_prim fo_aParseG) (prims_cons (spec_prim fo_aCmp) (prims_cons (spec_prim fo_aGcd) (prims_cons (spec_prim fo_rlong) prims_nil)))))) mixed_ (Nat.le_refl _) rfl fun y x h1 h2 h3 h4 =>
  Eq.mpr (w_rParseG y x) (m_rParseG y x h2 h3 h4)
def bd (k : Nat) (z : Int) : Prop := z.natAbs ≤ 2000 ^ k
section
variable {x y : Int} {c d j k : Nat}
end
section
variable {a b : Int}
end
section
variable {a b c d : Int} {i : Nat}
end
section
variable {a b : El tRot} {n : Int}
end
end Go.Proofs.YtemlaompalbgiaaGreatDoor
namespace Go.Proofs.YtemlaompalbgiaaGreatDoor
section
variable {a b c d p q r s : Rat}
variable (la : ¬ lng a = true) (lb : ¬ lng b = true) (lc : ¬ lng c = true) (ld : ¬ lng d = true)
include la lb lc ld
end
end Go.Proofs.YtemlaompalbgiaaGreatDoor
namespace Go.Proofs.YtemlaompalbgiaaGreatDoor
open Go Go.RowKit
def b_sp : ByteArray := ⟨#[32]⟩
def txGa (a : Ga) : ByteArray := txG a.re ++ ⟨#[32]⟩ ++ txG a.im
def prG (a : Ga) : ByteArray × Int × Unit := if gchk a = 0 then (if 65536 < (txGa a).size then (⟨#[]⟩, 3, ()) else (txGa a, 0, ())) else (⟨#[]⟩, gchk a, ())
theorem ntF {b : Bool} (h : (!b) = false) : b = true := by simpa using h
theorem gchk_zr {a : Ga} (h : gchk a = 0) : fchk a.re = 0 ∧ fchk a.im = 0 := by
  unfold gchk fchk2 at h
  split at h
  · next c => exact absurd h c
  · next c => exact ⟨Decidable.not_not.1 c, h⟩
theorem txG_sz {f : Fr} (wf : f.Wf) (h : fchk f = 0) : (txG f).size ≤ 40962 := by
  obtain ⟨n1, n2⟩ := nrm_of wf h
  obtain ⟨l1, l2⟩ := fchk_ln h
  have w1 := dcW n1 l1
  have w2 := dcW n2 l2
  have z1 : (⟨#[45]⟩ : ByteArray).size = 1 := rfl
  have z2 : (⟨#[47]⟩ : ByteArray).size = 1 := rfl
  unfold txG
  repeat' split
  all_goals try simp only [ByteArray.size_append]
  all_goals omega
theorem prG_bad {a : Ga} (h : gchk a ≠ 0) : prG a = (⟨#[]⟩, gchk a, ()) := if_neg h
theorem prG_long {a : Ga} (h : gchk a = 0) (k : 65536 < (txGa a).size) : prG a = (⟨#[]⟩, 3, ()) := (if_pos h).trans (if_pos k)
theorem prG_ok {a : Ga} (h : gchk a = 0) (k : (txGa a).size ≤ 65536) : prG a = (txGa a, 0, ()) := (if_pos h).trans (if_neg (Nat.not_lt.2 k))
noncomputable def sp_gPrintG : Spec := { q := .un, ps := [tG], rs := [.st, .it .i64], fresh := true, pre := fun _ _ => none, post := fun _ x => ((), prG (toGa x.1)) }
noncomputable def iv_gPrintG (y : El sp_gPrintG.q) (x : Els sp_gPrintG.ps) : Nat → Option Inv := fun _ => none
noncomputable abbrev c_gPrintG : Cfg := cfgS (Tryz.f190).ntmps false [(110, sp_gCheck.prim), (50, sp_rPrintG.prim)]
def F_gPrintG (y : El sp_gPrintG.q) (x : Els sp_gPrintG.ps) : Prop :=
  ∀ (r : Ro [Ty.it IntKind.i64]), r = ((), gchk (toGa x.1), ()) → ((r.2.1 != (0 : Int)) = true → ((⟨#[]⟩ : ByteArray), r.2) = prG (toGa x.1)) ∧ ((r.2.1 != (0 : Int)) = false → ∀ (r : Ro [Ty.st, Ty.it IntKind.i64]), r = ((), prR (toFr x.1.1)) → ∀ (r_1 : Ro [Ty.st, Ty.it IntKind.i64]), r_1 = ((), prR (toFr x.1.2.1)) → ByteArray.size r.2.1 + (⟨#[(32 : UInt8)]⟩ : ByteArray).size ≤ (9223372036854775807 : Nat) ∧ (r.2.1 ++ (⟨#[(32 : UInt8)]⟩ : ByteArray)).size + ByteArray.size r_1.2.1 ≤ (9223372036854775807 : Nat) ∧ (decide ((↑(r.2.1 ++ (⟨#[(32 : UInt8)]⟩ : ByteArray) ++ r_1.2.1).size : Int) > (65536 : Int)) = true → ((⟨#[]⟩ : ByteArray), (3 : Int), ()) = prG (toGa x.1)) ∧ (decide ((↑(r.2.1 ++ (⟨#[(32 : UInt8)]⟩ : ByteArray) ++ r_1.2.1).size : Int) > (65536 : Int)) = false → (r.2.1 ++ (⟨#[(32 : UInt8)]⟩ : ByteArray) ++ r_1.2.1, (0 : Int), ()) = prG (toGa x.1)))
theorem w_gPrintG (y : El sp_gPrintG.q) (x : Els sp_gPrintG.ps) : aW c_gPrintG (iv_gPrintG y x) Tryz.f190 sp_gPrintG y x = F_gPrintG y x := by kernel_rfl
theorem m_gPrintG (y : El (.un)) (x : Els [tG]) (h2 : wfE (.un) y) (h3 : wfEs [tG] x) : F_gPrintG y x := by
  unfold F_gPrintG
  rintro _ rfl
  refine ⟨fun h => (prG_bad (neT h)).symm, fun h => ?_⟩
  have q0 : gchk (toGa x.1) = 0 := neF h
  obtain ⟨f1, f2⟩ := gchk_zr q0
  have f1 : fchk (toFr x.1.1) = 0 := f1
  have f2 : fchk (toFr x.1.2.1) = 0 := f2
  have s1 := txG_sz (wf_fr h3.1.1) f1
  have s2 := txG_sz (wf_fr h3.1.2.1) f2
  have z3 : (⟨#[32]⟩ : ByteArray).size = 1 := rfl
  intro r hr
  obtain rfl := hr.trans (congrArg (fun t => (((), t) : El .un × Els [.st, .it .i64])) (prR_ok f1))
  intro r hr
  obtain rfl := hr.trans (congrArg (fun t => (((), t) : El .un × Els [.st, .it .i64])) (prR_ok f2))
  refine ⟨?_, ?_, fun h => ?_, fun h => ?_⟩
  · show (txG (toFr x.1.1)).size + (⟨#[32]⟩ : ByteArray).size ≤ _
    omega
  · show (txG (toFr x.1.1) ++ ⟨#[32]⟩).size + (txG (toFr x.1.2.1)).size ≤ _
    rw [ByteArray.size_append]
    omega
  · exact (prG_long q0 (Int.ofNat_lt.1 (gtT h))).symm
  · exact (prG_ok q0 (Int.ofNat_le.1 (gtF h))).symm
theorem fo_gPrintG : FnOk Tryz.prog 190 sp_gPrintG := fnOk_of (C := c_gPrintG) iv_gPrintG Tryz.func190 rfl (by kernel_rfl) tys_ok (prims_cons (spec_prim fo_gCheck) (prims_cons (spec_prim fo_rPrintG) prims_nil)) mixed_ (Nat.le_refl _) rfl fun y x h1 h2 h3 h4 =>
  Eq.mpr (w_gPrintG y x) (m_gPrintG y x h2 h3)
def okGG (s : ByteArray) : Bool := (cutB s b_sp).2.2 && okRG (cutB s b_sp).1 && okRG (cutB s b_sp).2.1
def frG (s : ByteArray) : Fr := ⟨(topR s).2, wd (nV (topR s).1), wd (denG s)⟩
def parGG (s : ByteArray) : Ga × Int := if 65536 < s.size then (Ga.zero, 3) else if okGG s = true then (⟨frG (cutB s b_sp).1, frG (cutB s b_sp).2.1⟩, 0) else (Ga.zero, 140)
theorem pgg_long {s : ByteArray} (h : 65536 < s.size) : parGG s = (Ga.zero, 3) := if_pos h
theorem pgg_bad {s : ByteArray} (h : s.size ≤ 3000) (k : ¬ okGG s = true) : parGG s = (Ga.zero, 140) := (if_neg (by omega)).trans (if_neg k)
theorem pgg_ok {s : ByteArray} (h : s.size ≤ 3000) (k : okGG s = true) : parGG s = (⟨frG (cutB s b_sp).1, frG (cutB s b_sp).2.1⟩, 0) := (if_neg (by omega)).trans (if_pos k)
theorem okGG_un {s : ByteArray} (h : okGG s = true) : (cutB s b_sp).2.2 = true ∧ okRG (cutB s b_sp).1 = true ∧ okRG (cutB s b_sp).2.1 = true := by
  unfold okGG at h
  simp only [Bool.and_eq_true] at h
  exact ⟨h.1.1, h.1.2, h.2⟩
theorem okGG_mk {s : ByteArray} (h1 : (cutB s b_sp).2.2 = true) (h2 : okRG (cutB s b_sp).1 = true) (h3 : okRG (cutB s b_sp).2.1 = true) : okGG s = true := by
  unfold okGG
  rw [h1, h2, h3]
  rfl
noncomputable def sp_gParseG : Spec := { q := .un, ps := [.st], rs := [tG, .it .i64], fresh := true, pre := fun _ x => some (ByteArray.size x.1 ≤ 3000 ∨ 65536 < ByteArray.size x.1), post := fun _ x => pG (parGG x.1) }
noncomputable def iv_gParseG (y : El sp_gParseG.q) (x : Els sp_gParseG.ps) : Nat → Option Inv := fun _ => none
noncomputable abbrev c_gParseG : Cfg := cfgS (Tryz.f15).ntmps false [(87, sp_sCut.prim), (52, sp_rParseG.prim)]
def F_gParseG (y : El sp_gParseG.q) (x : Els sp_gParseG.ps) : Prop :=
  (decide ((↑(ByteArray.size x.1) : Int) > (65536 : Int)) = true → (((false, [], [], ()), (false, [], [], ()), ()), (3 : Int), ()) = (pG (parGG x.1)).2) ∧ (decide ((↑(ByteArray.size x.1) : Int) > (65536 : Int)) = false → (⟨#[(32 : UInt8)]⟩ : ByteArray).size = (1 : Nat) ∧ ∀ (r : Ro [Ty.st, Ty.st, Ty.bo]), r = ((), (cutB x.1 (⟨#[(32 : UInt8)]⟩ : ByteArray)).1, (cutB x.1 (⟨#[(32 : UInt8)]⟩ : ByteArray)).2.1, (cutB x.1 (⟨#[(32 : UInt8)]⟩ : ByteArray)).2.2, ()) → (ByteArray.size r.2.1 ≤ (3000 : Nat) ∨ (65536 : Nat) < ByteArray.size r.2.1) ∧ ∀ (r_1 : Ro [tR, Ty.it IntKind.i64]), r_1 = pR (parRG r.2.1) → (ByteArray.size r.2.2.1 ≤ (3000 : Nat) ∨ (65536 : Nat) < ByteArray.size r.2.2.1) ∧ ∀ (r_2 : Ro [tR, Ty.it IntKind.i64]), r_2 = pR (parRG r.2.2.1) → ((!r.2.2.2.1) = true → (((false, [], [], ()), (false, [], [], ()), ()), (140 : Int), ()) = (pG (parGG x.1)).2) ∧ ((!r.2.2.2.1) = false → ((r_1.2.2.1 != (0 : Int)) = true → ((r_1.2.2.1 != (3 : Int)) = true → (((false, [], [], ()), (false, [], [], ()), ()), (140 : Int), ()) = (pG (parGG x.1)).2) ∧ ((r_1.2.2.1 != (3 : Int)) = false → ((r_2.2.2.1 != (0 : Int)) = true → ((r_2.2.2.1 != (3 : Int)) = true → (((false, [], [], ()), (false, [], [], ()), ()), (140 : Int), ()) = (pG (parGG x.1)).2) ∧ ((r_2.2.2.1 != (3 : Int)) = false → ((r_1.2.2.1 != (0 : Int)) = true → (((false, [], [], ()), (false, [], [], ()), ()), (3 : Int), ()) = (pG (parGG x.1)).2) ∧ ((r_1.2.2.1 != (0 : Int)) = false → ((r_2.2.2.1 != (0 : Int)) = true → (((false, [], [], ()), (false, [], [], ()), ()), (3 : Int), ()) = (pG (parGG x.1)).2) ∧ ((r_2.2.2.1 != (0 : Int)) = false → ((r_1.2.1, r_2.2.1, ()), (0 : Int), ()) = (pG (parGG x.1)).2)))) ∧ ((r_2.2.2.1 != (0 : Int)) = false → ((r_1.2.2.1 != (0 : Int)) = true → (((false, [], [], ()), (false, [], [], ()), ()), (3 : Int), ()) = (pG (parGG x.1)).2) ∧ ((r_1.2.2.1 != (0 : Int)) = false → ((r_2.2.2.1 != (0 : Int)) = true → (((false, [], [], ()), (false, [], [], ()), ()), (3 : Int), ()) = (pG (parGG x.1)).2) ∧ ((r_2.2.2.1 != (0 : Int)) = false → ((r_1.2.1, r_2.2.1, ()), (0 : Int), ()) = (pG (parGG x.1)).2))))) ∧ ((r_1.2.2.1 != (0 : Int)) = false → ((r_2.2.2.1 != (0 : Int)) = true → ((r_2.2.2.1 != (3 : Int)) = true → (((false, [], [], ()), (false, [], [], ()), ()), (140 : Int), ()) = (pG (parGG x.1)).2) ∧ ((r_2.2.2.1 != (3 : Int)) = false → ((r_1.2.2.1 != (0 : Int)) = true → (((false, [], [], ()), (false, [], [], ()), ()), (3 : Int), ()) = (pG (parGG x.1)).2) ∧ ((r_1.2.2.1 != (0 : Int)) = false → ((r_2.2.2.1 != (0 : Int)) = true → (((false, [], [], ()), (false, [], [], ()), ()), (3 : Int), ()) = (pG (parGG x.1)).2) ∧ ((r_2.2.2.1 != (0 : Int)) = false → ((r_1.2.1, r_2.2.1, ()), (0 : Int), ()) = (pG (parGG x.1)).2)))) ∧ ((r_2.2.2.1 != (0 : Int)) = false → ((r_1.2.2.1 != (0 : Int)) = true → (((false, [], [], ()), (false, [], [], ()), ()), (3 : Int), ()) = (pG (parGG x.1)).2) ∧ ((r_1.2.2.1 != (0 : Int)) = false → ((r_2.2.2.1 != (0 : Int)) = true → (((false, [], [], ()), (false, [], [], ()), ()), (3 : Int), ()) = (pG (parGG x.1)).2) ∧ ((r_2.2.2.1 != (0 : Int)) = false → ((r_1.2.1, r_2.2.1, ()), (0 : Int), ()) = (pG (parGG x.1)).2))))))
theorem w_gParseG (y : El sp_gParseG.q) (x : Els sp_gParseG.ps) : aW c_gParseG (iv_gParseG y x) Tryz.f15 sp_gParseG y x = F_gParseG y x := by kernel_rfl
theorem m_gParseG (y : El (.un)) (x : Els [.st]) (h2 : wfE (.un) y) (h3 : wfEs [.st] x) (h4 : ByteArray.size x.1 ≤ 3000 ∨ 65536 < ByteArray.size x.1) : F_gParseG y x := by
  unfold F_gParseG
  have hsz : ByteArray.size x.1 ≤ 3000 ∨ 65536 < ByteArray.size x.1 := h4
  refine ⟨fun h => congrArg (fun t => (pG t).2) (pgg_long (Int.ofNat_lt.1 (gtT h))).symm, fun h => ⟨rfl, ?_⟩⟩
  have h3k : ByteArray.size x.1 ≤ 3000 := hsz.resolve_right (fun c => absurd (Int.ofNat_lt.2 c) (Int.not_lt.2 (gtF h)))
  rintro _ rfl
  have k1 : (cutB x.1 b_sp).1.size ≤ 3000 := Nat.le_trans (cut_sz _ _).1 h3k
  have k2 : (cutB x.1 b_sp).2.1.size ≤ 3000 := Nat.le_trans (cut_sz _ _).2 h3k
  refine ⟨.inl k1, ?_⟩
  intro r1 hr1
  refine ⟨.inl k2, ?_⟩
  intro r2 hr2
  refine ⟨fun hb => congrArg (fun t => (pG t).2) (pgg_bad h3k (fun k => ?_)).symm, fun hb => ?_⟩
  · have hb : (cutB x.1 b_sp).2.2 = false := ntt hb
    rw [(okGG_un k).1] at hb
    cases hb
  have hb : (cutB x.1 b_sp).2.2 = true := ntF hb
  by_cases c1 : okRG (cutB x.1 b_sp).1 = true
  · obtain rfl := hr1.trans (congrArg pR (pg_ok k1 c1))
    refine ⟨fun h => Bool.noConfusion (show false = true from h), fun _ => ?_⟩
    by_cases c2 : okRG (cutB x.1 b_sp).2.1 = true
    · obtain rfl := hr2.trans (congrArg pR (pg_ok k2 c2))
      refine ⟨fun h => Bool.noConfusion (show false = true from h), fun _ => ⟨fun h => Bool.noConfusion (show false = true from h), fun _ => ⟨fun h => Bool.noConfusion (show false = true from h), fun _ => ?_⟩⟩⟩
      exact congrArg (fun t => (pG t).2) (pgg_ok h3k (okGG_mk hb c1 c2)).symm
    · obtain rfl := hr2.trans (congrArg pR (pg_bad k2 c2))
      exact ⟨fun _ => ⟨fun _ => congrArg (fun t => (pG t).2) (pgg_bad h3k (fun k => c2 (okGG_un k).2.2)).symm, fun h => Bool.noConfusion (show true = false from h)⟩, fun h => Bool.noConfusion (show true = false from h)⟩
  · obtain rfl := hr1.trans (congrArg pR (pg_bad k1 c1))
    exact ⟨fun _ => ⟨fun _ => congrArg (fun t => (pG t).2) (pgg_bad h3k (fun k => c1 (okGG_un k).2.1)).symm, fun h => Bool.noConfusion (show true = false from h)⟩, fun h => Bool.noConfusion (show true = false from h)⟩
theorem fo_gParseG : FnOk Tryz.prog 15 sp_gParseG := fnOk_of (C := c_gParseG) iv_gParseG Tryz.func15 rfl (by kernel_rfl) tys_ok (prims_cons (spec_prim fo_sCut) (prims_cons (spec_prim fo_rParseG) prims_nil)) mixed_ (Nat.le_refl _) rfl fun y x h1 h2 h3 h4 =>
  Eq.mpr (w_gParseG y x) (m_gParseG y x h2 h3 h4)
end Go.Proofs.YtemlaompalbgiaaGreatDoor
namespace Go.Proofs.YtemlaompalbgiaaGreatDoor
open Go
open Go.Shelf
def Sh.laysC172_ren : Go.Shelf.Ren := ⟨fun | 172 => 248 | 244 => 302 | 245 => 263 | 247 => 344 | 279 => 315 | 280 => 316 | 281 => 317 | 282 => 318 | 287 => 262 | 316 => 353 | 171 => 192 | 205 => 354 | 321 => 313 | 322 => 314 | 243 => 247 | 246 => 301 | 283 => 303 | 284 => 304 | 285 => 305 | 286 => 306 | 129 => 346 | 317 => 345 | 318 => 347 | 319 => 348 | 320 => 349 | 337 => 361 | 338 => 362 | n => n, fun | 9 => 9 | 3 => 3 | 75 => 217 | 76 => 233 | 4 => 4 | 5 => 5 | 167 => 291 | 37 => 230 | 0 => 0 | 85 => 304 | 2 => 2 | 168 => 293 | 53 => 211 | 175 => 218 | 46 => 198 | 210 => 314 | 127 => 266 | 145 => 325 | 143 => 323 | 21 => 21 | 171 => 279 | 173 => 282 | 212 => 307 | 51 => 91 | 20 => 20 | 213 => 308 | 232 => 328 | 233 => 329 | 80 => 236 | n => n, fun | 15 => 2 | 16 => 3 | 17 => 1 | 18 => 6 | 19 => 7 | n => n⟩
theorem Sh.laysC172 : Go.Proofs.LaysC.n172 Tryz.prog Sh.laysC172_ren := {
  mixed := by kernel_rfl
  f129 := Tryz.func346.trans (congrArg some (by kernel_rfl))
  f171 := Tryz.func192.trans (congrArg some (by kernel_rfl))
  f172 := Tryz.func248.trans (congrArg some (by kernel_rfl))
  f205 := Tryz.func354.trans (congrArg some (by kernel_rfl))
  f243 := Tryz.func247.trans (congrArg some (by kernel_rfl))
  f244 := Tryz.func302.trans (congrArg some (by kernel_rfl))
  f245 := Tryz.func263.trans (congrArg some (by kernel_rfl))
  f246 := Tryz.func301.trans (congrArg some (by kernel_rfl))
  f247 := Tryz.func344.trans (congrArg some (by kernel_rfl))
  f279 := Tryz.func315.trans (congrArg some (by kernel_rfl))
  f280 := Tryz.func316.trans (congrArg some (by kernel_rfl))
  f281 := Tryz.func317.trans (congrArg some (by kernel_rfl))
  f282 := Tryz.func318.trans (congrArg some (by kernel_rfl))
  f283 := Tryz.func303.trans (congrArg some (by kernel_rfl))
  f284 := Tryz.func304.trans (congrArg some (by kernel_rfl))
  f285 := Tryz.func305.trans (congrArg some (by kernel_rfl))
  f286 := Tryz.func306.trans (congrArg some (by kernel_rfl))
  f287 := Tryz.func262.trans (congrArg some (by kernel_rfl))
  f316 := Tryz.func353.trans (congrArg some (by kernel_rfl))
  f317 := Tryz.func345.trans (congrArg some (by kernel_rfl))
  f318 := Tryz.func347.trans (congrArg some (by kernel_rfl))
  f319 := Tryz.func348.trans (congrArg some (by kernel_rfl))
  f320 := Tryz.func349.trans (congrArg some (by kernel_rfl))
  f321 := Tryz.func313.trans (congrArg some (by kernel_rfl))
  f322 := Tryz.func314.trans (congrArg some (by kernel_rfl))
  f337 := Tryz.func361.trans (congrArg some (by kernel_rfl))
  f338 := Tryz.func362.trans (congrArg some (by kernel_rfl))
  t0 := Tryz.underlying0
  a0 := Tryz.isAgg0
  z0 := Tryz.sizeOf0
  v0 := Tryz.zeroValue0
  t2 := Tryz.underlying2
  a2 := Tryz.isAgg2
  z2 := Tryz.sizeOf2
  v2 := Tryz.zeroValue2
  t3 := Tryz.underlying3
  a3 := Tryz.isAgg3
  z3 := Tryz.sizeOf3
  v3 := Tryz.zeroValue3
  t4 := Tryz.underlying4
  a4 := Tryz.isAgg4
  z4 := Tryz.sizeOf4
  v4 := Tryz.zeroValue4
  t5 := Tryz.underlying5
  a5 := Tryz.isAgg5
  z5 := Tryz.sizeOf5
  v5 := Tryz.zeroValue5
  t9 := Tryz.underlying9
  a9 := Tryz.isAgg9
  z9 := Tryz.sizeOf9
  v9 := Tryz.zeroValue9
  t20 := Tryz.underlying20
  a20 := Tryz.isAgg20
  z20 := Tryz.sizeOf20
  v20 := Tryz.zeroValue20
  t21 := Tryz.underlying21
  a21 := Tryz.isAgg21
  z21 := Tryz.sizeOf21
  v21 := Tryz.zeroValue21
  t37 := Tryz.underlying230
  a37 := Tryz.isAgg230
  z37 := Tryz.sizeOf230
  v37 := Tryz.zeroValue230
  t46 := Tryz.underlying198
  a46 := Tryz.isAgg198
  z46 := Tryz.sizeOf198
  v46 := Tryz.zeroValue198
  t51 := Tryz.underlying91
  a51 := Tryz.isAgg91
  z51 := Tryz.sizeOf91
  v51 := Tryz.zeroValue91
  t53 := Tryz.underlying211
  a53 := Tryz.isAgg211
  z53 := Tryz.sizeOf211
  v53 := Tryz.zeroValue211
  t75 := Tryz.underlying217
  a75 := Tryz.isAgg217
  z75 := Tryz.sizeOf217
  v75 := Tryz.zeroValue217
  t76 := Tryz.underlying233
  a76 := Tryz.isAgg233
  z76 := Tryz.sizeOf233
  v76 := Tryz.zeroValue233
  t85 := Tryz.underlying304
  a85 := Tryz.isAgg304
  z85 := Tryz.sizeOf304
  v85 := Tryz.zeroValue304
  t127 := Tryz.underlying266
  a127 := Tryz.isAgg266
  z127 := Tryz.sizeOf266
  v127 := Tryz.zeroValue266
  t143 := Tryz.underlying323
  a143 := Tryz.isAgg323
  z143 := Tryz.sizeOf323
  v143 := Tryz.zeroValue323
  t145 := Tryz.underlying325
  a145 := Tryz.isAgg325
  z145 := Tryz.sizeOf325
  v145 := Tryz.zeroValue325
  t167 := Tryz.underlying291
  a167 := Tryz.isAgg291
  z167 := Tryz.sizeOf291
  v167 := Tryz.zeroValue291
  t168 := Tryz.underlying293
  a168 := Tryz.isAgg293
  z168 := Tryz.sizeOf293
  v168 := Tryz.zeroValue293
  t171 := Tryz.underlying279
  a171 := Tryz.isAgg279
  z171 := Tryz.sizeOf279
  v171 := Tryz.zeroValue279
  t173 := Tryz.underlying282
  a173 := Tryz.isAgg282
  z173 := Tryz.sizeOf282
  v173 := Tryz.zeroValue282
  t175 := Tryz.underlying218
  a175 := Tryz.isAgg218
  z175 := Tryz.sizeOf218
  v175 := Tryz.zeroValue218
  t210 := Tryz.underlying314
  a210 := Tryz.isAgg314
  z210 := Tryz.sizeOf314
  v210 := Tryz.zeroValue314
  t212 := Tryz.underlying307
  a212 := Tryz.isAgg307
  z212 := Tryz.sizeOf307
  v212 := Tryz.zeroValue307
  t213 := Tryz.underlying308
  a213 := Tryz.isAgg308
  z213 := Tryz.sizeOf308
  t232 := Tryz.underlying328
  a232 := Tryz.isAgg328
  z232 := Tryz.sizeOf328
  v232 := Tryz.zeroValue328
  t233 := Tryz.underlying329
  a233 := Tryz.isAgg329
  z233 := Tryz.sizeOf329
  v233 := Tryz.zeroValue329
  g15 := by kernel_rfl
  g16 := by kernel_rfl
  g17 := by kernel_rfl
  g18 := by kernel_rfl
  g19 := by kernel_rfl
  t80 := Tryz.underlying236
  a80 := Tryz.isAgg236
  z80 := Tryz.sizeOf236
  v80 := Tryz.zeroValue236
  i0 := by kernel_rfl
  i2 := by kernel_rfl
  i3 := by kernel_rfl
  i4 := by kernel_rfl
  i5 := by kernel_rfl
  i9 := by kernel_rfl
  i20 := by kernel_rfl
  i21 := by kernel_rfl
  i37 := by kernel_rfl
  i46 := by kernel_rfl
  i51 := by kernel_rfl
  i53 := by kernel_rfl
  i75 := by kernel_rfl
  i76 := by kernel_rfl
  i80 := by kernel_rfl
  i85 := by kernel_rfl
  i127 := by kernel_rfl
  i143 := by kernel_rfl
  i145 := by kernel_rfl
  i167 := by kernel_rfl
  i168 := by kernel_rfl
  i171 := by kernel_rfl
  i173 := by kernel_rfl
  i175 := by kernel_rfl
  i210 := by kernel_rfl
  i212 := by kernel_rfl
  i232 := by kernel_rfl
  i233 := by kernel_rfl
  m15 := by kernel_rfl
  m16 := by kernel_rfl
  m17 := by kernel_rfl
  m18 := by kernel_rfl
  m19 := by kernel_rfl
  c0 := by kernel_rfl
  c2 := by kernel_rfl
  c3 := by kernel_rfl
  c4 := by kernel_rfl
  c5 := by kernel_rfl
  c9 := by kernel_rfl
  c20 := by kernel_rfl
  c21 := by kernel_rfl
  c37 := by kernel_rfl
  c46 := by kernel_rfl
  c51 := by kernel_rfl
  c53 := by kernel_rfl
  c75 := by kernel_rfl
  c76 := by kernel_rfl
  c80 := by kernel_rfl
  c85 := by kernel_rfl
  c127 := by kernel_rfl
  c143 := by kernel_rfl
  c145 := by kernel_rfl
  c167 := by kernel_rfl
  c168 := by kernel_rfl
  c171 := by kernel_rfl
  c173 := by kernel_rfl
  c175 := by kernel_rfl
  c210 := by kernel_rfl
  c212 := by kernel_rfl
  c213 := by kernel_rfl
  c232 := by kernel_rfl
  c233 := by kernel_rfl }
end Go.Proofs.YtemlaompalbgiaaGreatDoor
namespace Go.Proofs.YtemlaompalbgiaaGreatDoor
open Go Go.RowKit Go.Sort Go.Lib
def numN (s : ByteArray) : Int := match Lib.atoiAll s.data.toList with
  | .ok v => v
  | .range => Lib.atoiSat s.data.toList
  | _ => 0
def numK (s : ByteArray) : Bool := match Lib.atoiAll s.data.toList with
  | .ok _ => true
  | _ => false
theorem numN_bd (s : ByteArray) : -9223372036854775808 ≤ numN s ∧ numN s ≤ 9223372036854775807 := by
  unfold numN
  split
  · next v h => exact Lib.atoiAll_bounds h
  · exact Lib.atoiSat_bounds _
  · exact ⟨by decide, by decide⟩
theorem cell_one {w : World} {g : Nat} {v : Value} {t z} (h : w.heap[g]? = some (.cells #[v] t z)) : w.cell? ⟨g, 0, none⟩ = some v := by
  unfold World.cell?
  rw [h]
  rfl
theorem atoi_any (s : ByteArray) (w : World) (hs : s.size ≤ 281474976710656)
    (h1 : ∃ te pe t z, w.heap[2]? = some (.cells #[.iface te pe] t z)) (h2 : ∃ te pe t z, w.heap[3]? = some (.cells #[.iface te pe] t z)) :
    Calls Tryz.prog 248 #[.string s] w fun e w' => (∃ ev, e = .returned (.tuple #[.int .i64 (numN s), ev]) ∧ (numK s = true ∧ ev = .nilIface ∨ numK s = false ∧ ∃ t p, ev = .iface t p)) ∧ Ext w w' := by
  obtain ⟨te1, pe1, t1, z1, c1⟩ := h1
  obtain ⟨te2, pe2, t2, z2, c2⟩ := h2
  have eN : numN s = (match Lib.atoiAll s.data.toList with
    | .ok v => v
    | .range => Lib.atoiSat s.data.toList
    | _ => 0) := rfl
  have eK : numK s = (match Lib.atoiAll s.data.toList with
    | .ok _ => true
    | _ => false) := rfl
  cases hc : Lib.atoiAll s.data.toList
  case ok v =>
    rw [hc] at eN eK
    refine (Any.strconv_Atoi_ok Sh.laysC172 s (by omega) v hc w).mono ?_
    rintro e w' ⟨rfl, h⟩
    refine ⟨⟨_, by rw [eN], .inl ⟨eK, rfl⟩⟩, ?_⟩
    rcases h with rfl | ⟨t, rfl⟩
    · exact Ext.refl _
    · exact Lib.bytesWorld_below _ _ _
  case range =>
    rw [hc] at eN eK
    refine (Any.strconv_Atoi_range Sh.laysC172 s hs hc _ w (cell_one c2) (.inr ⟨_, _, rfl⟩)).mono ?_
    rintro e w' ⟨N, rfl, _, _, h⟩
    exact ⟨⟨_, by rw [eN], .inr ⟨eK, _, _, rfl⟩⟩, h⟩
  all_goals
    rw [hc] at eN eK
    refine (Any.strconv_Atoi_syntax Sh.laysC172 s hs hc _ w (cell_one c1) (.inr ⟨_, _, rfl⟩)).mono ?_
    rintro e w' ⟨N, rfl, _, _, h⟩
    exact ⟨⟨_, by rw [eN], .inr ⟨eK, _, _, rfl⟩⟩, h⟩
def itB (n : Int) : ByteArray := ⟨(Lib.itoa n).toArray⟩
theorem itoa_any (n : Int) (h0 : -9223372036854775808 ≤ n) (h1 : n ≤ 9223372036854775807) (w : World) (htab : Lib.TabIs Tryz.prog w "internal/strconv.uint64pow10" .u64 Lib.pow10Tab) :
    Calls Tryz.prog 192 #[.int .i64 n] w fun e w' => e = .returned (.string (itB n)) ∧ Ext w w' := by
  refine (Sh.strconv_Itoa n h0 h1 w htab).mono ?_
  rintro e w' ⟨rfl, k, os, rfl⟩
  exact ⟨rfl, Lib.below_grow w.heap.size w (Nat.le_refl _) k os⟩
def numB (s : ByteArray) : Bool := numK s && decide (s.size ≤ 5) && ((itB (numN s)).toList == s.toList)
set_option maxHeartbeats 3200000 in
theorem num_walk (s : ByteArray) (w : World) (hs : s.size ≤ 281474976710656) (Z : Nat → Prop) (hz : ZOk Z w) (hE : ((∃ te pe t z, w.heap[2]? = some (.cells #[.iface te pe] t z)) ∧ ∃ te pe t z, w.heap[3]? = some (.cells #[.iface te pe] t z))) :
    Calls Tryz.prog 193 #[.string s] w fun e w' => e = .returned (.tuple #[.int .i32 (RowKit.wrap32 (numN s)), .bool (numB s)]) ∧ Ext w w' := by
  obtain ⟨b0, b1⟩ := numN_bd s
  have HA := Lib.hid (atoi_any s w hs hE.1 hE.2)
  have HZ := Lib.hid hz
  clear hz hE
  have eB : numB s = (numK s && decide (s.size ≤ 5) && ((itB (numN s)).toList == s.toList)) := rfl
  generalize numB s = B at eB ⊢
  generalize numN s = n at *
  generalize numK s = k at *
  go_enter Tryz.func193, Tryz.ntmps193
  go_wp2_with fail
  go_at_call 248
  refine HA.out.mono ?_
  rintro e w1 ⟨⟨ev, rfl, hk⟩, hx⟩
  have HX := Lib.hid hx
  clear hx HA
  rcases hk with ⟨rfl, rfl⟩ | ⟨rfl, t, p, rfl⟩
  · have HT := Lib.hid (tab_of (Glob.mono (fun _ h => h) (fun g hg => HX.out.block g (HZ.out.lt g hg)) HZ.out.gl))
    by_cases hl : s.size ≤ 5
    · have hd : decide ((s.size : Int) ≤ 5) = true := decide_eq_true (by omega)
      go_wp2_with fail
      refine (itoa_any n b0 b1 _ HT.out).mono ?_
      rintro e w2 ⟨rfl, hy⟩
      have HY := Lib.hid ((HX.out).trans hy)
      clear hy
      go_wp2_with fail
      go_ret2
      rw [eB, decide_eq_true hl]
      exact ⟨rfl, HY.out⟩
    · have hd : decide ((s.size : Int) ≤ 5) = false := decide_eq_false (by omega)
      go_wp2_with fail
      go_ret2
      rw [eB, decide_eq_false hl]
      exact ⟨by rw [Bool.and_false, Bool.false_and]; rfl, HX.out⟩
  · go_wp2_with fail
    go_ret2
    rw [eB]
    exact ⟨by rw [Bool.false_and, Bool.false_and]; rfl, HX.out⟩
theorem rq_int32 {Z : Nat → Prop} {w : World} {base : Nat} {x : Int} : RQ true Z w base (.it .i32) (RowKit.wrap32 x) [.int .i32 (RowKit.wrap32 x)] [] := by
  refine ⟨?_, rfl⟩
  rw [RT]
  refine ⟨rfl, ?_, ?_⟩
  · show (-2147483648 : Int) ≤ RowKit.wrap32 x
    unfold RowKit.wrap32
    omega
  · show RowKit.wrap32 x ≤ 2147483647
    unfold RowKit.wrap32
    omega
def sp_sItoa : Spec := { q := .un, ps := [.it .i64], rs := [.st], fresh := true, pre := fun _ _ => none, post := fun _ x => ((), (itB x.1, ())) }
theorem itB_size {n : Int} (h0 : -9223372036854775808 ≤ n) (h1 : n ≤ 9223372036854775807) : (itB n).size ≤ 21 := by
  have e : (itB n).size = (Lib.itoa n).length := by simp [itB, ByteArray.size]
  rw [e]
  unfold Lib.itoa
  split
  · have := dec_len64 (n := n.natAbs) (by omega)
    rw [List.length_cons]
    omega
  · exact Nat.le_trans (dec_len64 (n := n.toNat) (by omega)) (by decide)
theorem fo_sItoa : FnOk Tryz.prog 192 sp_sItoa := by
  refine ⟨callFunc_enter Tryz.func192 (by kernel_rfl) rfl, fun Z w gv vs y x hZ hv hp _ _ => ?_⟩
  obtain ⟨n, u⟩ := x
  match vs, hv with
  | [v1], ⟨h1, _⟩ =>
    obtain ⟨rfl, q0, q1⟩ := rv_int h1
    have q0 : (-9223372036854775808 : Int) ≤ n := q0
    have q1 : (n : Int) ≤ 9223372036854775807 := q1
    refine (itoa_any n q0 q1 w (tab_of hZ.gl)).mono fun e w' ⟨e1, e2⟩ => ?_
    subst e1
    exact told_new (S := sp_sItoa) (r := (itB n, ())) (us := [_]) (bs := []) rfl rfl (.inl ⟨_, rfl, rfl⟩) hZ ⟨[], [], rfl, rq_str (base := w.heap.size) (x := itB n) (Nat.le_trans (itB_size q0 q1) (by decide)), rfl⟩ List.nodup_nil (fun g hg => by simp at hg) e2
theorem err_mem (g : Nat) (h : g = 2 ∨ g = 3) : g ∈ globsE := by
  unfold globsE
  rw [List.nil_append]
  rcases h with rfl | rfl
  · exact List.mem_cons_self
  · exact List.mem_cons_of_mem _ List.mem_cons_self
def sp_tnum : Spec := { q := .un, ps := [.st], rs := [.it .i32, .bo], fresh := true, pre := fun _ x => some (ByteArray.size x.1 ≤ 65536), post := fun _ x => ((), (RowKit.wrap32 (numN x.1), numB x.1, ())) }
theorem fo_tnum : FnOk Tryz.prog 193 sp_tnum := by
  refine ⟨callFunc_enter Tryz.func193 (by kernel_rfl) rfl, fun Z w gv vs y x hZ hv hp _ _ => ?_⟩
  obtain ⟨s, u⟩ := x
  match vs, hv with
  | [v1], ⟨h1, _⟩ =>
    have hp : s.size ≤ 65536 := hp
    obtain ⟨rfl, s1⟩ := rv_str h1
    refine (num_walk s w (by omega) Z hZ ⟨(hZ.gl.2 _ (err_mem _ (.inl rfl))).2, (hZ.gl.2 _ (err_mem _ (.inr rfl))).2⟩).mono fun e w' ⟨e1, e2⟩ => ?_
    subst e1
    exact told_new (S := sp_tnum) (r := (RowKit.wrap32 (numN s), numB s, ())) (us := [_, _]) (bs := []) rfl rfl (.inr ⟨by simp, rfl⟩) hZ ⟨[], [], rfl, rq_int32 (base := w.heap.size) (x := numN s), [], [], rfl, rq_bool (base := w.heap.size), rfl⟩ List.nodup_nil (fun g hg => by simp at hg) e2
end Go.Proofs.YtemlaompalbgiaaGreatDoor
