/- Texts of this claim, joined: P14 W0 W1 W2 W4 W5. -/
import Derived.Test.YtjoonfegjobgbaaGreatDoorQw
set_option linter.unusedVariables false
set_option linter.unusedSimpArgs false
set_option maxRecDepth 100000
namespace Go.Proofs.YtjoonfegjobgbaaGreatDoor
section
variable {a b c d p q r s : Rat}
theorem fadd_e (lp : ¬ lng p = true) (lq : ¬ lng q = true) (h : (fadd (enc p) (enc q)).2 = 0) : fadd (enc p) (enc q) = (enc (p + q), 0) ∧ ¬ lng (p + q) = true := by
  rw [fadd_enc lp lq] at h ⊢
  exact ⟨(tell_in h).2, (tell_in h).1⟩
theorem fsub_e (lp : ¬ lng p = true) (lq : ¬ lng q = true) (h : (fsub (enc p) (enc q)).2 = 0) : fsub (enc p) (enc q) = (enc (p - q), 0) ∧ ¬ lng (p - q) = true := by
  rw [fsub_enc lp lq] at h ⊢
  exact ⟨(tell_in h).2, (tell_in h).1⟩
theorem fmul_e (lp : ¬ lng p = true) (lq : ¬ lng q = true) (h : (fmul (enc p) (enc q)).2 = 0) : fmul (enc p) (enc q) = (enc (p * q), 0) ∧ ¬ lng (p * q) = true := by
  rw [fmul_enc lp lq] at h ⊢
  exact ⟨(tell_in h).2, (tell_in h).1⟩
theorem fquo_e (lp : ¬ lng p = true) (lq : ¬ lng q = true) (n : q ≠ 0) (h : (fquo (enc p) (enc q)).2 = 0) : fquo (enc p) (enc q) = (enc (p / q), 0) ∧ ¬ lng (p / q) = true := by
  rw [fquo_enc lp lq n] at h ⊢
  exact ⟨(tell_in h).2, (tell_in h).1⟩
theorem wpair_e {l : Bool} (lp : ¬ lng p = true) (lq : ¬ lng q = true) (lr : ¬ lng r = true) (ls : ¬ lng s = true) (h : (wpair 0 (enc p) (enc q) (enc r) (enc s) l).2 = 0) :
    wpair 0 (enc p) (enc q) (enc r) (enc s) l = (enc (if l = true then p * q - r * s else p * q + r * s), 0) ∧ ¬ lng (if l = true then p * q - r * s else p * q + r * s) = true := by
  by_cases h1 : (fmul (enc p) (enc q)).2 = 0
  · by_cases h2 : (fmul (enc r) (enc s)).2 = 0
    · obtain ⟨e1, l1⟩ := fmul_e lp lq h1
      obtain ⟨e2, l2⟩ := fmul_e lr ls h2
      cases l with
      | true =>
        rw [wpair_3 h1 h2, e1, e2] at h ⊢
        rw [if_pos rfl]
        exact fsub_e l1 l2 h
      | false =>
        rw [wpair_4 h1 h2, e1, e2] at h ⊢
        rw [if_neg (by decide)]
        exact fadd_e l1 l2 h
    · rw [wpair_2 h1 h2] at h
      exact absurd h h2
  · rw [wpair_1 h1] at h
    exact absurd h h1
variable (la : ¬ lng a = true) (lb : ¬ lng b = true) (lc : ¬ lng c = true) (ld : ¬ lng d = true)
include la lb lc ld
theorem ge_chk2e : gchk2 (ge a b) (ge c d) = 0 := gchk2_mk (gchk_enc la lb) (gchk_enc lc ld)
theorem gadd_e (h : (gadd (ge a b) (ge c d)).2 = 0) : gadd (ge a b) (ge c d) = (ge (a + c) (b + d), 0) ∧ ¬ lng (a + c) = true ∧ ¬ lng (b + d) = true := by
  have g := ge_chk2e la lb lc ld
  by_cases h1 : (fadd (ge a b).re (ge c d).re).2 = 0
  · by_cases h2 : (fadd (ge a b).im (ge c d).im).2 = 0
    · obtain ⟨e1, l1⟩ := fadd_e la lc h1
      obtain ⟨e2, l2⟩ := fadd_e lb ld h2
      refine ⟨?_, l1, l2⟩
      rw [gadd_4 g h1 h2]
      show ((⟨(fadd (enc a) (enc c)).1, (fadd (enc b) (enc d)).1⟩ : Ga), (0 : Int)) = _
      rw [e1, e2]
      rfl
    · rw [gadd_3 g h1 h2] at h
      exact absurd h h2
  · rw [gadd_2 g h1] at h
    exact absurd h h1
theorem gmul_e (h : (gmul (ge a b) (ge c d)).2 = 0) : gmul (ge a b) (ge c d) = (ge (a * c - b * d) (a * d + b * c), 0) ∧ ¬ lng (a * c - b * d) = true ∧ ¬ lng (a * d + b * c) = true := by
  have g := ge_chk2e la lb lc ld
  by_cases h1 : (wpair 0 (ge a b).re (ge c d).re (ge a b).im (ge c d).im true).2 = 0
  · by_cases h2 : (wpair 0 (ge a b).re (ge c d).im (ge a b).im (ge c d).re false).2 = 0
    · obtain ⟨e1, l1⟩ := wpair_e la lc lb ld h1
      obtain ⟨e2, l2⟩ := wpair_e la ld lb lc h2
      rw [if_pos rfl] at e1 l1
      rw [if_neg (by decide)] at e2 l2
      refine ⟨?_, l1, l2⟩
      rw [gmul_4 g h1 h2]
      show ((⟨(wpair 0 (enc a) (enc c) (enc b) (enc d) true).1, (wpair 0 (enc a) (enc d) (enc b) (enc c) false).1⟩ : Ga), (0 : Int)) = _
      rw [e1, e2]
      rfl
    · rw [gmul_3 g h1 h2] at h
      exact absurd h h2
  · rw [gmul_2 g h1] at h
    exact absurd h h1
theorem gquo_e (h : (gquo (ge a b) (ge c d)).2 = 0) : ¬ (c = 0 ∧ d = 0) ∧ gquo (ge a b) (ge c d) = (ge ((a * c + b * d) / (c * c + d * d)) ((b * c - a * d) / (c * c + d * d)), 0) ∧ ¬ lng ((a * c + b * d) / (c * c + d * d)) = true ∧ ¬ lng ((b * c - a * d) / (c * c + d * d)) = true := by
  have g := ge_chk2e la lb lc ld
  have wb : (ge c d).Wf := ⟨enc_wf _, enc_wf _⟩
  have cj : gconj (ge c d) = (ge c (-d), 0) := gconj_enc lc ld
  have lnd : ¬ lng (-d) = true := by rw [lng_negQ]; exact ld
  cases z : gzero (ge c d) with
  | true =>
    rw [gquo_2 g z] at h
    cases h
  | false =>
    have hz : ¬ (c = 0 ∧ d = 0) := fun e => by
      obtain ⟨rfl, rfl⟩ := e
      have : gzero (ge 0 0) = true := by decide +kernel
      rw [this] at z
      cases z
    by_cases n : (gnorm (ge c d)).2 = 0
    · have n' : (wpair 0 (enc c) (enc c) (enc d) (enc d) false).2 = 0 := by
        have e : gnorm (ge c d) = wpair 0 (enc c) (enc c) (enc d) (enc d) false := gnorm_2 (a := ge c d) (gchk_enc lc ld)
        rw [e] at n
        exact n
      obtain ⟨en, ln⟩ := wpair_e lc lc ld ld n'
      rw [if_neg (by decide)] at en ln
      have no : gnorm (ge c d) = (enc (c * c + d * d), 0) := (gnorm_2 (a := ge c d) (gchk_enc lc ld)).trans en
      have n0 : c * c + d * d ≠ 0 := fun e => hz (norm_zero e)
      by_cases m : (gmul (ge a b) (gconj (ge c d)).1).2 = 0
      · have m' := m
        rw [cj] at m'
        obtain ⟨em, l1, l2⟩ := gmul_e la lb lc lnd m'
        have em' : gmul (ge a b) (gconj (ge c d)).1 = (ge (a * c - b * -d) (a * -d + b * c), 0) := by rw [cj]; exact em
        by_cases x : (fquo (gmul (ge a b) (gconj (ge c d)).1).1.re (gnorm (ge c d)).1).2 = 0
        · have x' := x
          rw [em', no] at x'
          obtain ⟨e1, k1⟩ := fquo_e l1 ln n0 x'
          have ht := gquo_7 g z n wb m x
          rw [em', no] at ht
          rw [ht] at h
          by_cases y : (fquo (enc (a * -d + b * c)) (enc (c * c + d * d))).2 = 0
          · obtain ⟨e2, k2⟩ := fquo_e l2 ln n0 y
            have e1' : fquo (ge (a * c - b * -d) (a * -d + b * c)).re (enc (c * c + d * d)) = _ := e1
            have e2' : fquo (ge (a * c - b * -d) (a * -d + b * c)).im (enc (c * c + d * d)) = _ := e2
            rw [show a * c - b * -d = a * c + b * d by grind] at k1
            rw [show a * -d + b * c = b * c - a * d by grind] at k2
            refine ⟨hz, ?_, k1, k2⟩
            rw [ht, e1', e2']
            rw [show a * c - b * -d = a * c + b * d by grind, show a * -d + b * c = b * c - a * d by grind]
            rfl
          · have y' : (fquo (ge (a * c - b * -d) (a * -d + b * c)).im (enc (c * c + d * d))).2 ≠ 0 := y
            rw [gtell_bad y'] at h
            exact absurd h y'
        · rw [gquo_6 g z n wb m x] at h
          exact absurd h x
      · rw [gquo_4 g z n wb m] at h
        exact absurd h m
    · rw [gquo_3 g z n] at h
      exact absurd h n
end
theorem split_sum {t1 t2 z1 z2 : Rat} (hz : ¬ (z1 = 0 ∧ z2 = 0)) :
    (t1 * z1 + t2 * z2) / (z1 * z1 + z2 * z2) + ((z1 - 1) * ((t1 * z1 + t2 * z2) / (z1 * z1 + z2 * z2)) - z2 * ((t2 * z1 - t1 * z2) / (z1 * z1 + z2 * z2))) = t1 ∧
    (t2 * z1 - t1 * z2) / (z1 * z1 + z2 * z2) + ((z1 - 1) * ((t2 * z1 - t1 * z2) / (z1 * z1 + z2 * z2)) + z2 * ((t1 * z1 + t2 * z2) / (z1 * z1 + z2 * z2))) = t2 := by
  have n : z1 * z1 + z2 * z2 ≠ 0 := fun e => hz (norm_zero e)
  have i : (z1 * z1 + z2 * z2) * (z1 * z1 + z2 * z2)⁻¹ = 1 := Rat.mul_inv_cancel _ n
  rw [Rat.div_def, Rat.div_def]
  generalize (z1 * z1 + z2 * z2)⁻¹ = w at i
  constructor <;> grind
end Go.Proofs.YtjoonfegjobgbaaGreatDoor
namespace Go.Proofs.YtjoonfegjobgbaaGreatDoor
open Go Go.RowKit
theorem gint_10 : gint 1 0 = ge 1 0 := by
  unfold gint
  rw [show fsmall 1 1 = (enc 1, 0) from fsmall_s (by decide) (by decide +kernel) (by decide +kernel), show fsmall 0 1 = (enc 0, 0) from fsmall_s (by decide) (by decide +kernel) (by decide +kernel)]
  rfl
theorem gsplit_ok {t r : Ga} (wt : t.Wf) (wr : r.Wf) : (∃ e, e ≠ 0 ∧ gsplit t r = gZ3 e) ∨ ∃ A B : Ga, gsplit t r = (ofGa A, ofGa B, 0, ()) ∧ gmul r A = (B, 0) ∧ gsame B B = true ∧ ((gadd A B).2 = 0 → gsame (gadd A B).1 t = true) := by
  unfold gsplit
  by_cases h1 : gchk t = 0
  case neg => exact .inl ⟨_, h1, by rw [if_pos h1]⟩
  rw [if_neg (fun c => c h1)]
  by_cases h2 : gchk r = 0
  case neg => exact .inl ⟨_, h2, by rw [if_pos h2]⟩
  rw [if_neg (fun c => c h2)]
  by_cases h3 : r = gint (-1) 0
  · exact .inl ⟨7, by decide, by rw [if_pos h3]⟩
  rw [if_neg h3]
  by_cases h4 : (gadd (gint 1 0) r).2 = 0
  case neg => exact .inl ⟨_, h4, by rw [if_pos h4]⟩
  rw [if_neg (fun c => c h4)]
  by_cases h5 : (gquo t (gadd (gint 1 0) r).1).2 = 0
  case neg => exact .inl ⟨_, h5, by rw [if_pos h5]⟩
  rw [if_neg (fun c => c h5)]
  by_cases h6 : (gmul r (gquo t (gadd (gint 1 0) r).1).1).2 = 0
  case neg => exact .inl ⟨_, h6, by rw [if_pos h6]⟩
  rw [if_neg (fun c => c h6)]
  refine .inr ⟨_, _, rfl, Prod.ext rfl h6, ?_⟩
  obtain ⟨t1, t2, rfl, lt1, lt2⟩ := gchk_ok wt h1
  obtain ⟨r1, r2, rfl, lr1, lr2⟩ := gchk_ok wr h2
  have l1 : ¬ lng (1 : Rat) = true := sm_lng (by decide +kernel)
  have l0 : ¬ lng (0 : Rat) = true := sm_lng (by decide +kernel)
  rw [gint_10] at h4 h5 h6 ⊢
  have h4' : (gadd (ge 1 0) (ge r1 r2)).2 = 0 := h4
  obtain ⟨e4, lz1, lz2⟩ := gadd_e l1 l0 lr1 lr2 h4'
  have e4' : gadd (ge 1 0) ⟨enc r1, enc r2⟩ = (ge (1 + r1) (0 + r2), 0) := e4
  rw [e4'] at h5 h6 ⊢
  have e0 : (0 : Rat) + r2 = r2 := by grind
  rw [e0] at h5 h6 lz2 ⊢
  have h5' : (gquo (ge t1 t2) (ge (1 + r1) r2)).2 = 0 := h5
  obtain ⟨hz, e5, lx, ly⟩ := gquo_e lt1 lt2 lz1 lz2 h5'
  have e5' : gquo ⟨enc t1, enc t2⟩ (ge (1 + r1) r2) = _ := e5
  have ss := split_sum (t1 := t1) (t2 := t2) hz
  rw [show (1 + r1 - 1 : Rat) = r1 by grind] at ss
  generalize (t1 * (1 + r1) + t2 * r2) / ((1 + r1) * (1 + r1) + r2 * r2) = X at *
  generalize (t2 * (1 + r1) - t1 * r2) / ((1 + r1) * (1 + r1) + r2 * r2) = Y at *
  dsimp only at h6 ⊢
  rw [e5'] at h6 ⊢
  have h6' : (gmul (ge r1 r2) (ge X Y)).2 = 0 := h6
  obtain ⟨e6, lu, lv⟩ := gmul_e lr1 lr2 lx ly h6'
  have e6' : gmul ⟨enc r1, enc r2⟩ (ge X Y) = _ := e6
  dsimp only
  rw [e6']
  dsimp only
  refine ⟨?_, fun h7 => ?_⟩
  · unfold gsame
    exact decide_eq_true ⟨ge_chk2e lu lv lu lv, rfl⟩
  · obtain ⟨e7, _, _⟩ := gadd_e lx ly lu lv h7
    rw [e7]
    dsimp only
    rw [show r1 * Y + r2 * X = r1 * Y + r2 * X from rfl, ss.1, ss.2]
    unfold gsame
    exact decide_eq_true ⟨ge_chk2e lt1 lt2 lt1 lt2, rfl⟩
def b_sp : ByteArray := ⟨#[32]⟩
def okG (s : ByteArray) : Bool := decide (s.size ≤ 65536) && (cutB s b_sp).2.2 && okR (cutB s b_sp).1 && okR (cutB s b_sp).2.1
def valG (s : ByteArray) : Ga := ⟨valR (cutB s b_sp).1, valR (cutB s b_sp).2.1⟩
theorem okG_of {s : ByteArray} (h : okG s = true) : s.size ≤ 65536 ∧ (cutB s b_sp).2.2 = true ∧ okR (cutB s b_sp).1 = true ∧ okR (cutB s b_sp).2.1 = true := by
  unfold okG at h
  simp only [Bool.and_eq_true, decide_eq_true_eq] at h
  exact ⟨h.1.1.1, h.1.1.2, h.1.2, h.2⟩
noncomputable def sp_gParse : Spec := { q := .un, ps := [.st], rs := [tG, .it .i64], fresh := true, pre := fun _ x => some (okG x.1 = true), post := fun _ x => pG (valG x.1, 0) }
noncomputable def iv_gParse (y : El sp_gParse.q) (x : Els sp_gParse.ps) : Nat → Option Inv := fun _ => none
noncomputable abbrev c_gParse : Cfg := cfgS (Tryz.f41).ntmps false [(108, sp_sCut.prim), (74, sp_rParse.prim)]
def F_gParse (y : El sp_gParse.q) (x : Els sp_gParse.ps) : Prop :=
  (decide ((↑(ByteArray.size x.1) : Int) > (65536 : Int)) = true → (((false, [], [], ()), (false, [], [], ()), ()), (3 : Int), ()) = (pG (valG x.1, (0 : Int))).2) ∧ (decide ((↑(ByteArray.size x.1) : Int) > (65536 : Int)) = false → (⟨#[(32 : UInt8)]⟩ : ByteArray).size = (1 : Nat) ∧ ∀ (r : Ro [Ty.st, Ty.st, Ty.bo]), r = ((), (cutB x.1 (⟨#[(32 : UInt8)]⟩ : ByteArray)).1, (cutB x.1 (⟨#[(32 : UInt8)]⟩ : ByteArray)).2.1, (cutB x.1 (⟨#[(32 : UInt8)]⟩ : ByteArray)).2.2, ()) → okR r.2.1 = true ∧ ∀ (r_1 : Ro [tR, Ty.it IntKind.i64]), r_1 = pR (valR r.2.1, (0 : Int)) → okR r.2.2.1 = true ∧ ∀ (r_2 : Ro [tR, Ty.it IntKind.i64]), r_2 = pR (valR r.2.2.1, (0 : Int)) → ((!r.2.2.2.1) = true → (((false, [], [], ()), (false, [], [], ()), ()), (140 : Int), ()) = (pG (valG x.1, (0 : Int))).2) ∧ ((!r.2.2.2.1) = false → ((r_1.2.2.1 != (0 : Int)) = true → ((r_1.2.2.1 != (3 : Int)) = true → (((false, [], [], ()), (false, [], [], ()), ()), (140 : Int), ()) = (pG (valG x.1, (0 : Int))).2) ∧ ((r_1.2.2.1 != (3 : Int)) = false → ((r_2.2.2.1 != (0 : Int)) = true → ((r_2.2.2.1 != (3 : Int)) = true → (((false, [], [], ()), (false, [], [], ()), ()), (140 : Int), ()) = (pG (valG x.1, (0 : Int))).2) ∧ ((r_2.2.2.1 != (3 : Int)) = false → ((r_1.2.2.1 != (0 : Int)) = true → (((false, [], [], ()), (false, [], [], ()), ()), (3 : Int), ()) = (pG (valG x.1, (0 : Int))).2) ∧ ((r_1.2.2.1 != (0 : Int)) = false → ((r_2.2.2.1 != (0 : Int)) = true → (((false, [], [], ()), (false, [], [], ()), ()), (3 : Int), ()) = (pG (valG x.1, (0 : Int))).2) ∧ ((r_2.2.2.1 != (0 : Int)) = false → ((r_1.2.1, r_2.2.1, ()), (0 : Int), ()) = (pG (valG x.1, (0 : Int))).2)))) ∧ ((r_2.2.2.1 != (0 : Int)) = false → ((r_1.2.2.1 != (0 : Int)) = true → (((false, [], [], ()), (false, [], [], ()), ()), (3 : Int), ()) = (pG (valG x.1, (0 : Int))).2) ∧ ((r_1.2.2.1 != (0 : Int)) = false → ((r_2.2.2.1 != (0 : Int)) = true → (((false, [], [], ()), (false, [], [], ()), ()), (3 : Int), ()) = (pG (valG x.1, (0 : Int))).2) ∧ ((r_2.2.2.1 != (0 : Int)) = false → ((r_1.2.1, r_2.2.1, ()), (0 : Int), ()) = (pG (valG x.1, (0 : Int))).2))))) ∧ ((r_1.2.2.1 != (0 : Int)) = false → ((r_2.2.2.1 != (0 : Int)) = true → ((r_2.2.2.1 != (3 : Int)) = true → (((false, [], [], ()), (false, [], [], ()), ()), (140 : Int), ()) = (pG (valG x.1, (0 : Int))).2) ∧ ((r_2.2.2.1 != (3 : Int)) = false → ((r_1.2.2.1 != (0 : Int)) = true → (((false, [], [], ()), (false, [], [], ()), ()), (3 : Int), ()) = (pG (valG x.1, (0 : Int))).2) ∧ ((r_1.2.2.1 != (0 : Int)) = false → ((r_2.2.2.1 != (0 : Int)) = true → (((false, [], [], ()), (false, [], [], ()), ()), (3 : Int), ()) = (pG (valG x.1, (0 : Int))).2) ∧ ((r_2.2.2.1 != (0 : Int)) = false → ((r_1.2.1, r_2.2.1, ()), (0 : Int), ()) = (pG (valG x.1, (0 : Int))).2)))) ∧ ((r_2.2.2.1 != (0 : Int)) = false → ((r_1.2.2.1 != (0 : Int)) = true → (((false, [], [], ()), (false, [], [], ()), ()), (3 : Int), ()) = (pG (valG x.1, (0 : Int))).2) ∧ ((r_1.2.2.1 != (0 : Int)) = false → ((r_2.2.2.1 != (0 : Int)) = true → (((false, [], [], ()), (false, [], [], ()), ()), (3 : Int), ()) = (pG (valG x.1, (0 : Int))).2) ∧ ((r_2.2.2.1 != (0 : Int)) = false → ((r_1.2.1, r_2.2.1, ()), (0 : Int), ()) = (pG (valG x.1, (0 : Int))).2))))))
theorem w_gParse (y : El sp_gParse.q) (x : Els sp_gParse.ps) : aW c_gParse (iv_gParse y x) Tryz.f41 sp_gParse y x = F_gParse y x := by kernel_rfl
theorem m_gParse (y : El (.un)) (x : Els [.st]) (h2 : wfE (.un) y) (h3 : wfEs [.st] x) (h4 : okG x.1 = true) : F_gParse y x := by
  unfold F_gParse
  obtain ⟨q1, q2, q3, q4⟩ := okG_of h4
  refine ⟨fun h => absurd (Int.ofNat_lt.1 (gtT h)) (Nat.not_lt.2 q1), fun _ => ⟨rfl, ?_⟩⟩
  rintro _ rfl
  refine ⟨q3, ?_⟩
  rintro _ rfl
  refine ⟨q4, ?_⟩
  rintro _ rfl
  refine ⟨fun h => ?_, fun _ => ⟨fun h => Bool.noConfusion (show false = true from h), fun _ => ⟨fun h => Bool.noConfusion (show false = true from h), fun _ => ⟨fun h => Bool.noConfusion (show false = true from h), fun _ => ⟨fun h => Bool.noConfusion (show false = true from h), fun _ => rfl⟩⟩⟩⟩⟩
  have h : (cutB x.1 b_sp).2.2 = false := ntt h
  rw [q2] at h
  cases h
theorem fo_gParse : FnOk Tryz.prog 41 sp_gParse := fnOk_of (C := c_gParse) iv_gParse Tryz.func41 rfl (by kernel_rfl) tys_ok (prims_cons (spec_prim fo_sCut) (prims_cons (spec_prim fo_rParse) prims_nil)) mixed_ (Nat.le_refl _) rfl fun y x h1 h2 h3 h4 =>
  Eq.mpr (w_gParse y x) (m_gParse y x h2 h3 h4)
noncomputable def sp_w4small : Spec := { q := .un, ps := [.it .i64, .it .i64], rs := [tR], fresh := true, pre := fun _ _ => none, post := fun _ x => ((), (ofFr (fsmall x.1 x.2.1).1, ())) }
noncomputable def iv_w4small (y : El sp_w4small.q) (x : Els sp_w4small.ps) : Nat → Option Inv := fun _ => none
noncomputable abbrev c_w4small : Cfg := cfgS (Tryz.f94).ntmps false [(69, sp_rSmall.prim)]
def F_w4small (y : El sp_w4small.q) (x : Els sp_w4small.ps) : Prop :=
  ∀ (r : Ro [tR, Ty.it IntKind.i64]), r = pR (fsmall x.1 x.2.1) → (r.2.1, ()) = (ofFr (fsmall x.1 x.2.1).1, ())
theorem w_w4small (y : El sp_w4small.q) (x : Els sp_w4small.ps) : aW c_w4small (iv_w4small y x) Tryz.f94 sp_w4small y x = F_w4small y x := by kernel_rfl
theorem m_w4small (y : El (.un)) (x : Els [.it .i64, .it .i64]) (h2 : wfE (.un) y) (h3 : wfEs [.it .i64, .it .i64] x) : F_w4small y x := by
  unfold F_w4small
  rintro _ rfl
  rfl
theorem fo_w4small : FnOk Tryz.prog 94 sp_w4small := fnOk_of (C := c_w4small) iv_w4small Tryz.func94 rfl (by kernel_rfl) tys_ok (prims_cons (spec_prim fo_rSmall) prims_nil) mixed_ (Nat.le_refl _) rfl fun y x h1 h2 h3 h4 =>
  Eq.mpr (w_w4small y x) (m_w4small y x h2 h3)
noncomputable def sp_w4u : Spec := { q := .un, ps := [], rs := [tRot], fresh := true, pre := fun _ _ => none, post := fun _ x => ((), ((2, 1, ()), ())) }
noncomputable def iv_w4u (y : El sp_w4u.q) (x : Els sp_w4u.ps) : Nat → Option Inv := fun _ => none
noncomputable abbrev c_w4u : Cfg := cfgS (Tryz.f91).ntmps false []
def F_w4u (y : El sp_w4u.q) (x : Els sp_w4u.ps) : Prop :=
  (((2 : Int), (1 : Int), ()), ()) = (((2 : El (Ty.it IntKind.i32)), (1 : El (Ty.it IntKind.i32)), ()), ())
theorem w_w4u (y : El sp_w4u.q) (x : Els sp_w4u.ps) : aW c_w4u (iv_w4u y x) Tryz.f91 sp_w4u y x = F_w4u y x := by kernel_rfl
theorem m_w4u (y : El (.un)) (x : Els []) (h2 : wfE (.un) y) (h3 : wfEs [] x) : F_w4u y x := by
  unfold F_w4u
  rfl
theorem fo_w4u : FnOk Tryz.prog 91 sp_w4u := fnOk_of (C := c_w4u) iv_w4u Tryz.func91 rfl (by kernel_rfl) tys_ok prims_nil mixed_ (Nat.le_refl _) rfl fun y x h1 h2 h3 h4 =>
  Eq.mpr (w_w4u y x) (m_w4u y x h2 h3)
noncomputable def sp_w4v : Spec := { q := .un, ps := [], rs := [tRot], fresh := true, pre := fun _ _ => none, post := fun _ x => ((), ((2, -1, ()), ())) }
noncomputable def iv_w4v (y : El sp_w4v.q) (x : Els sp_w4v.ps) : Nat → Option Inv := fun _ => none
noncomputable abbrev c_w4v : Cfg := cfgS (Tryz.f92).ntmps false []
def F_w4v (y : El sp_w4v.q) (x : Els sp_w4v.ps) : Prop :=
  (((2 : Int), (-1 : Int), ()), ()) = (((2 : El (Ty.it IntKind.i32)), (-1 : El (Ty.it IntKind.i32)), ()), ())
theorem w_w4v (y : El sp_w4v.q) (x : Els sp_w4v.ps) : aW c_w4v (iv_w4v y x) Tryz.f92 sp_w4v y x = F_w4v y x := by kernel_rfl
theorem m_w4v (y : El (.un)) (x : Els []) (h2 : wfE (.un) y) (h3 : wfEs [] x) : F_w4v y x := by
  unfold F_w4v
  rfl
theorem fo_w4v : FnOk Tryz.prog 92 sp_w4v := fnOk_of (C := c_w4v) iv_w4v Tryz.func92 rfl (by kernel_rfl) tys_ok prims_nil mixed_ (Nat.le_refl _) rfl fun y x h1 h2 h3 h4 =>
  Eq.mpr (w_w4v y x) (m_w4v y x h2 h3)
theorem wh_ok : okG ⟨#[49, 47, 50, 32, 48]⟩ = true := by decide +kernel
theorem wh_val : valG ⟨#[49, 47, 50, 32, 48]⟩ = ge (1/2) 0 := by decide +kernel
noncomputable def sp_w4half : Spec := { q := .un, ps := [], rs := [tG], fresh := true, pre := fun _ _ => none, post := fun _ x => ((), (ofGa (ge (1/2) 0), ())) }
noncomputable def iv_w4half (y : El sp_w4half.q) (x : Els sp_w4half.ps) : Nat → Option Inv := fun _ => none
noncomputable abbrev c_w4half : Cfg := cfgS (Tryz.f93).ntmps false [(41, sp_gParse.prim)]
def F_w4half (y : El sp_w4half.q) (x : Els sp_w4half.ps) : Prop :=
  okG (⟨#[(49 : UInt8), (47 : UInt8), (50 : UInt8), (32 : UInt8), (48 : UInt8)]⟩ : ByteArray) = true ∧ ∀ (r : Ro [tG, Ty.it IntKind.i64]), r = pG (valG (⟨#[(49 : UInt8), (47 : UInt8), (50 : UInt8), (32 : UInt8), (48 : UInt8)]⟩ : ByteArray), (0 : Int)) → (r.2.1, ()) = (ofGa (ge (1 / 2 : Rat) (0 : Rat)), ())
theorem w_w4half (y : El sp_w4half.q) (x : Els sp_w4half.ps) : aW c_w4half (iv_w4half y x) Tryz.f93 sp_w4half y x = F_w4half y x := by kernel_rfl
theorem m_w4half (y : El (.un)) (x : Els []) (h2 : wfE (.un) y) (h3 : wfEs [] x) : F_w4half y x := by
  unfold F_w4half
  refine ⟨wh_ok, ?_⟩
  intro r hr
  obtain rfl := hr.trans (congrArg (fun g => pG (g, 0)) wh_val)
  rfl
theorem fo_w4half : FnOk Tryz.prog 93 sp_w4half := fnOk_of (C := c_w4half) iv_w4half Tryz.func93 rfl (by kernel_rfl) tys_ok (prims_cons (spec_prim fo_gParse) prims_nil) mixed_ (Nat.le_refl _) rfl fun y x h1 h2 h3 h4 =>
  Eq.mpr (w_w4half y x) (m_w4half y x h2 h3)
theorem wn_1 : nearR (2, 1, ()) (2, -1, ()) 2 = (enc (64/25), 0) := by decide +kernel
theorem wn_2 : nearR (2, 1, ()) (2, 1, ()) 7 = (enc 0, 0) := by decide +kernel
theorem wi_30 : (⟨(fsmall 3 1).1, (fsmall 0 1).1⟩ : Ga) = ge 3 0 := by decide +kernel
theorem wi_20 : (⟨(fsmall 2 1).1, (fsmall 0 1).1⟩ : Ga) = ge 2 0 := by decide +kernel
theorem wi_10 : (⟨(fsmall 1 1).1, (fsmall 0 1).1⟩ : Ga) = ge 1 0 := by decide +kernel
theorem ws_1 : fsmall 64 25 = (enc (64/25), 0) := by decide +kernel
theorem ws_2 : gadd (ge 1 0) (ge (1/2) 0) = (ge (3/2) 0, 0) := by decide +kernel
theorem ws_3 : gquo (ge 3 0) (ge (3/2) 0) = (ge 2 0, 0) := by decide +kernel
theorem ws_4 : gmul (ge (1/2) 0) (ge 2 0) = (ge 1 0, 0) := by decide +kernel
theorem ws_5 : gsplit (ge 3 0) (ge (1/2) 0) = (ofGa (ge 2 0), ofGa (ge 1 0), 0, ()) := by
  unfold gsplit
  rw [if_neg (show ¬ gchk (ge 3 0) ≠ 0 by decide +kernel), if_neg (show ¬ gchk (ge (1/2) 0) ≠ 0 by decide +kernel), if_neg (show ¬ ge (1/2) 0 = gint (-1) 0 by decide +kernel), gint_10, ws_2, if_neg (by decide)]
  dsimp only
  rw [ws_3, if_neg (by decide)]
  dsimp only
  rw [ws_4, if_neg (by decide)]
theorem gs_20 : gsame (ge 2 0) (ge 2 0) = true := by decide +kernel
theorem gs_10 : gsame (ge 1 0) (ge 1 0) = true := by decide +kernel
noncomputable def sp_w4awake : Spec := { q := .un, ps := [], rs := [.bo], fresh := true, pre := fun _ _ => none, post := fun _ x => ((), (true, ())) }
noncomputable def iv_w4awake (y : El sp_w4awake.q) (x : Els sp_w4awake.ps) : Nat → Option Inv := fun _ => none
noncomputable abbrev c_w4awake : Cfg := cfgS (Tryz.f28).ntmps false [(91, sp_w4u.prim), (92, sp_w4v.prim), (35, sp_iNear.prim), (30, sp_iSplit.prim), (50, sp_gInt.prim), (93, sp_w4half.prim), (22, p_sure (sp_rSame.prim)), (94, sp_w4small.prim), (20, sp_rSgn.prim), (33, p_sure (sp_gSame.prim))]
def F_w4awake (y : El sp_w4awake.q) (x : Els sp_w4awake.ps) : Prop :=
  ∀ (r : Ro [tRot]), r = ((), ((2 : El (Ty.it IntKind.i32)), (1 : El (Ty.it IntKind.i32)), ()), ()) → ∀ (r_1 : Ro [tRot]), r_1 = ((), ((2 : El (Ty.it IntKind.i32)), (-1 : El (Ty.it IntKind.i32)), ()), ()) → ∀ (r_2 : Ro [tR, Ty.it IntKind.i64]), r_2 = pR (nearR r.2.1 r_1.2.1 (2 : Int)) → ∀ (r : Ro [tRot]), r = ((), ((2 : El (Ty.it IntKind.i32)), (1 : El (Ty.it IntKind.i32)), ()), ()) → ∀ (r_3 : Ro [tRot]), r_3 = ((), ((2 : El (Ty.it IntKind.i32)), (1 : El (Ty.it IntKind.i32)), ()), ()) → ∀ (r_4 : Ro [tR, Ty.it IntKind.i64]), r_4 = pR (nearR r.2.1 r_3.2.1 (7 : Int)) → ∀ (r : Ro [tG]), r = ((), ofGa { re := (fsmall (3 : Int) (1 : Int)).1, im := (fsmall (0 : Int) (1 : Int)).1 }, ()) → ∀ (r_5 : Ro [tG]), r_5 = ((), ofGa (ge (1 / 2 : Rat) (0 : Rat)), ()) → ∀ (r_6 : Ro [tG, tG, Ty.it IntKind.i64]), r_6 = ((), gsplit (toGa r.2.1) (toGa r_5.2.1)) → ((r_2.2.2.1 == (0 : Int)) = true → ∀ (r : Ro [tR]), r = ((), ofFr (fsmall (64 : Int) (25 : Int)).1, ()) → decide (toFr r_2.2.1 = toFr r.2.1) = true ∧ ((r_4.2.2.1 == (0 : Int)) = true → ∀ (r : Ro [Ty.it IntKind.i64]), r = ((), fsign (toFr r_4.2.1), ()) → ((r.2.1 == (0 : Int)) = true → ((r_6.2.2.2.1 == (0 : Int)) = true → ∀ (r : Ro [tG]), r = ((), ofGa { re := (fsmall (2 : Int) (1 : Int)).1, im := (fsmall (0 : Int) (1 : Int)).1 }, ()) → gsame (toGa r_6.2.1) (toGa r.2.1) = true ∧ ∀ (r : Ro [tG]), r = ((), ofGa { re := (fsmall (1 : Int) (1 : Int)).1, im := (fsmall (0 : Int) (1 : Int)).1 }, ()) → gsame (toGa r_6.2.2.1) (toGa r.2.1) = true ∧ (true, ()) = (true, ())) ∧ ((r_6.2.2.2.1 == (0 : Int)) = false → (false, ()) = (true, ()))) ∧ ((r.2.1 == (0 : Int)) = false → (false, ()) = (true, ()))) ∧ ((r_4.2.2.1 == (0 : Int)) = false → (false, ()) = (true, ()))) ∧ ((r_2.2.2.1 == (0 : Int)) = false → (false, ()) = (true, ()))
theorem w_w4awake (y : El sp_w4awake.q) (x : Els sp_w4awake.ps) : aW c_w4awake (iv_w4awake y x) Tryz.f28 sp_w4awake y x = F_w4awake y x := by kernel_rfl
theorem m_w4awake (y : El (.un)) (x : Els []) (h2 : wfE (.un) y) (h3 : wfEs [] x) : F_w4awake y x := by
  unfold F_w4awake
  rw [wi_30, wi_20, wi_10, ws_1]
  rintro _ rfl _ rfl _ hr
  obtain rfl := hr.trans (congrArg pR wn_1)
  rintro _ rfl _ rfl _ hr
  obtain rfl := hr.trans (congrArg pR wn_2)
  rintro _ rfl _ rfl _ hr
  obtain rfl := hr.trans (congrArg (fun t => (((), t) : El .un × Els [tG, tG, .it .i64])) ws_5)
  refine ⟨fun _ => ?_, fun h => Bool.noConfusion (show true = false from h)⟩
  rintro _ rfl
  refine ⟨decide_eq_true rfl, fun _ => ?_, fun h => Bool.noConfusion (show true = false from h)⟩
  rintro _ rfl
  have z : (fsign (enc 0) == (0 : Int)) = true := by decide +kernel
  refine ⟨fun _ => ⟨fun _ => ?_, fun h => Bool.noConfusion (show true = false from h)⟩, fun h => Bool.noConfusion (z.symm.trans h)⟩
  rintro _ rfl
  refine ⟨gs_20, ?_⟩
  rintro _ rfl
  exact ⟨gs_10, rfl⟩
theorem fo_w4awake : FnOk Tryz.prog 28 sp_w4awake := fnOk_of (C := c_w4awake) iv_w4awake Tryz.func28 rfl (by kernel_rfl) tys_ok (prims_cons (spec_prim fo_w4u) (prims_cons (spec_prim fo_w4v) (prims_cons (spec_prim fo_iNear) (prims_cons (spec_prim fo_iSplit) (prims_cons (spec_prim fo_gInt) (prims_cons (spec_prim fo_w4half) (prims_cons (pr_sure (spec_prim fo_rSame)) (prims_cons (spec_prim fo_w4small) (prims_cons (spec_prim fo_rSgn) (prims_cons (pr_sure (spec_prim fo_gSame)) prims_nil)))))))))) mixed_ (Nat.le_refl _) rfl fun y x h1 h2 h3 h4 =>
  Eq.mpr (w_w4awake y x) (m_w4awake y x h2 h3)
noncomputable def sp_lawInferWhole : Spec := { q := .un, ps := [tG, tG], rs := [.bo], fresh := true, pre := fun _ _ => none, post := fun _ _ => ((), (true, ())) }
noncomputable def iv_lawInferWhole (y : El sp_lawInferWhole.q) (x : Els sp_lawInferWhole.ps) : Nat → Option Inv := fun _ => none
noncomputable abbrev c_lawInferWhole : Cfg := cfgS (Tryz.f5).ntmps false [(28, p_sure (sp_w4awake.prim)), (29, sp_kLongG.prim), (30, sp_iSplit.prim), (31, sp_gAdd.prim), (32, sp_gMul.prim), (33, p_sure (sp_gSame.prim))]
def F_lawInferWhole (y : El sp_lawInferWhole.q) (x : Els sp_lawInferWhole.ps) : Prop :=
  true = true ∧ ∀ (r : Ro [Ty.bo]), r = ((), longGs [x.1, x.2.1], ()) → (r.2.1 = true → (true, ()) = (true, ())) ∧ (r.2.1 = false → ∀ (r : Ro [tG, tG, Ty.it IntKind.i64]), r = ((), gsplit (toGa x.1) (toGa x.2.1)) → ((r.2.2.2.1 != (0 : Int)) = true → ((-9223372036854775808 : Int) ≤ lenM (0 : Nat) (Ty.it IntKind.u32) r.2.1.1.2.2.1 + lenM (0 : Nat) (Ty.it IntKind.u32) r.2.2.1.1.2.2.1 ∧ lenM (0 : Nat) (Ty.it IntKind.u32) r.2.1.1.2.2.1 + lenM (0 : Nat) (Ty.it IntKind.u32) r.2.2.1.1.2.2.1 ≤ (9223372036854775807 : Int)) ∧ ((-9223372036854775808 : Int) ≤ lenM (0 : Nat) (Ty.it IntKind.u32) r.2.1.1.2.2.1 + lenM (0 : Nat) (Ty.it IntKind.u32) r.2.2.1.1.2.2.1 + lenM (0 : Nat) (Ty.it IntKind.u32) r.2.1.2.1.2.2.1 ∧ lenM (0 : Nat) (Ty.it IntKind.u32) r.2.1.1.2.2.1 + lenM (0 : Nat) (Ty.it IntKind.u32) r.2.2.1.1.2.2.1 + lenM (0 : Nat) (Ty.it IntKind.u32) r.2.1.2.1.2.2.1 ≤ (9223372036854775807 : Int)) ∧ ((-9223372036854775808 : Int) ≤ lenM (0 : Nat) (Ty.it IntKind.u32) r.2.1.1.2.2.1 + lenM (0 : Nat) (Ty.it IntKind.u32) r.2.2.1.1.2.2.1 + lenM (0 : Nat) (Ty.it IntKind.u32) r.2.1.2.1.2.2.1 + lenM (0 : Nat) (Ty.it IntKind.u32) r.2.2.1.2.1.2.2.1 ∧ lenM (0 : Nat) (Ty.it IntKind.u32) r.2.1.1.2.2.1 + lenM (0 : Nat) (Ty.it IntKind.u32) r.2.2.1.1.2.2.1 + lenM (0 : Nat) (Ty.it IntKind.u32) r.2.1.2.1.2.2.1 + lenM (0 : Nat) (Ty.it IntKind.u32) r.2.2.1.2.1.2.2.1 ≤ (9223372036854775807 : Int)) ∧ (lenM (0 : Nat) (Ty.it IntKind.u32) r.2.1.1.2.2.1 + lenM (0 : Nat) (Ty.it IntKind.u32) r.2.2.1.1.2.2.1 + lenM (0 : Nat) (Ty.it IntKind.u32) r.2.1.2.1.2.2.1 + lenM (0 : Nat) (Ty.it IntKind.u32) r.2.2.1.2.1.2.2.1 == (0 : Int), ()) = (true, ())) ∧ ((r.2.2.2.1 != (0 : Int)) = false → ∀ (r_1 : Ro [tG, Ty.it IntKind.i64]), r_1 = pG (gadd (toGa r.2.1) (toGa r.2.2.1)) → ∀ (r_2 : Ro [tG, Ty.it IntKind.i64]), r_2 = pG (gmul (toGa x.2.1) (toGa r.2.1)) → ((r_1.2.2.1 != (0 : Int)) = true → ((r_2.2.2.1 == (0 : Int)) = true → gsame (toGa r_2.2.1) (toGa r.2.2.1) = true ∧ (true, ()) = (true, ())) ∧ ((r_2.2.2.1 == (0 : Int)) = false → (false, ()) = (true, ()))) ∧ ((r_1.2.2.1 != (0 : Int)) = false → gsame (toGa r_1.2.1) (toGa x.1) = true ∧ ((r_2.2.2.1 == (0 : Int)) = true → gsame (toGa r_2.2.1) (toGa r.2.2.1) = true ∧ (true, ()) = (true, ())) ∧ ((r_2.2.2.1 == (0 : Int)) = false → (false, ()) = (true, ())))))
theorem w_lawInferWhole (y : El sp_lawInferWhole.q) (x : Els sp_lawInferWhole.ps) : aW c_lawInferWhole (iv_lawInferWhole y x) Tryz.f5 sp_lawInferWhole y x = F_lawInferWhole y x := by kernel_rfl
theorem m_lawInferWhole (y : El (.un)) (x : Els [tG, tG]) (h2 : wfE (.un) y) (h3 : wfEs [tG, tG] x) : F_lawInferWhole y x := by
  unfold F_lawInferWhole
  refine ⟨rfl, ?_⟩
  rintro _ rfl
  refine ⟨fun _ => rfl, fun _ => ?_⟩
  rcases gsplit_ok (wf_ga h3.1) (wf_ga h3.2.1) with ⟨e, he, hs⟩ | ⟨A, B, hs, hm, hB, hA⟩
  · intro r hr
    obtain rfl := hr.trans (congrArg (fun t => (((), t) : El .un × Els [tG, tG, .it .i64])) hs)
    refine ⟨fun _ => ⟨?_, ?_, ?_, rfl⟩, fun h => absurd (neF h) he⟩
    · exact (show (-9223372036854775808 : Int) ≤ 0 ∧ (0 : Int) ≤ 9223372036854775807 by decide)
    · exact (show (-9223372036854775808 : Int) ≤ 0 ∧ (0 : Int) ≤ 9223372036854775807 by decide)
    · exact (show (-9223372036854775808 : Int) ≤ 0 ∧ (0 : Int) ≤ 9223372036854775807 by decide)
  · intro r hr
    obtain rfl := hr.trans (congrArg (fun t => (((), t) : El .un × Els [tG, tG, .it .i64])) hs)
    refine ⟨fun h => Bool.noConfusion (show false = true from h), fun _ => ?_⟩
    rintro _ rfl
    intro r hr
    obtain rfl := hr.trans (congrArg pG hm)
    exact ⟨fun _ => ⟨fun _ => ⟨hB, rfl⟩, fun h => Bool.noConfusion (show true = false from h)⟩, fun h => ⟨hA (neF h), fun _ => ⟨hB, rfl⟩, fun h => Bool.noConfusion (show true = false from h)⟩⟩
theorem fo_lawInferWhole : FnOk Tryz.prog 5 sp_lawInferWhole := fnOk_of (C := c_lawInferWhole) iv_lawInferWhole Tryz.func5 rfl (by kernel_rfl) tys_ok (prims_cons (pr_sure (spec_prim fo_w4awake)) (prims_cons (spec_prim fo_kLongG) (prims_cons (spec_prim fo_iSplit) (prims_cons (spec_prim fo_gAdd) (prims_cons (spec_prim fo_gMul) (prims_cons (pr_sure (spec_prim fo_gSame)) prims_nil)))))) mixed_ (Nat.le_refl _) rfl fun y x h1 h2 h3 h4 =>
  Eq.mpr (w_lawInferWhole y x) (m_lawInferWhole y x h2 h3)
def sd (j D : Nat) (q : Rat) : Prop := ∃ X : Int, bd j X ∧ q = mkRat X D
section
variable {j k D E : Nat} {p q : Rat}
theorem bd.up {x : Int} (h : bd j x) (hk : j ≤ k) : bd k x := Nat.le_trans h (Nat.pow_le_pow_right (by decide) hk)
theorem sd.lng (h : sd j D q) (hj : j ≤ 2100) (hD : D ≤ 2000 ^ j) (h0 : D ≠ 0) : ¬ lng q = true := by
  obtain ⟨X, hX, rfl⟩ := h
  exact lngQ hX hj hD hj h0
theorem sd.upj (h : sd j D q) (hk : j ≤ k) : sd k D q := by
  obtain ⟨X, hX, rfl⟩ := h
  exact ⟨X, hX.up hk, rfl⟩
theorem sd.mul (h : sd j D p) (g : sd k E q) : sd (j + k) (D * E) (p * q) := by
  obtain ⟨X, hX, rfl⟩ := h
  obtain ⟨Y, hY, rfl⟩ := g
  exact ⟨X * Y, hX.mul hY, Rat.mkRat_mul_mkRat ..⟩
theorem bd_add {x y : Int} (h : bd j x) (g : bd j y) : bd (j + 1) (x + y) := by
  unfold bd at *
  rw [Nat.pow_succ]
  omega
theorem sd.add (h0 : D ≠ 0) (h : sd j D p) (g : sd j D q) : sd (j + 1) D (p + q) := by
  obtain ⟨X, hX, rfl⟩ := h
  obtain ⟨Y, hY, rfl⟩ := g
  exact ⟨X + Y, bd_add hX hY, mkRat_add_same X Y h0⟩
theorem sd.neg (h : sd j D p) : sd j D (-p) := by
  obtain ⟨X, hX, rfl⟩ := h
  refine ⟨-X, ?_, Rat.neg_mkRat ..⟩
  unfold bd at *
  rw [Int.natAbs_neg]
  exact hX
theorem sd.sub (h0 : D ≠ 0) (h : sd j D p) (g : sd j D q) : sd (j + 1) D (p - q) := by
  rw [Rat.sub_eq_add_neg]
  exact h.add h0 g.neg
theorem sd.upd (h : sd j D q) (hE : E ≤ 2000 ^ k) (h0 : E ≠ 0) : sd (j + k) (D * E) q := by
  obtain ⟨X, hX, rfl⟩ := h
  refine ⟨X * E, ?_, (Rat.mkRat_mul_right h0).symm⟩
  unfold bd at *
  rw [Int.natAbs_mul, Int.natAbs_natCast, Nat.pow_add]
  exact Nat.mul_le_mul hX hE
end
def ux (a b : Int) (n : Nat) : Rat := mkRat (gpow a b (2 * n)).1 (nrmR a b ^ n).toNat
def uy (a b : Int) (n : Nat) : Rat := mkRat (gpow a b (2 * n)).2 (nrmR a b ^ n).toNat
theorem rpow_ge (a b : Int) (n : Nat) : rpow a b n = ge (ux a b n) (uy a b n) := rfl
theorem rpow_neg (a b : Int) (n : Nat) : rpow a (-b) n = ge (ux a b n) (-uy a b n) := by
  unfold rpow ge ux uy
  rw [gpow_neg, nrmR_neg, Rat.neg_mkRat]
theorem gpow_sq (a b : Int) : ∀ n, (gpow a b n).1 * (gpow a b n).1 + (gpow a b n).2 * (gpow a b n).2 = nrmR a b ^ n
  | 0 => by
    show (1 : Int) * 1 + 0 * 0 = nrmR a b ^ 0
    rw [Int.pow_zero]
    rfl
  | n + 1 => by
    have ih := gpow_sq a b n
    have e1 : (gpow a b (n + 1)).1 = (gpow a b n).1 * a - (gpow a b n).2 * b := rfl
    have e2 : (gpow a b (n + 1)).2 = (gpow a b n).1 * b + (gpow a b n).2 * a := rfl
    rw [e1, e2, Int.pow_succ, ← ih]
    unfold nrmR
    generalize (gpow a b n).1 = x
    generalize (gpow a b n).2 = y
    grind
section
variable {a b c d : Int} {n t : Nat} (ha : a.natAbs ≤ 1000) (hb : b.natAbs ≤ 1000) (hp : 1 ≤ a)
include ha hb hp
omit hp in
theorem u_sd : sd (2 * n) (nrmR a b ^ n).toNat (ux a b n) ∧ sd (2 * n) (nrmR a b ^ n).toNat (uy a b n) := by
  obtain ⟨h1, h2⟩ := gpow_bd ha hb (2 * n)
  exact ⟨⟨_, h1, rfl⟩, ⟨_, h2, rfl⟩⟩
theorem u_unit : ux a b n * ux a b n + uy a b n * uy a b n = 1 := by
  obtain ⟨_, h0, he⟩ := nrmN (n := n) ha hb hp
  unfold ux uy
  rw [Rat.mkRat_mul_mkRat, Rat.mkRat_mul_mkRat, mkRat_add_same _ _ (Nat.mul_ne_zero h0 h0), gpow_sq]
  have e : nrmR a b ^ (2 * n) = (((nrmR a b ^ n).toNat * (nrmR a b ^ n).toNat : Nat) : Int) := by
    rw [Int.natCast_mul, he, ← Int.pow_add]
    congr 1
    omega
  rw [e]
  rw [show (1 : Rat) = mkRat 1 1 by decide +kernel, Rat.mkRat_eq_iff (Nat.mul_ne_zero h0 h0) (by decide)]
  omega
end
def nsum (a b c d : Int) : Nat → Rat × Rat
  | 0 => (0, 0)
  | t + 1 => ((nsum a b c d t).1 + (ux a b t * ux c d t + uy a b t * uy c d t), (nsum a b c d t).2 + (ux a b t * uy c d t - uy a b t * ux c d t))
theorem nsum_swap (a b c d : Int) : ∀ t, nsum c d a b t = ((nsum a b c d t).1, -(nsum a b c d t).2)
  | 0 => by
    show ((0 : Rat), (0 : Rat)) = ((0 : Rat), -(0 : Rat))
    decide +kernel
  | t + 1 => by
    show ((nsum c d a b t).1 + (ux c d t * ux a b t + uy c d t * uy a b t), (nsum c d a b t).2 + (ux c d t * uy a b t - uy c d t * ux a b t)) = ((nsum a b c d t).1 + (ux a b t * ux c d t + uy a b t * uy c d t), -((nsum a b c d t).2 + (ux a b t * uy c d t - uy a b t * ux c d t)))
    rw [nsum_swap a b c d t]
    refine Prod.ext ?_ ?_
    · show (nsum a b c d t).1 + _ = (nsum a b c d t).1 + _
      grind
    · show -(nsum a b c d t).2 + _ = -((nsum a b c d t).2 + _)
      grind
section
variable {a b c d : Int} {n t : Nat} (ha : a.natAbs ≤ 1000) (hb : b.natAbs ≤ 1000) (hp : 1 ≤ a) (hc : c.natAbs ≤ 1000) (hd : d.natAbs ≤ 1000) (hq : 1 ≤ c)
include ha hb hp hc hd hq
theorem den_ok : (nrmR a b ^ n).toNat * (nrmR c d ^ n).toNat ≠ 0 ∧ (nrmR a b ^ n).toNat * (nrmR c d ^ n).toNat ≤ 2000 ^ (4 * n) := by
  obtain ⟨l1, h1, _⟩ := nrmN (n := n) ha hb hp
  obtain ⟨l2, h2, _⟩ := nrmN (n := n) hc hd hq
  refine ⟨Nat.mul_ne_zero h1 h2, ?_⟩
  have := Nat.mul_le_mul l1 l2
  rw [← Nat.pow_add] at this
  rw [show 4 * n = 2 * n + 2 * n by omega]
  exact this
theorem term_sd : sd (4 * n + 1) ((nrmR a b ^ n).toNat * (nrmR c d ^ n).toNat) (ux a b n * ux c d n + uy a b n * uy c d n) ∧ sd (4 * n + 1) ((nrmR a b ^ n).toNat * (nrmR c d ^ n).toNat) (ux a b n * uy c d n - uy a b n * ux c d n) := by
  obtain ⟨x1, x2⟩ := u_sd (n := n) ha hb
  obtain ⟨y1, y2⟩ := u_sd (n := n) hc hd
  obtain ⟨h0, _⟩ := den_ok (n := n) ha hb hp hc hd hq
  have e : 2 * n + 2 * n = 4 * n := by omega
  have z1 := x1.mul y1
  have z2 := x2.mul y2
  have z3 := x1.mul y2
  have z4 := x2.mul y1
  rw [e] at z1 z2 z3 z4
  exact ⟨z1.add h0 z2, z3.sub h0 z4⟩
theorem den_step : (nrmR a b ^ n).toNat * (nrmR c d ^ n).toNat * ((nrmR a b ^ 1).toNat * (nrmR c d ^ 1).toNat) = (nrmR a b ^ (n + 1)).toNat * (nrmR c d ^ (n + 1)).toNat := by
  rw [← nrmN_mul (m := n) (n := 1) ha hb hp, ← nrmN_mul (m := n) (n := 1) hc hd hq]
  exact Nat.mul_mul_mul_comm ..
theorem nsum_sd : ∀ t, sd (5 * t + 1) ((nrmR a b ^ t).toNat * (nrmR c d ^ t).toNat) (nsum a b c d t).1 ∧ sd (5 * t + 1) ((nrmR a b ^ t).toNat * (nrmR c d ^ t).toNat) (nsum a b c d t).2
  | 0 => by
    refine ⟨⟨0, ?_, ?_⟩, ⟨0, ?_, ?_⟩⟩
    · show (0 : Int).natAbs ≤ 2000 ^ 1
      decide
    · exact (Rat.zero_mkRat _).symm
    · show (0 : Int).natAbs ≤ 2000 ^ 1
      decide
    · exact (Rat.zero_mkRat _).symm
  | t + 1 => by
    obtain ⟨i1, i2⟩ := nsum_sd t
    obtain ⟨w1, w2⟩ := term_sd (n := t) ha hb hp hc hd hq
    obtain ⟨h0, _⟩ := den_ok (n := t) ha hb hp hc hd hq
    obtain ⟨k0, kl⟩ := den_ok (n := 1) ha hb hp hc hd hq
    have s1 := (i1.add h0 (w1.upj (by omega))).upd kl k0
    have s2 := (i2.add h0 (w2.upj (by omega))).upd kl k0
    rw [den_step ha hb hp hc hd hq] at s1 s2
    exact ⟨s1.upj (by omega), s2.upj (by omega)⟩
theorem near_val : ∀ t, t ≤ 20 → nearS a b c d t = (ge (nsum a b c d t).1 (nsum a b c d t).2, 0)
  | 0, _ => by
    show (gint 0 0, (0 : Int)) = (ge 0 0, 0)
    decide +kernel
  | t + 1, ht => by
    have ih := near_val t (by omega)
    obtain ⟨i1, i2⟩ := nsum_sd ha hb hp hc hd hq t
    obtain ⟨j1, j2⟩ := nsum_sd ha hb hp hc hd hq (t + 1)
    obtain ⟨w1, w2⟩ := term_sd (n := t) ha hb hp hc hd hq
    obtain ⟨x1, x2⟩ := u_sd (n := t) ha hb
    obtain ⟨y1, y2⟩ := u_sd (n := t) hc hd
    obtain ⟨h0, hl⟩ := den_ok (n := t) ha hb hp hc hd hq
    obtain ⟨h0', hl'⟩ := den_ok (n := t + 1) ha hb hp hc hd hq
    obtain ⟨a1, a0, _⟩ := nrmN (n := t) ha hb hp
    obtain ⟨c1, c0, _⟩ := nrmN (n := t) hc hd hq
    have up : ∀ {m : Nat}, 4 * t ≤ m → (nrmR a b ^ t).toNat * (nrmR c d ^ t).toNat ≤ 2000 ^ m := fun h => Nat.le_trans hl (Nat.pow_le_pow_right (by decide) h)
    have l1 := x1.lng (by omega) a1 a0
    have l2 := x2.neg.lng (by omega) a1 a0
    have l3 := y1.lng (by omega) c1 c0
    have l4 := y2.lng (by omega) c1 c0
    have m1 := (x1.mul y1).lng (by omega) (up (by omega)) h0
    have m2 := (x2.neg.mul y2).lng (by omega) (up (by omega)) h0
    have m3 := (x1.mul y2).lng (by omega) (up (by omega)) h0
    have m4 := (x2.neg.mul y1).lng (by omega) (up (by omega)) h0
    have k1 : ¬ lng (ux a b t * ux c d t - -uy a b t * uy c d t) = true := by
      rw [show ux a b t * ux c d t - -uy a b t * uy c d t = ux a b t * ux c d t + uy a b t * uy c d t by grind]
      exact w1.lng (by omega) (up (by omega)) h0
    have k2 : ¬ lng (ux a b t * uy c d t + -uy a b t * ux c d t) = true := by
      rw [show ux a b t * uy c d t + -uy a b t * ux c d t = ux a b t * uy c d t - uy a b t * ux c d t by grind]
      exact w2.lng (by omega) (up (by omega)) h0
    have g := ge_chk2e l1 l2 l3 l4
    have p1 : wpair 0 (enc (ux a b t)) (enc (ux c d t)) (enc (-uy a b t)) (enc (uy c d t)) true = (enc (ux a b t * ux c d t - -uy a b t * uy c d t), 0) := by
      have e1 := (fmul_enc l1 l3).trans (tell_ok m1)
      have e2 := (fmul_enc l2 l4).trans (tell_ok m2)
      rw [wpair_3 (by rw [e1]) (by rw [e2]), e1, e2]
      exact (fsub_enc m1 m2).trans (tell_ok k1)
    have p2 : wpair 0 (enc (ux a b t)) (enc (uy c d t)) (enc (-uy a b t)) (enc (ux c d t)) false = (enc (ux a b t * uy c d t + -uy a b t * ux c d t), 0) := by
      have e1 := (fmul_enc l1 l4).trans (tell_ok m3)
      have e2 := (fmul_enc l2 l3).trans (tell_ok m4)
      rw [wpair_4 (by rw [e1]) (by rw [e2]), e1, e2]
      exact (fadd_enc m3 m4).trans (tell_ok k2)
    have pr : gmul (rpow a (-b) t) (rpow c d t) = (ge (ux a b t * ux c d t + uy a b t * uy c d t) (ux a b t * uy c d t - uy a b t * ux c d t), 0) := by
      rw [rpow_neg, rpow_ge]
      have q1 : wpair 0 (ge (ux a b t) (-uy a b t)).re (ge (ux c d t) (uy c d t)).re (ge (ux a b t) (-uy a b t)).im (ge (ux c d t) (uy c d t)).im true = _ := p1
      have q2 : wpair 0 (ge (ux a b t) (-uy a b t)).re (ge (ux c d t) (uy c d t)).im (ge (ux a b t) (-uy a b t)).im (ge (ux c d t) (uy c d t)).re false = _ := p2
      rw [gmul_4 g (by rw [q1]) (by rw [q2]), q1, q2, show ux a b t * ux c d t - -uy a b t * uy c d t = ux a b t * ux c d t + uy a b t * uy c d t by grind, show ux a b t * uy c d t + -uy a b t * ux c d t = ux a b t * uy c d t - uy a b t * ux c d t by grind]
      rfl
    have n1 := i1.lng (by omega) (up (by omega)) h0
    have n2 := i2.lng (by omega) (up (by omega)) h0
    have v1 := w1.lng (by omega) (up (by omega)) h0
    have v2 := w2.lng (by omega) (up (by omega)) h0
    have up' : (nrmR a b ^ (t + 1)).toNat * (nrmR c d ^ (t + 1)).toNat ≤ 2000 ^ (5 * (t + 1) + 1) := Nat.le_trans hl' (Nat.pow_le_pow_right (by decide) (by omega))
    have f1 : fadd (enc (nsum a b c d t).1) (enc (ux a b t * ux c d t + uy a b t * uy c d t)) = (enc (nsum a b c d (t + 1)).1, 0) := (fadd_enc n1 v1).trans (tell_ok (j1.lng (by omega) up' h0'))
    have f2 : fadd (enc (nsum a b c d t).2) (enc (ux a b t * uy c d t - uy a b t * ux c d t)) = (enc (nsum a b c d (t + 1)).2, 0) := (fadd_enc n2 v2).trans (tell_ok (j2.lng (by omega) up' h0'))
    show (if (nearS a b c d t).2 ≠ 0 then nearS a b c d t else if (gmul (rpow a (-b) t) (rpow c d t)).2 ≠ 0 then (Ga.zero, (gmul (rpow a (-b) t) (rpow c d t)).2) else gadd (nearS a b c d t).1 (gmul (rpow a (-b) t) (rpow c d t)).1) = _
    rw [ih, pr, if_neg (fun c => c rfl), if_neg (fun c => c rfl)]
    have g2 := ge_chk2e n1 n2 v1 v2
    have q3 : fadd (ge (nsum a b c d t).1 (nsum a b c d t).2).re (ge (ux a b t * ux c d t + uy a b t * uy c d t) (ux a b t * uy c d t - uy a b t * ux c d t)).re = _ := f1
    have q4 : fadd (ge (nsum a b c d t).1 (nsum a b c d t).2).im (ge (ux a b t * ux c d t + uy a b t * uy c d t) (ux a b t * uy c d t - uy a b t * ux c d t)).im = _ := f2
    rw [gadd_4 g2 (by rw [q3]) (by rw [q4]), q3, q4]
    rfl
end
def qof (a b c d : Int) (t : Nat) : Rat := (t : Rat) * (t : Rat) - ((nsum a b c d t).1 * (nsum a b c d t).1 + (nsum a b c d t).2 * (nsum a b c d t).2)
theorem qof_swap (a b c d : Int) (t : Nat) : qof c d a b t = qof a b c d t := by
  unfold qof
  rw [nsum_swap a b c d t]
  dsimp only
  grind
theorem sq_le {r s t : Rat} (ht : 0 ≤ t) (h : r * r + s * s ≤ t * t) : r ≤ t := by
  rcases Rat.le_total (a := r) (b := t) with k | k
  · exact k
  · by_cases e : r = t
    · exact e ▸ Rat.le_refl
    · exfalso
      have h1 : 0 < r - t := by grind
      have h2 : 0 < r + t := by grind
      have := Rat.mul_pos h1 h2
      have := sq_nonneg s
      grind
theorem cs_le {s1 s2 w1 w2 t : Rat} (ht : 0 ≤ t) (hw : w1 * w1 + w2 * w2 = 1) (h : s1 * s1 + s2 * s2 ≤ t * t) : s1 * w1 + s2 * w2 ≤ t := by
  refine sq_le (s := s1 * w2 - s2 * w1) ht ?_
  have : (s1 * w1 + s2 * w2) * (s1 * w1 + s2 * w2) + (s1 * w2 - s2 * w1) * (s1 * w2 - s2 * w1) = (s1 * s1 + s2 * s2) * (w1 * w1 + w2 * w2) := by grind
  rw [this, hw, Rat.mul_one]
  exact h
section
variable {a b c d : Int} {n t : Nat} (ha : a.natAbs ≤ 1000) (hb : b.natAbs ≤ 1000) (hp : 1 ≤ a) (hc : c.natAbs ≤ 1000) (hd : d.natAbs ≤ 1000) (hq : 1 ≤ c)
include ha hb hp hc hd hq
theorem term_unit (t : Nat) : (ux a b t * ux c d t + uy a b t * uy c d t) * (ux a b t * ux c d t + uy a b t * uy c d t) + (ux a b t * uy c d t - uy a b t * ux c d t) * (ux a b t * uy c d t - uy a b t * ux c d t) = 1 := by
  have h1 := u_unit (n := t) ha hb hp
  have h2 := u_unit (n := t) hc hd hq
  have : (ux a b t * ux c d t + uy a b t * uy c d t) * (ux a b t * ux c d t + uy a b t * uy c d t) + (ux a b t * uy c d t - uy a b t * ux c d t) * (ux a b t * uy c d t - uy a b t * ux c d t) = (ux a b t * ux a b t + uy a b t * uy a b t) * (ux c d t * ux c d t + uy c d t * uy c d t) := by grind
  rw [this, h1, h2]
  decide +kernel
theorem qof_step (t : Nat) (h : 0 ≤ qof a b c d t) : qof a b c d t ≤ qof a b c d (t + 1) := by
  have hu := term_unit ha hb hp hc hd hq t
  have ht : (0 : Rat) ≤ (t : Rat) := Rat.natCast_nonneg
  unfold qof at h ⊢
  have e1 : (nsum a b c d (t + 1)).1 = (nsum a b c d t).1 + (ux a b t * ux c d t + uy a b t * uy c d t) := rfl
  have e2 : (nsum a b c d (t + 1)).2 = (nsum a b c d t).2 + (ux a b t * uy c d t - uy a b t * ux c d t) := rfl
  rw [e1, e2, Rat.natCast_add, show ((1 : Nat) : Rat) = 1 from rfl]
  generalize (ux a b t * ux c d t + uy a b t * uy c d t) = w1 at hu ⊢
  generalize (ux a b t * uy c d t - uy a b t * ux c d t) = w2 at hu ⊢
  generalize (nsum a b c d t).1 = s1 at h ⊢
  generalize (nsum a b c d t).2 = s2 at h ⊢
  generalize (t : Rat) = q at h ht ⊢
  have k := cs_le (s1 := s1) (s2 := s2) ht hu (by grind)
  have e : (q + 1) * (q + 1) - ((s1 + w1) * (s1 + w1) + (s2 + w2) * (s2 + w2)) = (q * q - (s1 * s1 + s2 * s2)) + 2 * (q - (s1 * w1 + s2 * w2)) + (1 - (w1 * w1 + w2 * w2)) := by grind
  rw [e, hu]
  grind
theorem qof_nonneg : ∀ t, 0 ≤ qof a b c d t
  | 0 => by
    show (0 : Rat) ≤ ((0 : Nat) : Rat) * ((0 : Nat) : Rat) - (0 * 0 + 0 * 0)
    decide +kernel
  | t + 1 => by
    have ih := qof_nonneg t
    have := qof_step ha hb hp hc hd hq t ih
    grind
theorem qof_mono (t : Nat) : ∀ k, qof a b c d t ≤ qof a b c d (t + k)
  | 0 => Rat.le_refl
  | k + 1 => by
    have h1 := qof_mono t k
    have h2 := qof_step ha hb hp hc hd hq (t + k) (qof_nonneg ha hb hp hc hd hq _)
    have : t + k + 1 = t + (k + 1) := by omega
    rw [this] at h2
    grind
end
theorem ux_0 (a b : Int) : ux a b 0 = 1 := by
  unfold ux
  rw [Int.pow_zero]
  exact Rat.mkRat_one 1
theorem uy_0 (a b : Int) : uy a b 0 = 0 := by
  unfold uy
  rw [Int.pow_zero]
  exact Rat.mkRat_one 0
theorem nsum_1 (a b c d : Int) : nsum a b c d 1 = (1, 0) := by
  show ((0 : Rat) + (ux a b 0 * ux c d 0 + uy a b 0 * uy c d 0), (0 : Rat) + (ux a b 0 * uy c d 0 - uy a b 0 * ux c d 0)) = (1, 0)
  rw [ux_0, ux_0, uy_0, uy_0]
  decide +kernel
theorem qof_01 (a b c d : Int) {t : Nat} (h : t < 2) : qof a b c d t = 0 := by
  rcases Nat.lt_or_ge t 1 with k | k
  · obtain rfl : t = 0 := by omega
    show ((0 : Nat) : Rat) * ((0 : Nat) : Rat) - ((0 : Rat) * 0 + 0 * 0) = 0
    decide +kernel
  · obtain rfl : t = 1 := by omega
    unfold qof
    rw [nsum_1]
    decide +kernel
section
variable {a b c d : Int} {n t : Nat} (ha : a.natAbs ≤ 1000) (hb : b.natAbs ≤ 1000) (hp : 1 ≤ a)
include ha hb hp
theorem nsum_same : ∀ t, nsum a b a b t = ((t : Rat), 0)
  | 0 => rfl
  | t + 1 => by
    show ((nsum a b a b t).1 + (ux a b t * ux a b t + uy a b t * uy a b t), (nsum a b a b t).2 + (ux a b t * uy a b t - uy a b t * ux a b t)) = _
    rw [nsum_same t, u_unit ha hb hp, Rat.natCast_add, show ((1 : Nat) : Rat) = 1 from rfl]
    refine Prod.ext rfl ?_
    show (0 : Rat) + (ux a b t * uy a b t - uy a b t * ux a b t) = 0
    grind
theorem qof_same (t : Nat) : qof a b a b t = 0 := by
  unfold qof
  rw [nsum_same ha hb hp]
  dsimp only
  grind
end
theorem dvd_cop {a b c : Int} (h : a ∣ b * c) (g : Int.gcd a b = 1) : a ∣ c := by
  rw [← Int.natAbs_dvd_natAbs] at h ⊢
  rw [Int.natAbs_mul] at h
  exact Nat.Coprime.dvd_of_dvd_mul_left g h
theorem rot_eq {a b c d : Int} (hp : 1 ≤ a) (hq : 1 ≤ c) (hb : b ≠ 0) (hd : d ≠ 0) (hg : Int.gcd a b = 1) (hh : Int.gcd c d = 1)
    (e1 : (a * a - b * b) * (c * c + d * d) = (c * c - d * d) * (a * a + b * b)) (e2 : a * b * (c * c + d * d) = c * d * (a * a + b * b)) : a = c ∧ b = d := by
  have k : (b * c - a * d) * (a * c - b * d) = 0 := by grind
  have m : (a * d - b * c) * (a * d + b * c) = 0 := by grind
  rcases Int.mul_eq_zero.1 m with m | m
  · have m : a * d = b * c := by omega
    have d1 : a ∣ c := dvd_cop (show a ∣ b * c from ⟨d, m.symm⟩) hg
    have d2 : c ∣ a := dvd_cop (show c ∣ d * a from ⟨b, by grind⟩) hh
    have h1 := Int.le_of_dvd (by omega) d1
    have h2 := Int.le_of_dvd (by omega) d2
    have : a = c := by omega
    subst this
    refine ⟨rfl, ?_⟩
    have : a * (d - b) = 0 := by grind
    rcases Int.mul_eq_zero.1 this with h | h <;> omega
  · exfalso
    rcases Int.mul_eq_zero.1 k with k | k
    · have : b * c = 0 := by omega
      rcases Int.mul_eq_zero.1 this with h | h <;> omega
    · have h1 : a * c = b * d := by omega
      have h2 : a * d = -(b * c) := by omega
      have h3 : c * d * (a * a + b * b) = 0 := by
        have : (a * c) * (a * d) = (b * d) * -(b * c) := by rw [h1, h2]
        grind
      rcases Int.mul_eq_zero.1 h3 with h | h
      · rcases Int.mul_eq_zero.1 h with h | h <;> omega
      · have := Int.mul_pos (show 0 < a by omega) (show 0 < a by omega)
        have : 0 ≤ b * b := by
          rcases Int.le_total 0 b with g | g
          · exact Int.mul_nonneg g g
          · exact Int.mul_nonneg_of_nonpos_of_nonpos g g
        omega
section
variable {a b c d : Int} {n t : Nat} (ha : a.natAbs ≤ 1000) (hb : b.natAbs ≤ 1000) (hp : 1 ≤ a) (hc : c.natAbs ≤ 1000) (hd : d.natAbs ≤ 1000) (hq : 1 ≤ c)
include ha hb hp hc hd hq
omit ha hb hp hc hd hq in
theorem unit_like {x y p q : Rat} (h1 : x * x + y * y = 1) (h2 : p * p + q * q = 1) (h : x * p + y * q = 1) : x = p ∧ y = q := by
  have : (x - p) * (x - p) + (y - q) * (y - q) = 0 := by grind
  obtain ⟨e1, e2⟩ := norm_zero this
  exact ⟨by grind, by grind⟩
theorem qof_2 (hb0 : b ≠ 0) (hd0 : d ≠ 0) (hg : Int.gcd a b = 1) (hh : Int.gcd c d = 1) (h : qof a b c d 2 = 0) : a = c ∧ b = d := by
  have hu := term_unit ha hb hp hc hd hq 1
  have u1 := u_unit (n := 1) ha hb hp
  have u2 := u_unit (n := 1) hc hd hq
  unfold qof at h
  have e1 : (nsum a b c d 2).1 = (nsum a b c d 1).1 + (ux a b 1 * ux c d 1 + uy a b 1 * uy c d 1) := rfl
  have e2 : (nsum a b c d 2).2 = (nsum a b c d 1).2 + (ux a b 1 * uy c d 1 - uy a b 1 * ux c d 1) := rfl
  rw [e1, e2, nsum_1, show ((2 : Nat) : Rat) = 2 from rfl] at h
  dsimp only at h
  have w : ux a b 1 * ux c d 1 + uy a b 1 * uy c d 1 = 1 := by
    generalize (ux a b 1 * ux c d 1 + uy a b 1 * uy c d 1) = w1 at hu h ⊢
    generalize (ux a b 1 * uy c d 1 - uy a b 1 * ux c d 1) = w2 at hu h ⊢
    grind
  obtain ⟨x1, x2⟩ := unit_like u1 u2 w
  obtain ⟨_, n1, f1⟩ := nrmN (n := 1) ha hb hp
  obtain ⟨_, n2, f2⟩ := nrmN (n := 1) hc hd hq
  unfold ux at x1
  unfold uy at x2
  rw [Rat.mkRat_eq_iff n1 n2, f1, f2, Int.pow_succ, Int.pow_zero, Int.one_mul, Int.pow_succ, Int.pow_zero, Int.one_mul] at x1 x2
  have g1 : (gpow a b (2 * 1)).1 = (1 * a - 0 * b) * a - (1 * b + 0 * a) * b := rfl
  have g2 : (gpow a b (2 * 1)).2 = (1 * a - 0 * b) * b + (1 * b + 0 * a) * a := rfl
  have g3 : (gpow c d (2 * 1)).1 = (1 * c - 0 * d) * c - (1 * d + 0 * c) * d := rfl
  have g4 : (gpow c d (2 * 1)).2 = (1 * c - 0 * d) * d + (1 * d + 0 * c) * c := rfl
  rw [g1, g3] at x1
  rw [g2, g4] at x2
  unfold nrmR at x1 x2
  exact rot_eq hp hq hb0 hd0 hg hh (by grind) (by grind)
theorem near_fr (ht : t ≤ 20) : nearN (t : Int) (nearS a b c d t) = (enc (qof a b c d t), 0) ∧ ¬ lng (qof a b c d t) = true := by
  obtain ⟨i1, i2⟩ := nsum_sd ha hb hp hc hd hq t
  obtain ⟨h0, hl⟩ := den_ok (n := t) ha hb hp hc hd hq
  have up : ∀ {m : Nat}, 4 * t ≤ m → (nrmR a b ^ t).toNat * (nrmR c d ^ t).toNat ≤ 2000 ^ m := fun h => Nat.le_trans hl (Nat.pow_le_pow_right (by decide) h)
  rw [near_val ha hb hp hc hd hq t ht]
  generalize hD : (nrmR a b ^ t).toNat * (nrmR c d ^ t).toNat = D at i1 i2 h0 hl up
  have h0' : D * D ≠ 0 := Nat.mul_ne_zero h0 h0
  have hl' : D * D ≤ 2000 ^ (8 * t) := by
    have := Nat.mul_le_mul hl hl
    rw [← Nat.pow_add] at this
    rw [show 8 * t = 4 * t + 4 * t by omega]
    exact this
  have up' : ∀ {m : Nat}, 8 * t ≤ m → D * D ≤ 2000 ^ m := fun h => Nat.le_trans hl' (Nat.pow_le_pow_right (by decide) h)
  have m1 := i1.mul i1
  have m2 := i2.mul i2
  have s := m1.add h0' m2
  have l1 := i1.lng (by omega) (up (by omega)) h0
  have l2 := i2.lng (by omega) (up (by omega)) h0
  have k1 := m1.lng (by omega) (up' (by omega)) h0'
  have k2 := m2.lng (by omega) (up' (by omega)) h0'
  have ks := s.lng (by omega) (up' (by omega)) h0'
  have no : gnorm (ge (nsum a b c d t).1 (nsum a b c d t).2) = (enc ((nsum a b c d t).1 * (nsum a b c d t).1 + (nsum a b c d t).2 * (nsum a b c d t).2), 0) := by
    rw [gnorm_2 (a := ge (nsum a b c d t).1 (nsum a b c d t).2) (gchk_enc l1 l2)]
    have e1 := (fmul_enc l1 l1).trans (tell_ok k1)
    have e2 := (fmul_enc l2 l2).trans (tell_ok k2)
    show wpair 0 (enc _) (enc _) (enc _) (enc _) false = _
    rw [wpair_4 (by rw [e1]) (by rw [e2]), e1, e2]
    exact (fadd_enc k1 k2).trans (tell_ok ks)
  have hn : sd 1 1 ((t : Rat) * (t : Rat)) := by
    refine ⟨((t * t : Nat) : Int), ?_, ?_⟩
    · show ((t * t : Nat) : Int).natAbs ≤ 2000 ^ 1
      rw [Int.natAbs_natCast]
      exact Nat.le_trans (Nat.mul_le_mul ht ht) (by decide)
    · rw [← Rat.natCast_mul]
      exact (Rat.mkRat_one _).symm
  have ln : ¬ lng ((t : Rat) * (t : Rat)) = true := hn.lng (by omega) (by decide) (by decide)
  have hs : fsmall ((t : Int) * (t : Int)) 1 = (enc ((t : Rat) * (t : Rat)), 0) := by
    unfold fsmall
    rw [if_neg (by decide)]
    have e : mkRat (sg (decide ((t : Int) * (t : Int) < 0) != decide ((1 : Int) < 0)) ((t : Int) * (t : Int)).natAbs) (1 : Int).natAbs = (t : Rat) * (t : Rat) := by
      rw [← Int.natCast_mul, Int.natAbs_natCast, decide_eq_false (show ¬ ((t * t : Nat) : Int) < 0 by omega), ← Rat.natCast_mul]
      exact Rat.mkRat_one _
    rw [e]
    exact tell_ok ln
  have q := (hn.upd (k := 10 * t + 3) (up' (by omega)) h0').upj (k := 10 * t + 4) (by omega)
  rw [Nat.one_mul] at q
  have qq := q.sub h0' (s.upj (k := 10 * t + 4) (by omega))
  have lq := qq.lng (by omega) (up' (by omega)) h0'
  refine ⟨?_, lq⟩
  unfold nearN
  rw [if_neg (fun c => c rfl)]
  dsimp only
  rw [no, if_neg (fun c => c rfl), hs]
  exact (fsub_enc ln ks).trans (tell_ok lq)
end
theorem sign_q {q : Rat} (h : ¬ lng q = true) (hq : 0 ≤ q) : 0 ≤ fsign (enc q) ∧ (fsign (enc q) = 0 ↔ q = 0) := by
  rw [fsign_enc h]
  rcases cmpq_cases q 0 with ⟨k, e⟩ | ⟨k, e⟩ | ⟨k, e⟩ <;> rw [e]
  · exfalso
    grind
  · exact ⟨by decide, fun c => absurd c (by decide), fun c => by grind⟩
  · exact ⟨by decide, fun _ => k, fun _ => rfl⟩
theorem near_parts {r s : El tRot} {t : Nat} (hr : rotC r = 0) (hs : rotC s = 0) (ht : t ≤ 20) :
    ∃ q : Rat, ¬ lng q = true ∧ nearR r s (t : Int) = (enc q, 0) ∧ nearR s r (t : Int) = (enc q, 0) ∧ 0 ≤ q ∧ (q = 0 ↔ (r = s ∨ t < 2)) := by
  obtain ⟨ha, hb, hp⟩ := rot_bd hr
  obtain ⟨hc, hd, hq⟩ := rot_bd hs
  have br := rotC_0 hr
  have bs := rotC_0 hs
  unfold rotB rotI at br bs
  obtain ⟨e1, l1⟩ := near_fr (t := t) ha hb hp hc hd hq ht
  obtain ⟨e2, l2⟩ := near_fr (t := t) hc hd hq ha hb hp ht
  rw [qof_swap (rA r) (rB r) (rA s) (rB s)] at e2
  refine ⟨qof (rA r) (rB r) (rA s) (rB s) t, l1, ?_, ?_, qof_nonneg ha hb hp hc hd hq t, ?_, ?_⟩
  · rw [near_4 hr hs (by omega), Int.toNat_natCast]
    exact e1
  · rw [near_4 hs hr (by omega), Int.toNat_natCast]
    exact e2
  · intro h0
    rcases Nat.lt_or_ge t 2 with k | k
    · exact .inr k
    · left
      have h2 : qof (rA r) (rB r) (rA s) (rB s) 2 = 0 := by
        have g1 := qof_mono ha hb hp hc hd hq 2 (t - 2)
        rw [show 2 + (t - 2) = t by omega, h0] at g1
        have g2 := qof_nonneg ha hb hp hc hd hq 2
        grind
      obtain ⟨f1, f2⟩ := qof_2 ha hb hp hc hd hq br.2.2.2.2.1 bs.2.2.2.2.1 br.2.2.2.2.2.2.2 bs.2.2.2.2.2.2.2 h2
      obtain ⟨r1, r2, _⟩ := r
      obtain ⟨s1, s2, _⟩ := s
      have f1 : r1 = s1 := f1
      have f2 : r2 = s2 := f2
      subst f1 f2
      rfl
  · rintro (k | k)
    · rw [k]
      exact qof_same hc hd hq t
    · exact qof_01 _ _ _ _ k
end Go.Proofs.YtjoonfegjobgbaaGreatDoor
