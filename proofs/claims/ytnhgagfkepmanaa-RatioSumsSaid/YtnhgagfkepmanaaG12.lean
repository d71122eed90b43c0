/- The reference of ratio: Signed. -/
import Derived.Test.YtnhgagfkepmanaaG11
import Derived.Test.YtnhgagfkepmanaaP4
namespace Go.Proofs.Ytnhgagfkepmanaa
open Go Go.RowKit

theorem sg_add_same (s : Bool) (X Y : Nat) : sg s (X + Y) = sg s X + sg s Y := by unfold sg; cases s <;> simp <;> omega
theorem sg_add_less (s t : Bool) (X Y : Nat) (h : s ≠ t) (hl : X < Y) : sg t (Y - X) = sg s X + sg t Y := by unfold sg; cases s <;> cases t <;> simp at h ⊢ <;> omega
theorem sg_add_more (s t : Bool) (X Y : Nat) (h : s ≠ t) (hl : Y ≤ X) : sg (s && decide (0 < X - Y)) (X - Y) = sg s X + sg t Y := by
  by_cases h0 : 0 < X - Y
  · rw [decide_eq_true h0]; unfold sg; cases s <;> cases t <;> simp at h ⊢ <;> omega
  · rw [decide_eq_false h0]; unfold sg; cases s <;> cases t <;> simp at h ⊢ <;> omega

/-- a sign and a size are told: their number is z -/
def SgP (w : World) (z : Int) (e : Ending) (w' : World) : Prop := ∃ (v : Bool) (D : Nat) (A : Option Addr) (c : Nat), sg v D = z ∧ e = .returned (.tuple #[.bool v, .slice A (wd D).length c]) ∧ Own w' w.heap.size A c (wd D) ∧ Ext w w'

set_option maxHeartbeats 1000000 in
theorem gsigned_any (s t : Bool) (A B : Option Addr) (X Y : Nat) (c d : Nat) (w : World) (ha : Rd w A c (wd X)) (hb : Rd w B d (wd Y)) (lX : (wd X).length ≤ 8191) (lY : (wd Y).length ≤ 8191) :
    Calls Try.prog 52 #[.bool s, .slice A (wd X).length c, .bool t, .slice B (wd Y).length d] w (SgP w (sg s X + sg t Y)) := by
  have HA := Lib.hid ha
  have HB := Lib.hid hb
  clear ha hb
  by_cases hst : s = t
  · subst hst
    have hb1 : (s == s) = true := beq_self_eq_true s
    have HZ := Lib.hid (sg_add_same s X Y)
    obtain ⟨D, hD⟩ : ∃ D, D = X + Y := ⟨_, rfl⟩
    have HC := Lib.hid (gadd_any A B X Y c d w HA.out HB.out lX lY)
    rw [← hD] at HZ HC
    clear hD
    go_enter Try.func52, Try.ntmps52
    go_wp2_with fail
    refine HC.out.mono ?_; rintro e w1 ⟨A1, c1, rfl, h1, hx1⟩
    have H1 := Lib.hid h1
    have HX1 := Lib.hid hx1
    clear h1 hx1
    go_wp2_with fail
    go_ret2
    exact ⟨s, D, A1, c1, HZ.out, rfl, H1.out, HX1.out⟩
  · have hb1 : (s == t) = false := beq_eq_false_iff_ne.2 hst
    rcases Nat.lt_or_ge X Y with hl | hl
    · have hc : cmp X Y < 0 := cmp_lt_iff.2 hl
      have HZ := Lib.hid (sg_add_less s t X Y hst hl)
      obtain ⟨D, hD⟩ : ∃ D, D = Y - X := ⟨_, rfl⟩
      have HC := Lib.hid (gsub_any B A Y X d c w HB.out HA.out (by omega) (by omega))
      rw [← hD] at HZ HC
      clear hD
      go_enter Try.func52, Try.ntmps52
      go_wp2_with fail
      refine (gcompare_any _ _ (wd X) (wd Y) _ _ _ _ X Y _ HA.out HB.out rfl rfl (wf_wd X) (wf_wd Y) (val_wd X) (val_wd Y)).mono ?_; rintro e w1 ⟨rfl, rfl⟩
      go_wp2_with fail
      refine HC.out.mono ?_; rintro e w1 ⟨A1, c1, rfl, h1, hx1⟩
      have H1 := Lib.hid h1
      have HX1 := Lib.hid hx1
      clear h1 hx1
      go_wp2_with fail
      go_ret2
      exact ⟨t, D, A1, c1, HZ.out, rfl, H1.out, HX1.out⟩
    · have hc : ¬ cmp X Y < 0 := fun h => by have := cmp_lt_iff.1 h; omega
      have HZ := Lib.hid (sg_add_more s t X Y hst hl)
      obtain ⟨D, hD⟩ : ∃ D, D = X - Y := ⟨_, rfl⟩
      have HC := Lib.hid (gsub_any A B X Y c d w HA.out HB.out hl (by omega))
      rw [← hD] at HZ HC
      have HDL := Lib.hid (show decide (0 < D) = decide (0 < (wd D).length) by
        have := @wd_len_zero D
        apply decide_eq_decide.2
        omega)
      clear hD
      cases s with
      | false =>
        go_enter Try.func52, Try.ntmps52
        go_wp2_with fail
        refine (gcompare_any _ _ (wd X) (wd Y) _ _ _ _ X Y _ HA.out HB.out rfl rfl (wf_wd X) (wf_wd Y) (val_wd X) (val_wd Y)).mono ?_; rintro e w1 ⟨rfl, rfl⟩
        go_wp2_with fail
        refine HC.out.mono ?_; rintro e w1 ⟨A1, c1, rfl, h1, hx1⟩
        have H1 := Lib.hid h1
        have HX1 := Lib.hid hx1
        clear h1 hx1
        go_wp2_with fail
        go_ret2
        exact ⟨false, D, A1, c1, HZ.out, rfl, H1.out, HX1.out⟩
      | true =>
        go_enter Try.func52, Try.ntmps52
        go_wp2_with fail
        refine (gcompare_any _ _ (wd X) (wd Y) _ _ _ _ X Y _ HA.out HB.out rfl rfl (wf_wd X) (wf_wd Y) (val_wd X) (val_wd Y)).mono ?_; rintro e w1 ⟨rfl, rfl⟩
        go_wp2_with fail
        refine HC.out.mono ?_; rintro e w1 ⟨A1, c1, rfl, h1, hx1⟩
        have H1 := Lib.hid h1
        have HX1 := Lib.hid hx1
        clear h1 hx1
        go_wp2_with fail
        go_ret2
        exact ⟨true && decide (0 < D), D, A1, c1, HZ.out, by rw [HDL.out, Bool.true_and]; rfl, H1.out, HX1.out⟩

end Go.Proofs.Ytnhgagfkepmanaa
