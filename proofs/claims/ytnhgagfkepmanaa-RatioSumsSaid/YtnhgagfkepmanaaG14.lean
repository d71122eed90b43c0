/- The reference of ratio: Check. -/
import Derived.Test.YtnhgagfkepmanaaG13
namespace Go.Proofs.Ytnhgagfkepmanaa
open Go Go.RowKit

theorem trim_chk {xs : List Int} (h : xs.length ≤ 8192) : decide (¬ (xs ≠ [] ∧ nth xs (xs.length - 1) = 0)) = decide (chk xs = 0) := by
  unfold chk
  rw [if_neg (by omega)]
  by_cases h1 : xs ≠ [] ∧ nth xs (xs.length - 1) = 0
  · rw [if_pos h1, decide_eq_false (fun h => h h1), decide_eq_false (by omega)]
  · rw [if_neg h1, decide_eq_true h1]; rfl

set_option maxHeartbeats 2000000 in
theorem gcheck3_any (s : Bool) (A B : Option Addr) (xs ys : List Int) (c d : Nat) (w : World) (ha : Rd w A c xs) (hb : Rd w B d ys) (hx : Wf xs) (hy : Wf ys) :
    Calls Try.prog 32 #[.agg #[.bool s, .slice A xs.length c, .slice B ys.length d]] w fun e w' => e = .returned (.int .i64 (fchk ⟨s, xs, ys⟩)) ∧ Ext w w' := by
  have hl := ha.lim
  have hly := hb.lim
  have HX := Lib.hid ((Ext.refl w).alloc (.cells #[.bool s, .slice A xs.length c, .slice B ys.length d] 27))
  have HA := Lib.hid (ha.ext HX.out)
  have HB := Lib.hid (hb.ext HX.out)
  clear ha hb
  by_cases h1 : 2048 < xs.length
  · have HE := Lib.hid (show fchk ⟨s, xs, ys⟩ = 3 from if_pos h1)
    rw [HE.out]
    go_enter Try.func32, Try.ntmps32
    go_wp2_with fail
    go_ret
    exact ⟨rfl, HX.out⟩
  by_cases h2 : 2048 < ys.length
  · have HE := Lib.hid (show fchk ⟨s, xs, ys⟩ = 3 by unfold fchk; rw [if_neg h1, if_pos h2])
    rw [HE.out]
    go_enter Try.func32, Try.ntmps32
    go_wp2_with fail
    go_ret
    exact ⟨rfl, HX.out⟩
  have HTA := Lib.hid (fun b (hb : decide (chk xs = 0) = b) => gtrimmed_any A xs c xs.length b _ HA.out rfl (by rw [trim_chk (by omega), hb]))
  have HTB := Lib.hid (fun b (hb : decide (chk ys = 0) = b) => gtrimmed_any B ys d ys.length b _ HB.out rfl (by rw [trim_chk (by omega), hb]))
  by_cases h3 : chk xs ≠ 0
  · have HE := Lib.hid (show fchk ⟨s, xs, ys⟩ = 11 by unfold fchk; rw [if_neg h1, if_neg h2, if_pos h3])
    have HFA := Lib.hid (HTA.out false (decide_eq_false h3))
    rw [HE.out]
    clear h3
    go_enter Try.func32, Try.ntmps32
    go_wp2_with fail
    refine HFA.out.mono ?_; rintro e w' ⟨rfl, rfl⟩
    go_wp2_with fail
    go_ret
    exact ⟨rfl, HX.out⟩
  have HFA := Lib.hid (HTA.out true (decide_eq_true (by simpa using h3)))
  by_cases h4 : chk ys ≠ 0
  · have HE := Lib.hid (show fchk ⟨s, xs, ys⟩ = 11 by unfold fchk; rw [if_neg h1, if_neg h2, if_neg h3, if_pos h4])
    have HFB := Lib.hid (HTB.out false (decide_eq_false h4))
    rw [HE.out]
    clear h3 h4
    go_enter Try.func32, Try.ntmps32
    go_wp2_with fail
    refine HFA.out.mono ?_; rintro e w' ⟨rfl, rfl⟩
    go_wp2_with fail
    refine HFB.out.mono ?_; rintro e w' ⟨rfl, rfl⟩
    go_wp2_with fail
    go_ret
    exact ⟨rfl, HX.out⟩
  have HFB := Lib.hid (HTB.out true (decide_eq_true (by simpa using h4)))
  by_cases h5 : ys.length = 0
  · have HE := Lib.hid (show fchk ⟨s, xs, ys⟩ = 11 by unfold fchk; rw [if_neg h1, if_neg h2, if_neg h3, if_neg h4, if_pos h5])
    have hb3 : ((ys.length : Int) == 0) = true := beq_iff_eq.2 (by omega)
    rw [HE.out]
    clear h3 h4 h5
    go_enter Try.func32, Try.ntmps32
    go_wp2_with fail
    refine HFA.out.mono ?_; rintro e w' ⟨rfl, rfl⟩
    go_wp2_with fail
    refine HFB.out.mono ?_; rintro e w' ⟨rfl, rfl⟩
    go_wp2_with fail
    go_ret
    exact ⟨rfl, HX.out⟩
  have hb3 : ((ys.length : Int) == 0) = false := beq_eq_false_iff_ne.2 (by omega)
  by_cases h6 : xs.length = 0 ∧ s = true
  · have HE := Lib.hid (show fchk ⟨s, xs, ys⟩ = 11 by unfold fchk; rw [if_neg h1, if_neg h2, if_neg h3, if_neg h4, if_neg h5, if_pos h6])
    have hb4 : ((xs.length : Int) == 0) = true := beq_iff_eq.2 (by omega)
    obtain rfl : s = true := h6.2
    rw [HE.out]
    clear h3 h4 h5 h6
    go_enter Try.func32, Try.ntmps32
    go_wp2_with fail
    refine HFA.out.mono ?_; rintro e w' ⟨rfl, rfl⟩
    go_wp2_with fail
    refine HFB.out.mono ?_; rintro e w' ⟨rfl, rfl⟩
    go_wp2_with fail
    go_ret
    exact ⟨rfl, HX.out⟩
  obtain ⟨ex, lx⟩ := chk_ok hx (by simpa using h3)
  obtain ⟨ey, ly⟩ := chk_ok hy (by simpa using h4)
  obtain ⟨m, hm⟩ : ∃ m, m = (val xs).toNat := ⟨_, rfl⟩
  obtain ⟨n, hn⟩ : ∃ n, n = (val ys).toNat := ⟨_, rfl⟩
  rw [← hm] at ex
  rw [← hn] at ey
  have HE : (Nat.gcd m n = 1 → fchk ⟨s, xs, ys⟩ = 0) ∧ (Nat.gcd m n ≠ 1 → fchk ⟨s, xs, ys⟩ = 11) := by
    unfold fchk
    rw [if_neg h1, if_neg h2, if_neg h3, if_neg h4, if_neg h5, if_neg h6, hm, hn]
    exact ⟨fun e => if_neg (fun h => h e), fun e => if_pos e⟩
  have hb4 : ((xs.length : Int) == 0) = false ∨ (((xs.length : Int) == 0) = true ∧ s = false) := by
    by_cases h : xs.length = 0
    · refine .inr ⟨beq_iff_eq.2 (by omega), ?_⟩
      cases s with
      | false => rfl
      | true => exact absurd ⟨h, rfl⟩ h6
    · exact .inl (beq_eq_false_iff_ne.2 (by omega))
  have HGC := Lib.hid (show ∀ wx, Rd wx A c xs → Rd wx B d ys → Calls Try.prog 41 #[.slice A xs.length c, .slice B ys.length d] wx (One wx (Nat.gcd m n)) from fun wx a b => by
    have := ggcd_any A B m n c d wx (ex ▸ a) (ey ▸ b) (by rw [← ex]; omega) (by rw [← ey]; omega) (by have h0 : n ≠ 0 := fun e => h5 (by rw [ey, e, wd_zero]; rfl); have := wd_len_mono (Nat.gcd_le_right m (show 0 < n by omega)); rw [← ey] at this; omega)
    rw [← ex, ← ey] at this
    exact this)
  obtain ⟨g, hg⟩ : ∃ g, g = Nat.gcd m n := ⟨_, rfl⟩
  rw [← hg] at HE HGC
  clear h3 h4 h5 h6 hm hn ex ey hg hx hy
  by_cases hg1 : g = 1
  · have HDD := Lib.hid (show decide (wd g = wd 1) = true by rw [hg1]; exact decide_eq_true rfl)
    have HF := Lib.hid (show fchk ⟨s, xs, ys⟩ = 0 from HE.1 hg1)
    rw [HF.out]
    clear HE hg1
    rcases hb4 with hb4 | ⟨hb4, rfl⟩
    all_goals
      go_enter Try.func32, Try.ntmps32
      go_wp2_with fail
      refine HFA.out.mono ?_; rintro e w' ⟨rfl, rfl⟩
      go_wp2_with fail
      refine HFB.out.mono ?_; rintro e w' ⟨rfl, rfl⟩
      go_wp2_with fail
      refine (HGC.out _ HA.out HB.out).mono ?_; rintro e w1 ⟨A1, c1, rfl, k1, hx1⟩
      have H1 := Lib.hid k1
      have HX1 := Lib.hid (HX.out.trans hx1)
      clear k1 hx1
      go_wp2_with fail
      refine (gone_any _).mono ?_; rintro e w2 ⟨A2, c2, rfl, k2, hx2⟩
      have H2 := Lib.hid k2
      have H1 := Lib.hid (H1.out.ext hx2)
      have HX2 := Lib.hid (HX1.out.trans hx2)
      clear k2 hx2
      go_wp2_with fail
      refine (gsame_any A1 A2 (wd g) (wd 1) c1 c2 _ _ H1.out.rd H2.out.rd rfl _ rfl _ HDD.out).mono ?_; rintro e w3 ⟨rfl, hq⟩
      have HX3 := Lib.hid (HX2.out.trans hq.ext)
      clear hq
      go_wp2_with fail
      go_ret
      exact ⟨rfl, HX3.out⟩
  · have HDD := Lib.hid (show decide (wd g = wd 1) = false from decide_eq_false (fun e => hg1 (wd_inj e)))
    have HF := Lib.hid (show fchk ⟨s, xs, ys⟩ = 11 from HE.2 hg1)
    rw [HF.out]
    clear HE hg1
    rcases hb4 with hb4 | ⟨hb4, rfl⟩
    all_goals
      go_enter Try.func32, Try.ntmps32
      go_wp2_with fail
      refine HFA.out.mono ?_; rintro e w' ⟨rfl, rfl⟩
      go_wp2_with fail
      refine HFB.out.mono ?_; rintro e w' ⟨rfl, rfl⟩
      go_wp2_with fail
      refine (HGC.out _ HA.out HB.out).mono ?_; rintro e w1 ⟨A1, c1, rfl, k1, hx1⟩
      have H1 := Lib.hid k1
      have HX1 := Lib.hid (HX.out.trans hx1)
      clear k1 hx1
      go_wp2_with fail
      refine (gone_any _).mono ?_; rintro e w2 ⟨A2, c2, rfl, k2, hx2⟩
      have H2 := Lib.hid k2
      have H1 := Lib.hid (H1.out.ext hx2)
      have HX2 := Lib.hid (HX1.out.trans hx2)
      clear k2 hx2
      go_wp2_with fail
      refine (gsame_any A1 A2 (wd g) (wd 1) c1 c2 _ _ H1.out.rd H2.out.rd rfl _ rfl _ HDD.out).mono ?_; rintro e w3 ⟨rfl, hq⟩
      have HX3 := Lib.hid (HX2.out.trans hq.ext)
      clear hq
      go_wp2_with fail
      go_ret
      exact ⟨rfl, HX3.out⟩

end Go.Proofs.Ytnhgagfkepmanaa
