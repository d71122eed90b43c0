/- nat.divide. -/
import Derived.Test.YtnhgagfkepmanaaN11
import Derived.Deep.RegionHeld3
namespace Go.Proofs.Ytnhgagfkepmanaa
open Go Go.RowKit

theorem add0 (b : Addr) : b.add 0 = b := by obtain ⟨g, o, s⟩ := b; unfold Addr.add; split <;> simp_all
/-- what divide leaves: two rows, apart -/
def Two (w : World) (x y : Nat) (e : Ending) (w' : World) : Prop := ∃ A c B d, e = .returned (.tuple #[.slice A (wd x).length c, .slice B (wd y).length d]) ∧ Own w' w.heap.size A c (wd x) ∧ Own w' w.heap.size B d (wd y) ∧ (∀ a b, A = some a → B = some b → a.block ≠ b.block) ∧ Ext w w'

set_option maxHeartbeats 1000000 in
theorem divide_less (A B : Option Addr) (m n c d : Nat) (w : World) (ha : Rd w A c (wd m)) (hb : Rd w B d (wd n)) (hlt : m < n) (lm : (wd m).length ≤ 8192) :
    Calls Try.prog 56 #[.slice A (wd m).length c, .slice B (wd n).length d] w (Two w (m / n) (m % n)) := by
  have hd : m / n = 0 := Nat.div_eq_of_lt hlt
  have hr : m % n = m := Nat.mod_eq_of_lt hlt
  rw [hd, hr]
  have HA := Lib.hid ha
  have HB := Lib.hid hb
  have hc : cmp m n < 0 := cmp_lt_iff.2 hlt
  clear ha hb hd hr
  go_enter Try.func56, Try.ntmps56
  go_wp2_with fail
  refine (compare_any _ _ _ _ _ _ _ HA.out HB.out).mono ?_; rintro e w1 ⟨rfl, hx1⟩
  have HX1 := Lib.hid hx1
  clear hx1
  go_wp2_with fail
  refine (clone_any _ _ _ _ (HA.out.ext HX1.out) (by omega)).mono ?_; rintro e w2 ⟨A2, c2, rfl, hO2, hx2⟩
  have HX2 := Lib.hid (HX1.out.trans hx2)
  have HO2 := Lib.hid (hO2.lower HX1.out.size)
  clear hx2 hO2
  go_wp2_with fail
  go_ret2
  exact ⟨none, 0, A2, c2, by rw [show (wd 0).length = 0 by rw [wd_zero]; rfl]; rfl, by rw [wd_zero]; exact Own.nil _ _, HO2.out, (fun _ _ h => by cases h), HX2.out⟩

set_option maxHeartbeats 1000000 in
theorem divide_one (A B : Option Addr) (m n c d : Nat) (w : World) (ha : Rd w A c (wd m)) (hb : Rd w B d (wd n)) (hge : n ≤ m) (hn : (wd n).length = 1) (lm : (wd m).length ≤ 8192) :
    Calls Try.prog 56 #[.slice A (wd m).length c, .slice B (wd n).length d] w (Two w (m / n) (m % n)) := by
  have HA := Lib.hid ha
  have HB := Lib.hid hb
  have hc : ¬ cmp m n < 0 := fun h => by have := cmp_lt_iff.1 h; omega
  have hn0 : n ≠ 0 := fun e => by have := wd_len_zero.2 e; omega
  have hn1 : n < 4294967296 := by have := nat_lt_of_len n 1 (by omega); rw [show pw 1 = 4294967296 from rfl] at this; omega
  have hword : nth (wd n) 0 = n := by rw [wd_pos n hn0, nth_cons_zero]; omega
  have hl1 : (((wd n).length : Int) == 1) = true := by rw [hn]; rfl
  have hp : 0 < (wd n).length := by omega
  obtain ⟨b, rfl, hcb⟩ := hb.at_ 0 hp
  obtain ⟨Q, hQ⟩ : ∃ Q, m / n = Q := ⟨_, rfl⟩
  obtain ⟨R, hR⟩ : ∃ R, m % n = R := ⟨_, rfl⟩
  have hRn : R < n := hR ▸ Nat.mod_lt m (by omega)
  have HQQ := Lib.hid hQ
  have HRR := Lib.hid hR
  rw [hQ, hR]
  clear hQ hR
  rw [hword, add0] at hcb
  clear ha hb hword
  have HN := Lib.hid hn
  clear hn
  go_enter Try.func56, Try.ntmps56
  go_wp2_with fail
  refine (compare_any _ _ _ _ _ _ _ HA.out HB.out).mono ?_; rintro e w1 ⟨rfl, hx1⟩
  have HX1 := Lib.hid hx1
  have hcb1 := hx1.cell hcb
  clear hx1 hcb
  go_wp2_with fail
  go_region_with (first | (go_at_call 55; refine (clone_any _ _ _ _ (HA.out.ext HX1.out.drew) (by omega)).mono ?_; rintro e w2 ⟨A2, c2, rfl, hO2, hx2⟩; have HX2 := Lib.hid (HX1.out.drew.trans hx2); have HO2 := Lib.hid hO2; have hcb2 := hx2.cell (show w1.drew.cell? _ = _ from hcb1); clear hx2 hO2) | (go_at_call 71; refine (small_any _ _ _ _ _ _ HO2.out (by omega) hn1 (by omega) Q R HQQ.out HRR.out).mono ?_; rintro e w3 ⟨rfl, hO3, hx3⟩; have HX3 := Lib.hid hx3; have HO3 := Lib.hid hO3; clear hx3 hO3))
  all_goals
    have hg : ∀ k, A2.map (·.block) = some k → w.heap.size ≤ k := fun k hk => by
      cases A2 with
      | none => cases hk
      | some a => cases hk; exact Nat.le_trans HX1.out.size HO2.out.block.1
    have HX4 := Lib.hid (HX2.out.grown HX3.out hg)
    clear hg
    go_wp2_with fail
    refine (of_any R _ (by omega)).mono ?_
    rintro e w5 ⟨A5, c5, rfl, hO5, hx5⟩
    have HA5 := Lib.hid (HO3.out.apart hO5 (Nat.le_refl _))
    have HX5 := Lib.hid (HX4.out.trans hx5)
    have HO3' := Lib.hid ((HO3.out.ext hx5).lower HX1.out.size)
    have HO5 := Lib.hid (hO5.lower HX4.out.size)
    clear hO5 hx5
    go_wp2_with fail
    go_ret2
    exact ⟨_, _, _, _, rfl, HO3'.out, HO5.out, HA5.out, HX5.out⟩

end Go.Proofs.Ytnhgagfkepmanaa
