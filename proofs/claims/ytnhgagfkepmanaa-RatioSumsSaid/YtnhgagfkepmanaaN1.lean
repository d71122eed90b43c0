/- nat's functions that only look, and those that cut noughts off. -/
import Derived.Test.YtnhgagfkepmanaaM1
namespace Go.Proofs.Ytnhgagfkepmanaa
open Go Go.RowKit

set_option maxHeartbeats 400000 in
theorem cut_any (A : Option Addr) (xs : List Int) (c : Nat) (w : World) (h : Rd w A c xs) :
    Calls Try.prog 62 #[.slice A xs.length c] w fun e w' => e = .returned (.slice A (tl xs xs.length) c) ∧ w = w' := by
  have hl := h.lim
  have hc := h.cap
  have HA := Lib.hid h.at_
  clear h
  go_enter Try.func62, Try.ntmps62
  go_wp2
  go_loop [3] (fun i => ∃ k : Nat, k ≤ xs.length ∧ tl xs k = tl xs xs.length ∧ i = .int .i64 k) (fun i => (intOf i).toNat)
  case atStart => exact ⟨xs.length, by omega, rfl, rfl⟩
  case round =>
    obtain ⟨k, hk, hj, rfl⟩ := hrel
    cases k with
    | zero =>
      have HJ := Lib.hid hj
      clear hj
      go_wp2
      go_ret
      exact ⟨by rw [← HJ.out]; rfl, rfl⟩
    | succ k =>
      obtain ⟨a, rfl, hcell⟩ := HA.out k (by omega)
      by_cases hz : nth xs k = 0
      · have HJ := Lib.hid ((tl_zero xs k hz).symm.trans hj)
        clear hj
        rw [hz] at hcell
        clear hz
        go_wp2
        go_round
        case rel => exact ⟨k, by omega, HJ.out, by go_num⟩
        case measure => simp [intOf]
      · have HJ := Lib.hid ((tl_here xs k hz).symm.trans hj)
        clear hj
        have hz' : (nth xs k == 0) = false := by simpa using hz
        clear hz
        go_wp2
        go_ret
        exact ⟨by rw [← HJ.out]; rfl, rfl⟩

set_option maxHeartbeats 400000 in
theorem check_any (A : Option Addr) (xs : List Int) (c : Nat) (w : World) (h : Rd w A c xs) :
    Calls Try.prog 46 #[.slice A xs.length c] w fun e w' => e = .returned (.int .i64 (chk xs)) ∧ w = w' := by
  have hl := h.lim
  have hc := h.cap
  have HA := Lib.hid h.at_
  clear h
  by_cases h1 : 8192 < xs.length
  · have HE := Lib.hid (show chk xs = 3 by unfold chk; rw [if_pos h1])
    go_enter Try.func46, Try.ntmps46
    go_wp2
    go_ret
    exact ⟨by rw [HE.out]; rfl, rfl⟩
  · by_cases h0 : xs.length = 0
    · have HE := Lib.hid (show chk xs = 0 by unfold chk; rw [if_neg h1, if_neg]; rintro ⟨h2, _⟩; exact h2 (List.eq_nil_of_length_eq_zero h0))
      have hn : ((xs.length : Int) > 0) = False := by rw [h0]; simp
      have hn' : ¬ (0 < xs.length) := by omega
      clear h0
      go_enter Try.func46, Try.ntmps46
      go_wp2
      go_ret
      exact ⟨by rw [HE.out]; rfl, rfl⟩
    · obtain ⟨k, hk⟩ := Nat.exists_eq_succ_of_ne_zero h0
      obtain ⟨a, rfl, hcell⟩ := HA.out k (by omega)
      have hp : 0 < xs.length := by omega
      have hi : ((xs.length : Int) - 1).toNat = k := by omega
      by_cases hz : nth xs k = 0
      · have HE := Lib.hid (show chk xs = 11 by
          unfold chk; rw [if_neg h1, if_pos ⟨fun e => by simp [e] at hp, by rw [hk]; exact hz⟩])
        rw [hz] at hcell
        clear hz hk h0
        go_enter Try.func46, Try.ntmps46
        go_wp2
        go_ret
        exact ⟨by rw [HE.out]; rfl, rfl⟩
      · have HE := Lib.hid (show chk xs = 0 by
          unfold chk; rw [if_neg h1, if_neg]; rintro ⟨_, h2⟩; rw [hk] at h2; exact hz h2)
        have hz' : (nth xs k == 0) = false := by simpa using hz
        clear hz hk h0
        go_enter Try.func46, Try.ntmps46
        go_wp2
        go_ret
        exact ⟨by rw [HE.out]; rfl, rfl⟩

set_option maxHeartbeats 400000 in
theorem checked_any (A B : Option Addr) (xs ys : List Int) (c d : Nat) (w : World) (h : Rd w A c xs) (k : Rd w B d ys) :
    Calls Try.prog 54 #[.slice A xs.length c, .slice B ys.length d] w fun e w' => e = .returned (.int .i64 (chk2 xs ys)) ∧ w = w' := by
  have H := Lib.hid h
  have K := Lib.hid k
  clear h k
  by_cases hz : chk xs = 0
  · have HE := Lib.hid (show chk2 xs ys = chk ys from if_pos hz)
    have Hz := Lib.hid hz
    clear hz
    go_enter Try.func54, Try.ntmps54
    go_wp2_with fail
    refine (check_any _ _ _ _ H.out).mono ?_; rintro e w' ⟨rfl, rfl⟩
    rw [Hz.out]
    go_wp2_with fail
    refine (check_any _ _ _ _ K.out).mono ?_; rintro e w' ⟨rfl, rfl⟩
    go_wp2_with fail
    go_ret
    exact ⟨by rw [HE.out]; rfl, rfl⟩
  · have HE := Lib.hid (show chk2 xs ys = chk xs from if_neg hz)
    have hz' : (chk xs != 0) = true := by simpa using hz
    clear hz
    go_enter Try.func54, Try.ntmps54
    go_wp2_with fail
    refine (check_any _ _ _ _ H.out).mono ?_; rintro e w' ⟨rfl, rfl⟩
    go_wp2_with fail
    go_ret
    exact ⟨by rw [HE.out]; rfl, rfl⟩

/-- two numbers that may be are let by -/
theorem checked_ok (A B : Option Addr) (m n : Nat) (c d : Nat) (w : World) (h : Rd w A c (wd m)) (k : Rd w B d (wd n)) (hm : (wd m).length ≤ 8192) (hn : (wd n).length ≤ 8192) :
    Calls Try.prog 54 #[.slice A (wd m).length c, .slice B (wd n).length d] w fun e w' => e = .returned (.int .i64 0) ∧ w = w' := by
  have := checked_any A B _ _ c d w h k
  rw [show chk2 (wd m) (wd n) = 0 by unfold chk2; rw [chk_wd m hm, chk_wd n hn]; rfl] at this
  exact this

/-- noughts at the end are cut off a row of the call's own -/
theorem cut_own (A : Option Addr) (xs : List Int) (c base l : Nat) (w : World) (h : Own w base A c xs) (hl : xs.length = l) (hw : Wf xs) (n : Nat) (hv : val xs = n) :
    Calls Try.prog 62 #[.slice A l c] w fun e w' => e = .returned (.slice A (wd n).length c) ∧ Own w base A c (wd n) ∧ w = w' := by
  have ht : xs.take (tl xs xs.length) = wd n := by rw [tl_all hw, hv]; rfl
  have ht2 : tl xs xs.length = (wd n).length := by
    rw [← ht, List.length_take]; have := tl_le xs xs.length; omega
  have HO : Own w base A c (wd n) := by rw [← ht]; exact h.take _
  subst hl
  refine (cut_any _ _ _ _ h.rd).mono ?_
  rintro e w' ⟨rfl, rfl⟩
  exact ⟨by rw [ht2], HO, rfl⟩

set_option maxHeartbeats 400000 in
theorem told_ok (A : Option Addr) (xs : List Int) (c base l : Nat) (w : World) (h : Own w base A c xs) (hl : xs.length = l) (hw : Wf xs) (n : Nat) (hv : val xs = n) (hn : (wd n).length ≤ 8192) :
    Calls Try.prog 65 #[.slice A l c] w fun e w' => e = .returned (.tuple #[.slice A (wd n).length c, .int .i64 0]) ∧ Own w base A c (wd n) ∧ w = w' := by
  have H := Lib.hid (cut_own A xs c base l w h hl hw n hv)
  clear h hw hv hl
  go_enter Try.func65, Try.ntmps65
  go_wp2_with fail
  refine H.out.mono ?_; rintro e w' ⟨rfl, HO, rfl⟩
  have HO2 := Lib.hid HO
  clear HO
  go_wp2_with fail
  go_ret2
  exact ⟨rfl, HO2.out, rfl⟩

end Go.Proofs.Ytnhgagfkepmanaa
