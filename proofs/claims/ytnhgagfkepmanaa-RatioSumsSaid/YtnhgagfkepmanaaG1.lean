/- The reference's looks at words: Check, both, told, Trim, word, Compare, Of. -/
import Derived.Test.YtnhgagfkepmanaaR3
namespace Go.Proofs.Ytnhgagfkepmanaa
open Go Go.RowKit

set_option maxHeartbeats 400000 in
theorem gcheck_any (A : Option Addr) (xs : List Int) (c : Nat) (w : World) (h : Rd w A c xs) :
    Calls Try.prog 78 #[.slice A xs.length c] w fun e w' => e = .returned (.int .i64 (chk xs)) ∧ w = w' := by
  have hl := h.lim
  have hc := h.cap
  have HA := Lib.hid h.at_
  clear h
  by_cases h1 : 8192 < xs.length
  · have HE := Lib.hid (show chk xs = 3 by unfold chk; rw [if_pos h1])
    go_enter Try.func78, Try.ntmps78
    go_wp2
    go_ret
    exact ⟨by rw [HE.out]; rfl, rfl⟩
  · by_cases h0 : xs.length = 0
    · have HE := Lib.hid (show chk xs = 0 by unfold chk; rw [if_neg h1, if_neg]; rintro ⟨h2, _⟩; exact h2 (List.eq_nil_of_length_eq_zero h0))
      have hn' : ¬ (0 < xs.length) := by omega
      clear h0
      go_enter Try.func78, Try.ntmps78
      go_wp2
      go_ret
      exact ⟨by rw [HE.out]; rfl, rfl⟩
    · obtain ⟨k, hk⟩ := Nat.exists_eq_succ_of_ne_zero h0
      obtain ⟨a, rfl, hcell⟩ := HA.out k (by omega)
      have hp : 0 < xs.length := by omega
      have hi : ((xs.length : Int) - 1).toNat = k := by omega
      by_cases hz : nth xs k = 0
      · have HE := Lib.hid (show chk xs = 11 by
          unfold chk; rw [if_neg h1, if_pos ⟨fun e => by simp [e] at hp, by rw [hk]; exact hz⟩])
        rw [hz] at hcell
        clear hz hk h0
        go_enter Try.func78, Try.ntmps78
        go_wp2
        go_ret
        exact ⟨by rw [HE.out]; rfl, rfl⟩
      · have HE := Lib.hid (show chk xs = 0 by
          unfold chk; rw [if_neg h1, if_neg]; rintro ⟨_, h2⟩; rw [hk] at h2; exact hz h2)
        have hz' : (nth xs k == 0) = false := by simpa using hz
        clear hz hk h0
        go_enter Try.func78, Try.ntmps78
        go_wp2
        go_ret
        exact ⟨by rw [HE.out]; rfl, rfl⟩

set_option maxHeartbeats 400000 in
theorem gboth_ok (A B : Option Addr) (m n : Nat) (c d : Nat) (w : World) (h : Rd w A c (wd m)) (k : Rd w B d (wd n)) (hm : (wd m).length ≤ 8192) (hn : (wd n).length ≤ 8192) :
    Calls Try.prog 58 #[.slice A (wd m).length c, .slice B (wd n).length d] w fun e w' => e = .returned (.int .i64 0) ∧ w = w' := by
  have H := Lib.hid (gcheck_any A _ c w h)
  have K := Lib.hid (gcheck_any B _ d w k)
  rw [chk_wd m hm] at H
  rw [chk_wd n hn] at K
  clear h k
  go_enter Try.func58, Try.ntmps58
  go_wp2_with fail
  refine H.out.mono ?_; rintro e w' ⟨rfl, rfl⟩
  go_wp2_with fail
  refine K.out.mono ?_; rintro e w' ⟨rfl, rfl⟩
  go_wp2_with fail
  go_ret
  exact ⟨rfl, rfl⟩

theorem gtold_ok (A : Option Addr) (n c : Nat) (w : World) (hn : n ≤ 8192) :
    Calls Try.prog 59 #[.slice A n c] w fun e w' => e = .returned (.tuple #[.slice A n c, .int .i64 0]) ∧ w = w' := by
  go_enter Try.func59, Try.ntmps59
  go_wp2
  go_ret2
  exact ⟨rfl, rfl⟩

set_option maxHeartbeats 400000 in
theorem gtrim_any (A : Option Addr) (xs : List Int) (c l n : Nat) (w : World) (h : Rd w A c xs) (hl : xs.length = l) (hw : Wf xs) (hv : val xs = n) (hm : l ≤ 35184372088832) :
    Calls Try.prog 63 #[.slice A l c] w fun e w' => ∃ A' c', e = .returned (.slice A' (wd n).length c') ∧ Own w' w.heap.size A' c' (wd n) ∧ Ext w w' := by
  subst hl
  have ht : xs.take (tl xs xs.length) = wd n := by rw [tl_all hw, hv]; rfl
  have hlim := h.lim
  have hc := h.cap
  have H := Lib.hid h
  have HTK := Lib.hid ht
  clear h ht hw hv
  go_enter Try.func63, Try.ntmps63
  go_wp2
  go_loop [3] (fun i => ∃ k : Nat, k ≤ xs.length ∧ Hid (tl xs k = tl xs xs.length) ∧ i = .int .i64 k) (fun i => (intOf i).toNat)
  case atStart => exact ⟨xs.length, by omega, rfl, rfl⟩
  case round =>
    obtain ⟨k, hk, hj, rfl⟩ := hrel
    have hfin : nth xs (k - 1) ≠ 0 ∨ k = 0 → k = tl xs xs.length := by
      intro h
      rw [← hj.out]
      cases k with
      | zero => rfl
      | succ k =>
        rcases h with h | h
        · exact (tl_here xs k h).symm
        · omega
    have hgo : nth xs (k - 1) = 0 ∧ 0 < k ∨ (nth xs (k - 1) ≠ 0 ∨ k = 0) := by
      by_cases h1 : nth xs (k - 1) = 0
      · by_cases h2 : k = 0
        · exact .inr (.inr h2)
        · exact .inl ⟨h1, by omega⟩
      · exact .inr (.inl h1)
    rcases hgo with ⟨hz, hp⟩ | hstop
    · obtain ⟨j, rfl⟩ : ∃ j, k = j + 1 := ⟨k - 1, by omega⟩
      obtain ⟨a, rfl, hcell⟩ := H.out.at_ j (by omega)
      simp only [Nat.add_sub_cancel] at hz
      have HJ := Lib.hid ((tl_zero xs j hz).symm.trans hj.out)
      rw [hz] at hcell
      clear hz hfin
      go_wp2
      go_round
      case rel => exact ⟨j, by omega, HJ.out, by go_num⟩
      case measure => simp [intOf]
    · have HK := Lib.hid (hfin hstop)
      have HTa := Lib.hid (show xs.take k = wd n by rw [HK.out]; exact HTK.out)
      have HLk := Lib.hid (show (wd n).length = k by rw [← HTa.out, List.length_take]; omega)
      have HRd := Lib.hid (show Rd w A c (wd n) by rw [← HTa.out]; exact H.out.take k)
      clear hfin
      have hst : k = 0 ∨ (∃ j a, k = j + 1 ∧ A = some a ∧ w.cell? (a.add j) = some (.int .u32 (nth xs j)) ∧ (nth xs j == 0) = false) := by
        cases k with
        | zero => exact .inl rfl
        | succ j =>
          refine .inr ⟨j, ?_⟩
          obtain ⟨a, ha, hcell⟩ := H.out.at_ j (by omega)
          refine ⟨a, rfl, ha, hcell, ?_⟩
          rcases hstop with h | h
          · exact beq_eq_false_iff_ne.2 h
          · omega
      clear hstop
      rcases hst with rfl | ⟨j, a, rfl, rfl, hcell, hz'⟩
      · go_wp2_with (at_builtin; refine wpList_app rfl _ _ rfl w.heap.size none 0 [] 0 rfl rfl (Own.nil _ _) _ _ (wd n) _ HLk.out rfl HRd.out (by omega) (Nat.le_refl _) ?_; intro A' c' w1 hO hg)
        have HO := Lib.hid hO
        have HX : Hid (Ext w w1) := (Ext.refl w).grownNone hg
        clear hO hg
        go_wp2_with fail
        go_ret
        exact ⟨A', c', by rw [HLk.out]; simp, HO.out, HX.out⟩
      · go_wp2_with (at_builtin; refine wpList_app rfl _ _ rfl w.heap.size none 0 [] 0 rfl rfl (Own.nil _ _) _ _ (wd n) _ HLk.out rfl HRd.out (by omega) (Nat.le_refl _) ?_; intro A' c' w1 hO hg)
        have HO := Lib.hid hO
        have HX : Hid (Ext w w1) := (Ext.refl w).grownNone hg
        clear hO hg
        go_wp2_with fail
        go_ret
        exact ⟨A', c', by rw [HLk.out]; simp, HO.out, HX.out⟩

set_option maxHeartbeats 400000 in
theorem gword_any (A : Option Addr) (xs : List Int) (c l k : Nat) (w : World) (h : Rd w A c xs) (hl : xs.length = l) :
    Calls Try.prog 81 #[.slice A l c, .int .i64 k] w fun e w' => e = .returned (.int .u32 (nth xs k)) ∧ w = w' := by
  subst hl
  have hlim := h.lim
  by_cases hk : k < xs.length
  · obtain ⟨a, rfl, hcell⟩ := h.at_ k hk
    clear h
    go_enter Try.func81, Try.ntmps81
    go_wp2
    go_ret
    exact ⟨rfl, rfl⟩
  · have HE := Lib.hid (nth_out xs k (by omega))
    clear h
    go_enter Try.func81, Try.ntmps81
    go_wp2
    go_ret
    exact ⟨by rw [HE.out]; rfl, rfl⟩

end Go.Proofs.Ytnhgagfkepmanaa
