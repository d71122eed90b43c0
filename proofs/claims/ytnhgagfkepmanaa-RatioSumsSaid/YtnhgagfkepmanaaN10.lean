/- nat.guess. -/
import Derived.Test.YtnhgagfkepmanaaN9
import Derived.Test.YtnhgagfkepmanaaP2
namespace Go.Proofs.Ytnhgagfkepmanaa
open Go Go.RowKit

set_option maxHeartbeats 2000000 in
theorem guess_any (A B : Option Addr) (us vs : List Int) (n c d : Nat) (w : World) (ha : Rd w A c us) (hb : Rd w B d vs) (hul : us.length = n + 3) (hvl : vs.length = n + 2) (hu : Wf us) (hv : Wf vs) (htop : 2147483648 ≤ nth vs (n + 1)) (hlt : V us (n + 3) < V vs (n + 2) * 4294967296) (hn : n ≤ 8192) (L : Nat) (hL : L = n + 2) :
    Calls Try.prog 74 #[.slice A (L + 1) c, .slice B L d] w fun e w' => ∃ q : Nat, q < 4294967296 ∧ e = .returned (.int .u64 q) ∧ V us (n + 3) < (q + 1) * V vs (n + 2) ∧ q * V vs (n + 2) ≤ V us (n + 3) + V vs (n + 2) ∧ Ext w w' := by
  have G := Lib.hid (Guess.of_words us vs n hu hv htop hlt)
  obtain ⟨a, rfl, ca2⟩ := ha.at_ (n + 2) (by omega)
  obtain ⟨b, rfl, cb1⟩ := hb.at_ (n + 1) (by omega)
  have ca1 := ha.cell (n + 1) (by omega)
  have ca0 := ha.cell n (by omega)
  have cb0 := hb.cell n (by omega)
  have ba2 := nth_wf hu (n + 2)
  have ba1 := nth_wf hu (n + 1)
  have ba0 := nth_wf hu n
  have bb1 := nth_wf hv (n + 1)
  have bb0 := nth_wf hv n
  obtain ⟨x0, hx0⟩ : ∃ x, x = nth us n := ⟨_, rfl⟩
  obtain ⟨x1, hx1⟩ : ∃ x, x = nth us (n + 1) := ⟨_, rfl⟩
  obtain ⟨x2, hx2⟩ : ∃ x, x = nth us (n + 2) := ⟨_, rfl⟩
  obtain ⟨v2, hv2⟩ : ∃ x, x = nth vs n := ⟨_, rfl⟩
  obtain ⟨v1, hv1⟩ : ∃ x, x = nth vs (n + 1) := ⟨_, rfl⟩
  rw [← hx0] at ca0 ba0
  rw [← hx1] at ca1 ba1
  rw [← hx2] at ca2 ba2
  rw [← hv2] at cb0 bb0
  rw [← hv1] at cb1 bb1 htop
  rw [← hx0, ← hx1, ← hx2, ← hv1, ← hv2] at G
  have HB := Lib.hid G.out.begin
  have ho1 := or_word x2 x1 ba2 ba1
  obtain ⟨top, ht⟩ : ∃ t, t = x2 * 4294967296 + x1 := ⟨_, rfl⟩
  have tb : 0 ≤ top ∧ top ≤ 18446744073709551615 := by omega
  have HT := Lib.hid ht
  rw [← ht] at G HB
  have hdz : (v1 == 0) = false := beq_eq_false_iff_ne.2 (by omega)
  clear ha hb hu hv hul hvl hx0 hx1 hx2 hv1 hv2 hlt
  rw [← ht] at ho1
  clear ht
  obtain ⟨K1, hK1⟩ : ∃ K, K = n + 1 := ⟨_, rfl⟩
  have w1 : IntKind.i64.wrap ((L : Int) - 1) = K1 := by rw [IntWalk.i64_in _ (by omega)]; omega
  have w2 : IntKind.i64.wrap ((L : Int) - 2) = n := by rw [IntWalk.i64_in _ (by omega)]; omega
  have b1 : (K1 : Int) < (L : Int) := by omega
  have b2 : (n : Int) < (L : Int) := by omega
  have b3 : (K1 : Int) < (L : Int) + 1 := by omega
  have b4 : (n : Int) < (L : Int) + 1 := by omega
  rw [← hL] at ca2
  rw [← hK1] at ca1 cb1
  have HL := Lib.hid hL
  clear hL hK1
  go_enter Try.func74, Try.ntmps74
  go_wp2_with fail
  go_quiet (fail)
  go_wp2_with fail
  go_quiet (fail)
  go_wp2_with fail
  go_loopw [7, 8] (fun qq rr wr => ∃ q r : Int, 0 ≤ q ∧ q ≤ 4294967297 ∧ 0 ≤ r ∧ r < 4294967296 ∧ Hid (q * v1 + r = top) ∧ Hid (V us (n + 3) < (q + 1) * V vs (n + 2)) ∧ qq = .int .u64 q ∧ rr = .int .u64 r ∧ Hid (Ext w wr)) (fun qq _ _ => (intOf qq).toNat)
  case atStart => exact ⟨_, _, HB.out.2.2.1, HB.out.2.1, HB.out.2.2.2.2.1, HB.out.2.2.2.2.2, HB.out.2.2.2.1, HB.out.1, rfl, rfl, ((Ext.refl w).drewN _).drewN _⟩
  case round =>
    obtain ⟨q, r, hq0, hq1, hr0, hr1, he, hlt, rfl, rfl, HX⟩ := hrel
    have ca0' := HX.out.cell ca0
    have cb0' := HX.out.cell cb0
    have cb1' := HX.out.cell cb1
    clear ca0 cb0 cb1 ca1 ca2
    have ho2 := or_word r x0 ⟨hr0, hr1⟩ ba0
    have pq0 : 0 ≤ q * v2 := Int.mul_nonneg hq0 bb0.1
    have pq1 : q * v2 ≤ 18446744073709551615 := by
      have : q * v2 ≤ 4294967297 * 4294967295 := Int.mul_le_mul hq1 (by omega) bb0.1 (by omega)
      omega
    by_cases hbig : 4294967296 ≤ q
    · have hg1 : (q / 4294967296 != 0) = true := by rw [bne_iff_ne]; omega
      have hls := Lib.hid (G.out.less q r hq0 he.out (.inl hbig))
      by_cases hr2 : 4294967296 ≤ r + v1
      · have hg2 : ((r + v1) / 4294967296 != 0) = true := by rw [bne_iff_ne]; omega
        have hst := Lib.hid (G.out.stop (q - 1) (r + v1) (by omega) (by omega) (by have := he.out; rw [Int.sub_mul, Int.one_mul]; omega) hr2)
        go_wp2_with fail
        go_quiet (fail)
        go_wp2_with fail
        go_ret
        exact ⟨(q - 1).toNat, by have := hst.out.1; omega, by rw [Int.toNat_of_nonneg (by omega)]; rfl, by rw [Int.toNat_of_nonneg (by omega), Int.sub_add_cancel]; exact hls.out, by rw [Int.toNat_of_nonneg (by omega)]; exact hst.out.2, HX.out.drewN _⟩
      · have hg2 : ((r + v1) / 4294967296 != 0) = false := by rw [bne_eq_false_iff_eq]; omega
        go_wp2_with fail
        go_quiet (fail)
        go_wp2_with fail
        exact ⟨⟨q - 1, r + v1, by omega, by omega, by omega, by omega, by show _ = _; have := he.out; rw [Int.sub_mul, Int.one_mul]; omega, by show _ < _; rw [Int.sub_add_cancel]; exact hls.out, rfl, rfl, HX.out.drewN _⟩, by simp [intOf]; omega⟩
    · have hg1 : (q / 4294967296 != 0) = false := by rw [bne_eq_false_iff_eq]; omega
      by_cases hbg : r * 4294967296 + x0 < q * v2
      · have hq2 : 1 ≤ q := by
          have : q ≠ 0 := fun e => by subst e; rw [Int.zero_mul] at hbg; omega
          omega
        have hls := Lib.hid (G.out.less q r hq0 he.out (.inr hbg))
        by_cases hr2 : 4294967296 ≤ r + v1
        · have hg2 : ((r + v1) / 4294967296 != 0) = true := by rw [bne_iff_ne]; omega
          have hst := Lib.hid (G.out.stop (q - 1) (r + v1) (by omega) (by omega) (by have := he.out; rw [Int.sub_mul, Int.one_mul]; omega) hr2)
          go_wp2_with fail
          go_quiet (fail)
          go_wp2_with fail
          go_ret
          exact ⟨(q - 1).toNat, by have := hst.out.1; omega, by rw [Int.toNat_of_nonneg (by omega)]; rfl, by rw [Int.toNat_of_nonneg (by omega), Int.sub_add_cancel]; exact hls.out, by rw [Int.toNat_of_nonneg (by omega)]; exact hst.out.2, HX.out.drewN _⟩
        · have hg2 : ((r + v1) / 4294967296 != 0) = false := by rw [bne_eq_false_iff_eq]; omega
          go_wp2_with fail
          go_quiet (fail)
          go_wp2_with fail
          exact ⟨⟨q - 1, r + v1, by omega, by omega, by omega, by omega, by show _ = _; have := he.out; rw [Int.sub_mul, Int.one_mul]; omega, by show _ < _; rw [Int.sub_add_cancel]; exact hls.out, rfl, rfl, HX.out.drewN _⟩, by simp [intOf]; omega⟩
      · have hgd := Lib.hid (G.out.good q r hq0 (by omega) he.out (by omega))
        go_wp2_with fail
        go_quiet (fail)
        go_wp2_with fail
        go_ret
        exact ⟨q.toNat, by omega, by rw [Int.toNat_of_nonneg hq0]; rfl, by rw [Int.toNat_of_nonneg hq0]; exact hlt.out, by rw [Int.toNat_of_nonneg hq0]; exact hgd.out, HX.out.drewN _⟩

end Go.Proofs.Ytnhgagfkepmanaa
