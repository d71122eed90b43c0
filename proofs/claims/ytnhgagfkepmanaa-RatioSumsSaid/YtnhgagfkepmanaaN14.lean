/- nat.DivMod, nat.Uint64, nat.Gcd. -/
import Derived.Test.YtnhgagfkepmanaaN13
namespace Go.Proofs.Ytnhgagfkepmanaa
open Go Go.RowKit

theorem divide_any (A B : Option Addr) (m n c d : Nat) (w : World) (ha : Rd w A c (wd m)) (hb : Rd w B d (wd n)) (hn : n ≠ 0) (lm : (wd m).length ≤ 8192) :
    Calls Try.prog 56 #[.slice A (wd m).length c, .slice B (wd n).length d] w (Two w (m / n) (m % n)) := by
  have hl : (wd n).length ≠ 0 := fun e => hn (wd_len_zero.1 e)
  by_cases hlt : m < n
  · exact divide_less A B m n c d w ha hb hlt lm
  · by_cases h1 : (wd n).length = 1
    · exact divide_one A B m n c d w ha hb (by omega) h1 lm
    · exact divide_long A B m n c d w ha hb (by omega) (by omega) lm

/-- what DivMod leaves: two rows, apart, and no error -/
def Three (w : World) (x y : Nat) (e : Ending) (w' : World) : Prop := ∃ A c B d, e = .returned (.tuple #[.slice A (wd x).length c, .slice B (wd y).length d, .int .i64 0]) ∧ Own w' w.heap.size A c (wd x) ∧ Own w' w.heap.size B d (wd y) ∧ (∀ a b, A = some a → B = some b → a.block ≠ b.block) ∧ Ext w w'

set_option maxHeartbeats 1000000 in
theorem divMod_any (A B : Option Addr) (m n c d : Nat) (w : World) (ha : Rd w A c (wd m)) (hb : Rd w B d (wd n)) (hn : n ≠ 0) (lm : (wd m).length ≤ 8192) (ln : (wd n).length ≤ 8192) :
    Calls Try.prog 38 #[.slice A (wd m).length c, .slice B (wd n).length d] w (Three w (m / n) (m % n)) := by
  have HA := Lib.hid ha
  have HB := Lib.hid hb
  have hl : (wd n).length ≠ 0 := fun e => hn (wd_len_zero.1 e)
  have hl1 : (((wd n).length : Int) == 0) = false := beq_eq_false_iff_ne.2 (by omega)
  clear ha hb
  go_enter Try.func38, Try.ntmps38
  go_wp2_with fail
  refine (checked_ok _ _ _ _ _ _ _ HA.out HB.out (by omega) (by omega)).mono ?_; rintro e w' ⟨rfl, rfl⟩
  go_wp2_with fail
  refine (divide_any _ _ _ _ _ _ _ HA.out HB.out hn lm).mono ?_; rintro e w1 ⟨A1, c1, B1, d1, rfl, h1, h2, h3, h4⟩
  have H1 := Lib.hid h1
  have H2 := Lib.hid h2
  have H3 := Lib.hid h3
  have H4 := Lib.hid h4
  clear h1 h2 h3 h4
  go_wp2_with fail
  go_ret3
  exact ⟨_, _, _, _, rfl, H1.out, H2.out, H3.out, H4.out⟩

theorem wd_two (n : Nat) (h : (wd n).length ≤ 2) : n < 18446744073709551616 := by
  have h1 := nat_lt_of_len n 2 h
  have h2 : pw 2 = 18446744073709551616 := rfl
  omega
theorem wd_two' (n : Nat) (h : n < 18446744073709551616) : (wd n).length ≤ 2 := by
  apply wd_len_le
  have h2 : pw 2 = 18446744073709551616 := rfl
  omega

set_option maxHeartbeats 1000000 in
theorem uint64_any (A : Option Addr) (n c : Nat) (w : World) (ha : Rd w A c (wd n)) (hn : (wd n).length ≤ 2) :
    Calls Try.prog 57 #[.slice A (wd n).length c] w fun e w' => e = .returned (.tuple #[.int .u64 n, .bool true]) ∧ w = w' := by
  have HA := Lib.hid ha
  have HT := Lib.hid (tl_wd n)
  clear ha
  go_enter Try.func57, Try.ntmps57
  go_wp2_with fail
  refine (cut_any _ _ _ _ HA.out).mono ?_; rintro e w' ⟨rfl, rfl⟩
  rw [HT.out]
  go_wp2_with fail
  go_loop [4, 14] (fun x i => ∃ k : Nat, k ≤ (wd n).length ∧ x = .int .u64 (V (wd n) k) ∧ i = .int .i64 k) (fun _ i => (wd n).length - (intOf i).toNat)
  case atStart => exact ⟨0, by omega, by rw [V_zero], rfl⟩
  case round =>
    obtain ⟨k, hk, rfl, rfl⟩ := hrel
    by_cases hkn : k < (wd n).length
    · obtain ⟨a, rfl, hca⟩ := HA.out.at_ k hkn
      have bx := nth_wf (wf_wd n) k
      have HV := Lib.hid (V_succ (wd n) k)
      have hk01 : k = 0 ∨ k = 1 := by omega
      rcases hk01 with rfl | rfl
      · have hor : bits .or .u64 0 (nth (wd n) 0) = nth (wd n) 0 := by
          have := or_word 0 (nth (wd n) 0) (by omega) bx
          simpa using this
        rw [V_zero]
        rw [add0] at hca
        go_wp2_with fail
        go_round
        case rel => exact ⟨1, by omega, by rw [HV.out, V_zero, pw_zero]; go_num, by go_num⟩
        case measure => simp [intOf]; omega
      · have hb := V_lt (wf_wd n) 1
        have hb0 := V_nonneg (wf_wd n) 1
        rw [show pw 1 = 4294967296 from rfl] at hb HV
        have hor := or_high (V (wd n) 1) (nth (wd n) 1) ⟨hb0, hb⟩ bx
        obtain ⟨v, hv⟩ : ∃ v, v = V (wd n) 1 := ⟨_, rfl⟩
        rw [← hv] at hor hb hb0 HV ⊢
        clear hv
        rw [show a.add 1 = ⟨a.block, a.off + 1, none⟩ from rfl] at hca
        go_wp2_with fail
        go_round
        case rel => exact ⟨2, by omega, by rw [HV.out], by go_num⟩
        case measure => simp [intOf]; omega
    · have HE := Lib.hid (show V (wd n) k = n by rw [V_out _ _ (by omega), val_wd])
      go_wp2_with fail
      go_ret2
      exact ⟨by rw [← HE.out]; rfl, rfl⟩

theorem gcd_step (p q : Nat) : Nat.gcd q (p % q) = Nat.gcd p q := by rw [Nat.gcd_comm p q, Nat.gcd_rec q p, Nat.gcd_comm]
/-- what Gcd leaves -/
def One (w : World) (x : Nat) (e : Ending) (w' : World) : Prop := ∃ A c, e = .returned (.tuple #[.slice A (wd x).length c, .int .i64 0]) ∧ Own w' w.heap.size A c (wd x) ∧ Ext w w'

set_option maxHeartbeats 2000000 in
theorem gcd_any (A B : Option Addr) (m n c d : Nat) (w : World) (ha : Rd w A c (wd m)) (hb : Rd w B d (wd n)) (lm : (wd m).length ≤ 8192) (ln : (wd n).length ≤ 8192) :
    Calls Try.prog 37 #[.slice A (wd m).length c, .slice B (wd n).length d] w (One w (Nat.gcd m n)) := by
  have HA := Lib.hid ha
  have HB := Lib.hid hb
  clear ha hb
  go_enter Try.func37, Try.ntmps37
  go_wp2_with fail
  refine (checked_ok _ _ _ _ _ _ _ HA.out HB.out lm ln).mono ?_; rintro e w' ⟨rfl, rfl⟩
  go_wp2_with fail
  refine (clone_any _ _ _ _ HA.out (by omega)).mono ?_; rintro e w1 ⟨A1, c1, rfl, h1, hx1⟩
  have H1 := Lib.hid h1
  have HX1 := Lib.hid hx1
  clear h1 hx1
  go_wp2_with fail
  refine (clone_any _ _ _ _ (HB.out.ext HX1.out) (by omega)).mono ?_; rintro e w2 ⟨A2, c2, rfl, h2, hx2⟩
  have H2 := Lib.hid (h2.lower HX1.out.size)
  have H1 := Lib.hid (H1.out.ext hx2)
  have HX2 := Lib.hid (HX1.out.trans hx2)
  clear h2 hx2
  go_wp2_with fail
  go_loopg [7, 8] n (fun q x y wr => ∃ (p : Nat) (P Q : Option Addr) (cp cq : Nat), x = .slice P (wd p).length cp ∧ y = .slice Q (wd q).length cq ∧ Hid (Nat.gcd p q = Nat.gcd m n) ∧ (wd p).length ≤ 8192 ∧ (wd q).length ≤ 8192 ∧ Hid (Own wr w.heap.size P cp (wd p)) ∧ Hid (Own wr w.heap.size Q cq (wd q)) ∧ Hid (Ext w wr))
  case atStart => exact ⟨m, A1, A2, c1, c2, rfl, rfl, rfl, lm, ln, H1.out, H2.out, HX2.out⟩
  case round =>
    clear H1 H2 HX1 HX2
    obtain ⟨p, P, Q, cp, cq, rfl, rfl, hg, lp, lq, HP, HQ, HX⟩ := hrel
    obtain ⟨q, rfl⟩ : ∃ q, q = gk := ⟨_, rfl⟩
    have hgc := Lib.hid (gcd_step p q)
    by_cases h2 : 2 < (wd q).length
    · have hq0 : q ≠ 0 := fun e => by have := wd_len_zero.2 e; omega
      have hml : p % q < q := Nat.mod_lt p (by omega)
      have hml2 := wd_len_mono (show p % q ≤ q by omega)
      go_wp2_with fail
      refine (divide_any _ _ _ _ _ _ _ HP.out.rd HQ.out.rd hq0 lp).mono ?_; rintro e w3 ⟨A3, c3, B3, d3, rfl, h1, h2, h3, h4⟩
      have HQ3 := Lib.hid (HQ.out.ext h4)
      have HR3 := Lib.hid (h2.lower HX.out.size)
      have HX3 := Lib.hid (HX.out.trans h4)
      obtain ⟨r, hr⟩ : ∃ r, r = p % q := ⟨_, rfl⟩
      rw [← hr] at hml hml2 hgc HR3 ⊢
      clear h1 h2 h3 h4 hr
      go_wp2_with fail
      go_roundg r
      case measure => exact hml
      case rel => exact ⟨q, Q, B3, cq, d3, rfl, rfl, hgc.out.trans hg.out, lq, by omega, HQ3.out, HR3.out, HX3.out⟩
    · by_cases h0 : (wd q).length = 0
      · have hq0 : q = 0 := wd_len_zero.1 h0
        have HE := Lib.hid (show p = Nat.gcd m n by rw [← hg.out, hq0, Nat.gcd_zero_right])
        have hbe : (((wd q).length : Int) == 0) = true := beq_iff_eq.2 (by omega)
        clear hq0 h0
        go_wp2_with fail
        go_ret2
        exact ⟨P, cp, by rw [← HE.out]; rfl, by rw [← HE.out]; exact HP.out, HX.out⟩
      · have hq0 : q ≠ 0 := fun e => h0 (wd_len_zero.2 e)
        have hbe : (((wd q).length : Int) == 0) = false := beq_eq_false_iff_ne.2 (by omega)
        have hml : p % q < q := Nat.mod_lt p (by omega)
        have hml2 := wd_len_mono (show p % q ≤ q by omega)
        go_wp2_with fail
        refine (divide_any _ _ _ _ _ _ _ HP.out.rd HQ.out.rd hq0 lp).mono ?_; rintro e w3 ⟨A3, c3, B3, d3, rfl, k1, k2, k3, k4⟩
        have HQ3 := Lib.hid (HQ.out.ext k4)
        have HR3 := Lib.hid (k2.lower HX.out.size)
        have HX3 := Lib.hid (HX.out.trans k4)
        obtain ⟨r, hr⟩ : ∃ r, r = p % q := ⟨_, rfl⟩
        rw [← hr] at hml hml2 hgc HR3 ⊢
        clear k1 k2 k3 k4 hr h0
        go_wp2_with fail
        refine (uint64_any _ _ _ _ HQ3.out.rd (by omega)).mono ?_; rintro e w' ⟨rfl, rfl⟩
        go_wp2_with fail
        refine (uint64_any _ _ _ _ HR3.out.rd (by omega)).mono ?_; rintro e w' ⟨rfl, rfl⟩
        have bq := wd_two q (by omega)
        have br := wd_two r (by omega)
        have hgq := Lib.hid (hgc.out.trans hg.out)
        go_wp2_with fail
        go_loopg [13, 15] r (fun y a b wr => ∃ x : Nat, a = .int .u64 x ∧ b = .int .u64 y ∧ x < 18446744073709551616 ∧ y < 18446744073709551616 ∧ Hid (Nat.gcd x y = Nat.gcd m n) ∧ Hid (Ext w wr))
        case atStart => exact ⟨q, rfl, rfl, bq, br, hgq.out, HX3.out⟩
        case round =>
          clear HX3 HR3 HQ3 hgq
          obtain ⟨x, rfl, rfl, bx, by_, hg2, HX4⟩ := hrel
          obtain ⟨y, rfl⟩ : ∃ y, y = gk := ⟨_, rfl⟩
          by_cases hy : y = 0
          · have HE := Lib.hid (show x = Nat.gcd m n by rw [← hg2.out, hy, Nat.gcd_zero_right])
            have hb0 : ((y : Int) != 0) = false := by rw [bne_eq_false_iff_eq]; omega
            clear hy
            go_wp2_with fail
            refine (of_any x _ bx).mono ?_; rintro e w5 ⟨A5, c5, rfl, h5, hx5⟩
            have H5 := Lib.hid (h5.lower HX4.out.size)
            have HX5 := Lib.hid (HX4.out.trans hx5)
            clear h5 hx5
            go_wp2_with fail
            go_ret2
            exact ⟨A5, c5, by rw [← HE.out]; rfl, by rw [← HE.out]; exact H5.out, HX5.out⟩
          · have hb0 : ((y : Int) != 0) = true := by rw [bne_iff_ne]; omega
            have hbe0 : ((y : Int) == 0) = false := beq_eq_false_iff_ne.2 (by omega)
            have hmy : x % y < y := Nat.mod_lt x (by omega)
            have hgs := Lib.hid ((gcd_step x y).trans hg2.out)
            have HC := Lib.hid (show ((x % y : Nat) : Int) = (x : Int) % (y : Int) from Int.natCast_emod x y)
            clear hy
            go_wp2_with fail
            go_quiet (fail)
            go_wp2_with fail
            go_roundg (x % y)
            case measure => exact hmy
            case rel => exact ⟨y, rfl, by rw [HC.out], by_, by omega, hgs.out, HX4.out.drewN _⟩

end Go.Proofs.Ytnhgagfkepmanaa
