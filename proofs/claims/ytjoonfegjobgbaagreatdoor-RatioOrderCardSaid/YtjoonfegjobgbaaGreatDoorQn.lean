/- Texts of this claim, joined: N14 R1 K1 K2 K3a K4 K5 V1 V2 R4 R5 K6 K9 K7a T1 R6. -/
import Derived.Deep.DeepAppendRoom
import Derived.Deep.RegionHeldLaw
import Derived.Deep.AppendLies
import Derived.Deep.RegionHeld3
import Derived.Test.YtjoonfegjobgbaaGreatDoorQm
set_option linter.unusedVariables false
set_option linter.unusedSimpArgs false
set_option maxRecDepth 100000
namespace Go.Proofs.YtjoonfegjobgbaaGreatDoor
open Go Go.RowKit
theorem divide_any (A B : Option Addr) (m n c d : Nat) (w : World) (ha : Rd w A c (wd m)) (hb : Rd w B d (wd n)) (hn : n ≠ 0) (lm : (wd m).length ≤ 8192) :
    Calls Tryz.prog 140 #[.slice A (wd m).length c, .slice B (wd n).length d] w (Two w (m / n) (m % n)) := by
  have hl : (wd n).length ≠ 0 := fun e => hn (wd_len_zero.1 e)
  by_cases hlt : m < n
  · exact divide_less A B m n c d w ha hb hlt lm
  · by_cases h1 : (wd n).length = 1
    · exact divide_one A B m n c d w ha hb (by omega) h1 lm
    · exact divide_long A B m n c d w ha hb (by omega) (by omega) lm
def Three (w : World) (x y : Nat) (e : Ending) (w' : World) : Prop := ∃ A c B d, e = .returned (.tuple #[.slice A (wd x).length c, .slice B (wd y).length d, .int .i64 0]) ∧ Own w' w.heap.size A c (wd x) ∧ Own w' w.heap.size B d (wd y) ∧ (∀ a b, A = some a → B = some b → a.block ≠ b.block) ∧ Ext w w'
set_option maxHeartbeats 1000000 in
theorem divMod_any (A B : Option Addr) (m n c d : Nat) (w : World) (ha : Rd w A c (wd m)) (hb : Rd w B d (wd n)) (hn : n ≠ 0) (lm : (wd m).length ≤ 8192) (ln : (wd n).length ≤ 8192) :
    Calls Tryz.prog 88 #[.slice A (wd m).length c, .slice B (wd n).length d] w (Three w (m / n) (m % n)) := by
  have HA := Lib.hid ha
  have HB := Lib.hid hb
  have hl : (wd n).length ≠ 0 := fun e => hn (wd_len_zero.1 e)
  have hl1 : (((wd n).length : Int) == 0) = false := beq_eq_false_iff_ne.2 (by omega)
  clear ha hb
  go_enter Tryz.func88, Tryz.ntmps88
  go_wp2_with fail
  refine (checked_ok _ _ _ _ _ _ _ HA.out HB.out (by omega) (by omega)).mono ?_; rintro e w' ⟨rfl, rfl⟩
  go_wp2_with fail
  refine (divide_any _ _ _ _ _ _ _ HA.out HB.out hn lm).mono ?_; rintro e w1 ⟨A1, c1, B1, d1, rfl, h1, h2, h3, h4⟩
  have H1 := Lib.hid h1
  have H2 := Lib.hid h2
  have H3 := Lib.hid h3
  have H4 := Lib.hid h4
  clear h1 h2 h3 h4
  go_wp2_with fail
  go_ret3
  exact ⟨_, _, _, _, rfl, H1.out, H2.out, H3.out, H4.out⟩
theorem wd_two (n : Nat) (h : (wd n).length ≤ 2) : n < 18446744073709551616 := by
  have h1 := nat_lt_of_len n 2 h
  have h2 : pw 2 = 18446744073709551616 := rfl
  omega
theorem wd_two' (n : Nat) (h : n < 18446744073709551616) : (wd n).length ≤ 2 := by
  apply wd_len_le
  have h2 : pw 2 = 18446744073709551616 := rfl
  omega
set_option maxHeartbeats 1000000 in
theorem uint64_any (A : Option Addr) (n c : Nat) (w : World) (ha : Rd w A c (wd n)) (hn : (wd n).length ≤ 2) :
    Calls Tryz.prog 141 #[.slice A (wd n).length c] w fun e w' => e = .returned (.tuple #[.int .u64 n, .bool true]) ∧ w = w' := by
  have HA := Lib.hid ha
  have HT := Lib.hid (tl_wd n)
  clear ha
  go_enter Tryz.func141, Tryz.ntmps141
  go_wp2_with fail
  refine (cut_any _ _ _ _ HA.out).mono ?_; rintro e w' ⟨rfl, rfl⟩
  rw [HT.out]
  go_wp2_with fail
  go_loop [4, 14] (fun x i => ∃ k : Nat, k ≤ (wd n).length ∧ x = .int .u64 (V (wd n) k) ∧ i = .int .i64 k) (fun _ i => (wd n).length - (intOf i).toNat)
  case atStart => exact ⟨0, by omega, by rw [V_zero], rfl⟩
  case round =>
    obtain ⟨k, hk, rfl, rfl⟩ := hrel
    by_cases hkn : k < (wd n).length
    · obtain ⟨a, rfl, hca⟩ := HA.out.at_ k hkn
      have bx := nth_wf (wf_wd n) k
      have HV := Lib.hid (V_succ (wd n) k)
      have hk01 : k = 0 ∨ k = 1 := by omega
      rcases hk01 with rfl | rfl
      · have hor : bits .or .u64 0 (nth (wd n) 0) = nth (wd n) 0 := by
          have := or_word 0 (nth (wd n) 0) (by omega) bx
          simpa using this
        rw [V_zero]
        rw [add0] at hca
        go_wp2_with fail
        go_round
        case rel => exact ⟨1, by omega, by rw [HV.out, V_zero, pw_zero]; go_num, by go_num⟩
        case measure => simp [intOf]; omega
      · have hb := V_lt (wf_wd n) 1
        have hb0 := V_nonneg (wf_wd n) 1
        rw [show pw 1 = 4294967296 from rfl] at hb HV
        have hor := or_high (V (wd n) 1) (nth (wd n) 1) ⟨hb0, hb⟩ bx
        obtain ⟨v, hv⟩ : ∃ v, v = V (wd n) 1 := ⟨_, rfl⟩
        rw [← hv] at hor hb hb0 HV ⊢
        clear hv
        rw [show a.add 1 = ⟨a.block, a.off + 1, none⟩ from rfl] at hca
        go_wp2_with fail
        go_round
        case rel => exact ⟨2, by omega, by rw [HV.out], by go_num⟩
        case measure => simp [intOf]; omega
    · have HE := Lib.hid (show V (wd n) k = n by rw [V_out _ _ (by omega), val_wd])
      go_wp2_with fail
      go_ret2
      exact ⟨by rw [← HE.out]; rfl, rfl⟩
theorem gcd_step (p q : Nat) : Nat.gcd q (p % q) = Nat.gcd p q := by rw [Nat.gcd_comm p q, Nat.gcd_rec q p, Nat.gcd_comm]
def One (w : World) (x : Nat) (e : Ending) (w' : World) : Prop := ∃ A c, e = .returned (.tuple #[.slice A (wd x).length c, .int .i64 0]) ∧ Own w' w.heap.size A c (wd x) ∧ Ext w w'
set_option maxHeartbeats 2000000 in
theorem gcd_any (A B : Option Addr) (m n c d : Nat) (w : World) (ha : Rd w A c (wd m)) (hb : Rd w B d (wd n)) (lm : (wd m).length ≤ 8192) (ln : (wd n).length ≤ 8192) :
    Calls Tryz.prog 87 #[.slice A (wd m).length c, .slice B (wd n).length d] w (One w (Nat.gcd m n)) := by
  have HA := Lib.hid ha
  have HB := Lib.hid hb
  clear ha hb
  go_enter Tryz.func87, Tryz.ntmps87
  go_wp2_with fail
  refine (checked_ok _ _ _ _ _ _ _ HA.out HB.out lm ln).mono ?_; rintro e w' ⟨rfl, rfl⟩
  go_wp2_with fail
  refine (clone_any _ _ _ _ HA.out (by omega)).mono ?_; rintro e w1 ⟨A1, c1, rfl, h1, hx1⟩
  have H1 := Lib.hid h1
  have HX1 := Lib.hid hx1
  clear h1 hx1
  go_wp2_with fail
  refine (clone_any _ _ _ _ (HB.out.ext HX1.out) (by omega)).mono ?_; rintro e w2 ⟨A2, c2, rfl, h2, hx2⟩
  have H2 := Lib.hid (h2.lower HX1.out.size)
  have H1 := Lib.hid (H1.out.ext hx2)
  have HX2 := Lib.hid (HX1.out.trans hx2)
  clear h2 hx2
  go_wp2_with fail
  go_loopg [7, 8] n (fun q x y wr => ∃ (p : Nat) (P Q : Option Addr) (cp cq : Nat), x = .slice P (wd p).length cp ∧ y = .slice Q (wd q).length cq ∧ Hid (Nat.gcd p q = Nat.gcd m n) ∧ (wd p).length ≤ 8192 ∧ (wd q).length ≤ 8192 ∧ Hid (Own wr w.heap.size P cp (wd p)) ∧ Hid (Own wr w.heap.size Q cq (wd q)) ∧ Hid (Ext w wr))
  case atStart => exact ⟨m, A1, A2, c1, c2, rfl, rfl, rfl, lm, ln, H1.out, H2.out, HX2.out⟩
  case round =>
    clear H1 H2 HX1 HX2
    obtain ⟨p, P, Q, cp, cq, rfl, rfl, hg, lp, lq, HP, HQ, HX⟩ := hrel
    obtain ⟨q, rfl⟩ : ∃ q, q = gk := ⟨_, rfl⟩
    have hgc := Lib.hid (gcd_step p q)
    by_cases h2 : 2 < (wd q).length
    · have hq0 : q ≠ 0 := fun e => by have := wd_len_zero.2 e; omega
      have hml : p % q < q := Nat.mod_lt p (by omega)
      have hml2 := wd_len_mono (show p % q ≤ q by omega)
      go_wp2_with fail
      refine (divide_any _ _ _ _ _ _ _ HP.out.rd HQ.out.rd hq0 lp).mono ?_; rintro e w3 ⟨A3, c3, B3, d3, rfl, h1, h2, h3, h4⟩
      have HQ3 := Lib.hid (HQ.out.ext h4)
      have HR3 := Lib.hid (h2.lower HX.out.size)
      have HX3 := Lib.hid (HX.out.trans h4)
      obtain ⟨r, hr⟩ : ∃ r, r = p % q := ⟨_, rfl⟩
      rw [← hr] at hml hml2 hgc HR3 ⊢
      clear h1 h2 h3 h4 hr
      go_wp2_with fail
      go_roundg r
      case measure => exact hml
      case rel => exact ⟨q, Q, B3, cq, d3, rfl, rfl, hgc.out.trans hg.out, lq, by omega, HQ3.out, HR3.out, HX3.out⟩
    · by_cases h0 : (wd q).length = 0
      · have hq0 : q = 0 := wd_len_zero.1 h0
        have HE := Lib.hid (show p = Nat.gcd m n by rw [← hg.out, hq0, Nat.gcd_zero_right])
        have hbe : (((wd q).length : Int) == 0) = true := beq_iff_eq.2 (by omega)
        clear hq0 h0
        go_wp2_with fail
        go_ret2
        exact ⟨P, cp, by rw [← HE.out]; rfl, by rw [← HE.out]; exact HP.out, HX.out⟩
      · have hq0 : q ≠ 0 := fun e => h0 (wd_len_zero.2 e)
        have hbe : (((wd q).length : Int) == 0) = false := beq_eq_false_iff_ne.2 (by omega)
        have hml : p % q < q := Nat.mod_lt p (by omega)
        have hml2 := wd_len_mono (show p % q ≤ q by omega)
        go_wp2_with fail
        refine (divide_any _ _ _ _ _ _ _ HP.out.rd HQ.out.rd hq0 lp).mono ?_; rintro e w3 ⟨A3, c3, B3, d3, rfl, k1, k2, k3, k4⟩
        have HQ3 := Lib.hid (HQ.out.ext k4)
        have HR3 := Lib.hid (k2.lower HX.out.size)
        have HX3 := Lib.hid (HX.out.trans k4)
        obtain ⟨r, hr⟩ : ∃ r, r = p % q := ⟨_, rfl⟩
        rw [← hr] at hml hml2 hgc HR3 ⊢
        clear k1 k2 k3 k4 hr h0
        go_wp2_with fail
        refine (uint64_any _ _ _ _ HQ3.out.rd (by omega)).mono ?_; rintro e w' ⟨rfl, rfl⟩
        go_wp2_with fail
        refine (uint64_any _ _ _ _ HR3.out.rd (by omega)).mono ?_; rintro e w' ⟨rfl, rfl⟩
        have bq := wd_two q (by omega)
        have br := wd_two r (by omega)
        have hgq := Lib.hid (hgc.out.trans hg.out)
        go_wp2_with fail
        go_loopg [13, 15] r (fun y a b wr => ∃ x : Nat, a = .int .u64 x ∧ b = .int .u64 y ∧ x < 18446744073709551616 ∧ y < 18446744073709551616 ∧ Hid (Nat.gcd x y = Nat.gcd m n) ∧ Hid (Ext w wr))
        case atStart => exact ⟨q, rfl, rfl, bq, br, hgq.out, HX3.out⟩
        case round =>
          clear HX3 HR3 HQ3 hgq
          obtain ⟨x, rfl, rfl, bx, by_, hg2, HX4⟩ := hrel
          obtain ⟨y, rfl⟩ : ∃ y, y = gk := ⟨_, rfl⟩
          by_cases hy : y = 0
          · have HE := Lib.hid (show x = Nat.gcd m n by rw [← hg2.out, hy, Nat.gcd_zero_right])
            have hb0 : ((y : Int) != 0) = false := by rw [bne_eq_false_iff_eq]; omega
            clear hy
            go_wp2_with fail
            refine (of_any x _ bx).mono ?_; rintro e w5 ⟨A5, c5, rfl, h5, hx5⟩
            have H5 := Lib.hid (h5.lower HX4.out.size)
            have HX5 := Lib.hid (HX4.out.trans hx5)
            clear h5 hx5
            go_wp2_with fail
            go_ret2
            exact ⟨A5, c5, by rw [← HE.out]; rfl, by rw [← HE.out]; exact H5.out, HX5.out⟩
          · have hb0 : ((y : Int) != 0) = true := by rw [bne_iff_ne]; omega
            have hbe0 : ((y : Int) == 0) = false := beq_eq_false_iff_ne.2 (by omega)
            have hmy : x % y < y := Nat.mod_lt x (by omega)
            have hgs := Lib.hid ((gcd_step x y).trans hg2.out)
            have HC := Lib.hid (show ((x % y : Nat) : Int) = (x : Int) % (y : Int) from Int.natCast_emod x y)
            clear hy
            go_wp2_with fail
            go_quiet (fail)
            go_wp2_with fail
            go_roundg (x % y)
            case measure => exact hmy
            case rel => exact ⟨y, rfl, by rw [HC.out], by_, by omega, hgs.out, HX4.out.drewN _⟩
theorem bcell {W w1 : World} (hb : Ext W w1) : (∀ b o, b < W.heap.size → w1.cell? ⟨b, o, none⟩ = W.cell? ⟨b, o, none⟩) ∧ (∀ b o, b < W.heap.size → w1.frozen? ⟨b, o, none⟩ = W.frozen? ⟨b, o, none⟩) :=
  ⟨fun b o h => Below.cell (p := ⟨b, o, none⟩) hb h, fun b o h => Below.frozen (p := ⟨b, o, none⟩) hb h⟩
set_option maxHeartbeats 400000 in
theorem times_any (A B : Option Addr) (m n : Nat) (c d : Nat) (w : World) (ha : Rd w A c (wd m)) (hb : Rd w B d (wd n)) (ls : (wd m).length + (wd n).length ≤ 8192) :
    Calls Tryz.prog 80 #[.slice A (wd m).length c, .slice B (wd n).length d] w fun e w' => ∃ A' c', e = .returned (.slice A' (wd (m * n)).length c') ∧ Own w' w.heap.size A' c' (wd (m * n)) ∧ Ext w w' := by
  have H := Lib.hid (mul_any A B m n c d w ha hb ls)
  clear ha hb
  go_enter Tryz.func80, Tryz.ntmps80
  go_wp2_with fail
  refine H.out.mono ?_; rintro e w1 ⟨A1, c1, rfl, h1, hx1⟩
  have H1 := Lib.hid h1
  have HX1 := Lib.hid hx1
  clear h1 hx1
  go_wp2_with fail
  go_ret
  exact ⟨_, _, rfl, H1.out, HX1.out⟩
theorem long_any (A : Option Addr) (n c : Nat) (w : World) (hn : n ≤ 9223372036854775807) :
    Calls Tryz.prog 85 #[.slice A n c] w fun e w' => e = .returned (.bool (decide (2048 < n))) ∧ w = w' := by
  go_enter Tryz.func85, Tryz.ntmps85
  go_wp2
  go_ret
  exact ⟨by simp; omega, rfl⟩
def RatP (w : World) (t : Fr × Int) (e : Ending) (w' : World) : Prop :=
  ∃ A c B d, e = .returned (.tuple #[.agg #[.bool t.1.neg, .slice A t.1.num.length c, .slice B t.1.den.length d], .int .i64 t.2]) ∧ Own w' w.heap.size A c t.1.num ∧ Own w' w.heap.size B d t.1.den ∧ (∀ a b, A = some a → B = some b → a.block ≠ b.block) ∧ Ext w w'
theorem RatP.mk {w w' : World} {t : Fr × Int} {s : Bool} {xs ys : List Int} {er : Int} {e : Ending} {A B : Option Addr} {c d : Nat} (ht : t = (⟨s, xs, ys⟩, er)) (he : e = .returned (.tuple #[.agg #[.bool s, .slice A xs.length c, .slice B ys.length d], .int .i64 er]))
    (h1 : Own w' w.heap.size A c xs) (h2 : Own w' w.heap.size B d ys) (h3 : ∀ a b, A = some a → B = some b → a.block ≠ b.block) (h4 : Ext w w') : RatP w t e w' := by
  subst ht
  exact ⟨A, c, B, d, he, h1, h2, h3, h4⟩
theorem RatP.nil {w w' : World} {t : Fr × Int} {er : Int} {e : Ending} (ht : t = (Fr.zero, er)) (he : e = .returned (.tuple #[.agg #[.bool false, .slice none 0 0, .slice none 0 0], .int .i64 er])) (h4 : Ext w w') : RatP w t e w' := by
  subst ht
  exact ⟨none, 0, none, 0, he, Own.nil _ _, Own.nil _ _, (fun _ _ h => by cases h), h4⟩
set_option maxHeartbeats 1000000 in
theorem lowest_any (b : Bool) (A B : Option Addr) (m n : Nat) (c d : Nat) (w : World) (ha : Rd w A c (wd m)) (hb : Rd w B d (wd n)) (hn : n ≠ 0) (lm : (wd m).length ≤ 8192) (ln : (wd n).length ≤ 8192) :
    Calls Tryz.prog 79 #[.bool b, .slice A (wd m).length c, .slice B (wd n).length d] w (RatP w (tell (mkRat (sg b m) n))) := by
  have HA := Lib.hid ha
  have HB := Lib.hid hb
  have hg0 : 0 < Nat.gcd m n := Nat.gcd_pos_of_pos_right m (by omega)
  have hgl := wd_len_mono (Nat.gcd_le_right m (show 0 < n by omega))
  have HE := Lib.hid (enc_mk b m n hn)
  obtain ⟨g, hg⟩ : ∃ g, g = Nat.gcd m n := ⟨_, rfl⟩
  rw [← hg] at hg0 hgl HE
  have HG := Lib.hid hg
  clear ha hb hg
  go_enter Tryz.func79, Tryz.ntmps79
  go_wp2_with fail
  refine (gcd_any _ _ _ _ _ _ _ (HA.out.ext ((Ext.refl w).alloc _)) (HB.out.ext ((Ext.refl w).alloc _)) lm ln).mono ?_
  rw [← HG.out]
  rintro e w1 ⟨A1, c1, rfl, h1, hx1⟩
  have H1 := Lib.hid h1
  have HX1 := Lib.hid hx1
  clear h1 hx1
  go_wp2_with fail
  refine (divMod_any _ _ _ _ _ _ _ (HA.out.ext (((Ext.refl w).alloc _).trans HX1.out)) H1.out.rd (by omega) lm (by omega)).mono ?_
  rintro e w2 ⟨A2, c2, B2, d2, rfl, h2, h2', h2'', hx2⟩
  have H2 := Lib.hid h2
  have HX2 := Lib.hid (HX1.out.trans hx2)
  have H1 := Lib.hid (H1.out.ext hx2)
  clear h2 h2' h2'' hx2
  go_wp2_with fail
  refine (divMod_any _ _ _ _ _ _ _ (HB.out.ext (((Ext.refl w).alloc _).trans HX2.out)) H1.out.rd (by omega) ln (by omega)).mono ?_
  rintro e w3 ⟨A3, c3, B3, d3, rfl, h3, h3', h3'', hx3⟩
  have HAp := Lib.hid (H2.out.apart h3 (Nat.le_refl _))
  have H3 := Lib.hid (h3.lower (show w.heap.size + 1 ≤ w2.heap.size by have := HX2.out.size; simp at this; omega))
  have H2 := Lib.hid ((H2.out.ext hx3).lower (show w.heap.size + 1 ≤ w1.heap.size by have := HX1.out.size; simp at this; omega))
  have HX3 := Lib.hid (HX2.out.trans hx3)
  have HZ3 := Lib.hid (show w.heap.size < w3.heap.size by have := HX3.out.size; simp at this; omega)
  clear h3 h3' h3'' hx3 H1
  obtain ⟨m', hm'⟩ : ∃ x, x = m / g := ⟨_, rfl⟩
  obtain ⟨n', hn'⟩ : ∃ x, x = n / g := ⟨_, rfl⟩
  rw [← hm'] at HE H2 ⊢
  rw [← hn'] at HE H3 ⊢
  have hml := wd_len_mono (show m' ≤ m by rw [hm']; exact Nat.div_le_self _ _)
  have hnl := wd_len_mono (show n' ≤ n by rw [hn']; exact Nat.div_le_self _ _)
  have Hm' := Lib.hid hm'
  clear hm' hn'
  have el : (wd (mkRat (sg b m) n).num.natAbs) = wd m' := congrArg Fr.num HE.out
  have ed : (wd (mkRat (sg b m) n).den) = wd n' := congrArg Fr.den HE.out
  have hbc := bcell HX3.out
  obtain ⟨hc, hf⟩ := hbc
  have HXw := Lib.hid (((Ext.refl w).alloc _).trans HX3.out)
  by_cases l1 : 2048 < (wd m').length
  · have HT := Lib.hid (show tell (mkRat (sg b m) n) = (Fr.zero, 3) by unfold tell lng; rw [el, if_pos (by simp; omega)])
    rw [HT.out]
    clear el ed
    go_wp2_with fail
    refine (long_any _ _ _ _ (by omega)).mono ?_; rintro e w' ⟨rfl, rfl⟩
    go_wp2_with fail
    exact bodyPost_ret (v := .tuple #[.agg #[.bool false, .slice none 0 0, .slice none 0 0], .int .i64 3]) (by simp [results, Tryz.results79, go_sem, hc]) rfl (RatP.nil HT.out rfl (by repeat (first | exact HXw.out | refine Ext.setCell ?_ (Nat.le_refl _) _)))
  · by_cases l2 : 2048 < (wd n').length
    · have HT := Lib.hid (show tell (mkRat (sg b m) n) = (Fr.zero, 3) by unfold tell lng; rw [ed, if_pos (by simp; omega)])
      rw [HT.out]
      clear el ed
      go_wp2_with fail
      refine (long_any _ _ _ _ (by omega)).mono ?_; rintro e w' ⟨rfl, rfl⟩
      go_wp2_with fail
      refine (long_any _ _ _ _ (by omega)).mono ?_; rintro e w' ⟨rfl, rfl⟩
      go_wp2_with fail
      exact bodyPost_ret (v := .tuple #[.agg #[.bool false, .slice none 0 0, .slice none 0 0], .int .i64 3]) (by simp [results, Tryz.results79, go_sem, hc]) rfl (RatP.nil HT.out rfl (by repeat (first | exact HXw.out | refine Ext.setCell ?_ (Nat.le_refl _) _)))
    · obtain ⟨s, hs⟩ : ∃ s : Bool, s = (b && decide (m ≠ 0)) := ⟨_, rfl⟩
      have HT := Lib.hid (show tell (mkRat (sg b m) n) = (⟨s, wd m', wd n'⟩, 0) by unfold tell lng; rw [el, ed, if_neg (by simp; omega), HE.out, hs])
      rw [HT.out]
      have hs2 : s = (b && decide (0 < (wd m').length)) := by
        rw [hs]
        congr 1
        have hz : m' = 0 ↔ m = 0 := by
          rw [Hm'.out, HG.out]
          constructor
          · intro h
            have := Nat.div_mul_cancel (Nat.gcd_dvd_left m n)
            rw [h, Nat.zero_mul] at this
            exact this.symm
          · intro h; rw [h, Nat.zero_div]
        have hl := @wd_len_zero m'
        by_cases h0 : m = 0
        · have := hl.2 (hz.2 h0)
          rw [decide_eq_false (by omega), decide_eq_false (by omega)]
        · have := mt hz.1 h0
          have := mt hl.1 this
          rw [decide_eq_true (by omega), decide_eq_true (by omega)]
      clear el ed hs
      cases b with
      | false =>
        obtain rfl : s = false := hs2
        go_wp2_with fail
        refine (long_any _ _ _ _ (by omega)).mono ?_; rintro e w' ⟨rfl, rfl⟩
        go_wp2_with fail
        refine (long_any _ _ _ _ (by omega)).mono ?_; rintro e w' ⟨rfl, rfl⟩
        go_wp2_with fail
        exact bodyPost_ret (v := .tuple #[.agg #[.bool false, .slice A2 (wd m').length c2, .slice A3 (wd n').length c3], .int .i64 0]) (by simp [results, Tryz.results79, go_sem, hc]) rfl (RatP.mk HT.out rfl (by refine Own.lower ?_ (Nat.le_succ _); repeat (first | exact H2.out | refine Own.setBelow ?_ (Nat.lt_succ_self _) _)) (by refine Own.lower ?_ (Nat.le_succ _); repeat (first | exact H3.out | refine Own.setBelow ?_ (Nat.lt_succ_self _) _)) HAp.out (by repeat (first | exact HXw.out | refine Ext.setCell ?_ (Nat.le_refl _) _)))
      | true =>
        rw [Bool.true_and] at hs2
        by_cases h0 : 0 < (wd m').length
        · obtain rfl : s = true := by rw [hs2]; exact decide_eq_true h0
          clear hs2
          go_wp2_with fail
          refine (long_any _ _ _ _ (by omega)).mono ?_; rintro e w' ⟨rfl, rfl⟩
          go_wp2_with fail
          refine (long_any _ _ _ _ (by omega)).mono ?_; rintro e w' ⟨rfl, rfl⟩
          go_wp2_with fail
          exact bodyPost_ret (v := .tuple #[.agg #[.bool true, .slice A2 (wd m').length c2, .slice A3 (wd n').length c3], .int .i64 0]) (by simp [results, Tryz.results79, go_sem, hc]) rfl (RatP.mk HT.out rfl (by refine Own.lower ?_ (Nat.le_succ _); repeat (first | exact H2.out | refine Own.setBelow ?_ (Nat.lt_succ_self _) _)) (by refine Own.lower ?_ (Nat.le_succ _); repeat (first | exact H3.out | refine Own.setBelow ?_ (Nat.lt_succ_self _) _)) HAp.out (by repeat (first | exact HXw.out | refine Ext.setCell ?_ (Nat.le_refl _) _)))
        · obtain rfl : s = false := by rw [hs2]; exact decide_eq_false h0
          clear hs2
          go_wp2_with fail
          refine (long_any _ _ _ _ (by omega)).mono ?_; rintro e w' ⟨rfl, rfl⟩
          go_wp2_with fail
          refine (long_any _ _ _ _ (by omega)).mono ?_; rintro e w' ⟨rfl, rfl⟩
          go_wp2_with fail
          exact bodyPost_ret (v := .tuple #[.agg #[.bool false, .slice A2 (wd m').length c2, .slice A3 (wd n').length c3], .int .i64 0]) (by simp [results, Tryz.results79, go_sem, hc]) rfl (RatP.mk HT.out rfl (by refine Own.lower ?_ (Nat.le_succ _); repeat (first | exact H2.out | refine Own.setBelow ?_ (Nat.lt_succ_self _) _)) (by refine Own.lower ?_ (Nat.le_succ _); repeat (first | exact H3.out | refine Own.setBelow ?_ (Nat.lt_succ_self _) _)) HAp.out (by repeat (first | exact HXw.out | refine Ext.setCell ?_ (Nat.le_refl _) _)))
def Quiet (w w' : World) : Prop := ∃ m, w' = w.drewN m
theorem Quiet.ext {w w' : World} (h : Quiet w w') : Ext w w' := by obtain ⟨m, rfl⟩ := h; exact (Ext.refl w).drewN m
theorem Quiet.refl (w : World) : Quiet w w := ⟨0, rfl⟩
theorem Quiet.drewN {w w' : World} (h : Quiet w w') (n : Nat) : Quiet w (w'.drewN n) := by obtain ⟨m, rfl⟩ := h; exact ⟨m + n, by rw [World.drewN_drewN]⟩
theorem nth_ext : ∀ {xs ys : List Int}, xs.length = ys.length → (∀ j, j < xs.length → nth xs j = nth ys j) → xs = ys
  | [], [], _, _ => rfl
  | [], _ :: _, h, _ => by simp at h
  | _ :: _, [], h, _ => by simp at h
  | x :: xs, y :: ys, h, e => by
    have h0 : x = y := e 0 (by simp)
    rw [h0, nth_ext (xs := xs) (ys := ys) (by simpa using h) (fun j hj => e (j + 1) (by simpa using hj))]
def isLong (n : Nat) : Bool := decide (60 < n ∧ (n ≤ 2048 ∨ 2057 ≤ n))
def marks : List Int := [2882343476, 2882343477, 2882343478]
def sl (A : Option Addr) (n c : Nat) : Value := .slice A n c
structure Rows (base k gb : Nat) (P : Nat → Option Addr) (C : Nat → Nat) (X Z : Nat → List Int) (w : World) : Prop where
  idx : ∀ j, j < k → w.cell? ⟨gb, j, none⟩ = some (.slice (P j) (X j).length (C j))
  row : ∀ j, j < k → Own w base (P j) (C j) (Z j)
theorem grown_setCell (w : World) (p : Addr) (u : Value) : w.grownBy (w.setCell p u) (some p.block) :=
  ⟨rfl, rfl, rfl, by simp [World.setCell], fun k hk hne => Below.heap_setCell _ _ _ _ (fun e => hne (by rw [e]))⟩
theorem cell_keep {w w' : World} {row : Option Nat} (h : w.grownBy w' row) {g j : Nat} {v : Value} (hc : w.cell? ⟨g, j, none⟩ = some v) (hne : some g ≠ row) : w'.cell? ⟨g, j, none⟩ = some v := h.cell hc hne
structure VarF (g base : Nat) (f : Fr) (A : Option Addr) (c : Nat) (B : Option Addr) (d : Nat) (w : World) : Prop where
  c0 : w.cell? ⟨g, 0, none⟩ = some (.bool f.neg)
  c1 : w.cell? ⟨g, 1, none⟩ = some (.slice A f.num.length c)
  c2 : w.cell? ⟨g, 2, none⟩ = some (.slice B f.den.length d)
  fr : ∀ o, w.frozen? ⟨g, o, none⟩ = false
  onum : Own w base A c f.num
  oden : Own w base B d f.den
  ap : ∀ a b, A = some a → B = some b → a.block ≠ b.block
  n1 : ∀ a, A = some a → a.block ≠ g
  n2 : ∀ a, B = some a → a.block ≠ g
theorem VarF.ext {g base : Nat} {f : Fr} {A B : Option Addr} {c d : Nat} {w w' : World} (h : VarF g base f A c B d w) (e : Ext w w') : VarF g base f A c B d w' :=
  ⟨e.cell h.c0, e.cell h.c1, e.cell h.c2, fun o => (Below.frozen (p := ⟨g, o, none⟩) e (World.block_lt_of_cell? w ⟨g, 0, none⟩ h.c0)).trans (h.fr o), h.onum.ext e, h.oden.ext e, h.ap, h.n1, h.n2⟩
theorem VarF.new {base : Nat} {k : Fr} {C D : Option Addr} {a b : Nat} {w : World} (o1 : Own w base C a k.num) (o2 : Own w base D b k.den) (ap : ∀ a b, C = some a → D = some b → a.block ≠ b.block) :
    VarF w.heap.size base k C a D b (w.alloc (.cells #[.bool k.neg, .slice C k.num.length a, .slice D k.den.length b] 24)) :=
  ⟨by simp [go_sem], by simp [go_sem], by simp [go_sem], fun o => by simp [go_sem], o1.ext ((Ext.refl w).alloc _), o2.ext ((Ext.refl w).alloc _), ap,
    fun a ha e => by rw [ha] at o1; have := o1.block.2; omega, fun a ha e => by rw [ha] at o2; have := o2.block.2; omega⟩
theorem VarF.zero (w : World) (base : Nat) : VarF w.heap.size base Fr.zero none 0 none 0 (w.alloc (.cells #[.bool false, .slice none 0 0, .slice none 0 0] 24)) :=
  VarF.new (k := Fr.zero) (Own.nil w base) (Own.nil w base) (fun _ _ h => by cases h)
def NewP (w : World) (s : Bool) (xs ys : List Int) (e : Ending) (w' : World) : Prop :=
  ∃ A c B d, e = .returned (.agg #[.bool s, .slice A xs.length c, .slice B ys.length d]) ∧ Own w' w.heap.size A c xs ∧ Own w' w.heap.size B d ys ∧ (∀ a b, A = some a → B = some b → a.block ≠ b.block) ∧ Ext w w'
structure Var (g : Nat) (vs : List Value) (w : World) : Prop where
  lt : g < w.heap.size
  at_ : ∀ j v, vs[j]? = some v → w.cell? ⟨g, j, none⟩ = some v
  fr : ∀ o, w.frozen? ⟨g, o, none⟩ = false
theorem Var.ext {g : Nat} {vs : List Value} {w w' : World} (h : Var g vs w) (e : Ext w w') : Var g vs w' :=
  ⟨Nat.lt_of_lt_of_le h.lt e.size, fun j v hj => e.cell (h.at_ j v hj), fun o => (Below.frozen (p := ⟨g, o, none⟩) e h.lt).trans (h.fr o)⟩
theorem Var.new (w : World) (vs : List Value) (t : TypeId) : Var w.heap.size vs (w.alloc (.cells vs.toArray t)) :=
  ⟨by simp, fun j v hj => by rw [World.cell?_alloc_at (hn := rfl)]; simpa using hj, fun o => by simp [go_sem]⟩
def TrimW (xs : List Int) : Prop := xs.length ≤ 8192 ∧ tl xs xs.length = xs.length
theorem trimW_wd (n : Nat) (h : (wd n).length ≤ 8192) : TrimW (wd n) := ⟨h, tl_wd n⟩
theorem trimW_ok {a : Fr} (wa : a.Wf) (h : fchk a = 0) : TrimW a.num ∧ TrimW a.den := by
  obtain ⟨q, rfl, lq⟩ := fchk_ok wa h
  have := not_lng lq
  exact ⟨trimW_wd _ (by omega), trimW_wd _ (by omega)⟩
abbrev Thr (w : World) (g : Nat) (a b c : Value) : Prop := w.cell? ⟨g, 0, none⟩ = some a ∧ w.cell? ⟨g, 1, none⟩ = some b ∧ w.cell? ⟨g, 2, none⟩ = some c
theorem thr_ext {w w' : World} {g : Nat} {a b c : Value} (x : Ext w w') (H : Thr w g a b c) : Thr w' g a b c := ⟨x.cell H.1, x.cell H.2.1, x.cell H.2.2⟩
theorem thr_drew {w : World} {g : Nat} {a b c : Value} (H : Thr w g a b c) : Thr w.drew g a b c := H
theorem thr_set {w : World} {g : Nat} {a b c : Value} {p : Addr} {u : Value} (H : Thr w g a b c) (h1 : p.block ≠ g) : Thr (w.setCell p u) g a b c :=
  have hg := grown_setCell w p u
  ⟨cell_keep hg H.1 (fun e => h1 (Option.some.inj e).symm), cell_keep hg H.2.1 (fun e => h1 (Option.some.inj e).symm), cell_keep hg H.2.2 (fun e => h1 (Option.some.inj e).symm)⟩
theorem cmp_eq_iff {m n : Nat} : cmp m n = 0 ↔ m = n := by unfold cmp; split <;> (try split) <;> omega
theorem compare_one (A : Option Addr) (g c : Nat) (w : World) (h : Rd w A c (wd g)) (b : Nat) (hb : Rd w (some ⟨b, 0, none⟩) 1 [1]) :
    Calls Tryz.prog 84 #[.slice A (wd g).length c, .slice (some ⟨b, 0, none⟩) 1 1] w fun e w' => e = .returned (.int .i64 (cmp g 1)) ∧ Ext w w' := by
  have h1 := compare_any A (some ⟨b, 0, none⟩) g 1 c 1 w h (by rw [wd_one]; exact hb)
  rw [show (wd 1).length = 1 by rw [wd_one]; rfl] at h1
  exact h1
set_option maxHeartbeats 2000000 in
theorem rcheck_any (s : Bool) (A B : Option Addr) (xs ys : List Int) (c d : Nat) (w : World) (ha : Rd w A c xs) (hb : Rd w B d ys) (hx : Wf xs) (hy : Wf ys) :
    Calls Tryz.prog 24 #[.agg #[.bool s, .slice A xs.length c, .slice B ys.length d]] w fun e w' => e = .returned (.int .i64 (fchk ⟨s, xs, ys⟩)) ∧ Ext w w' := by
  have hl := ha.lim
  have hly := hb.lim
  have HX := Lib.hid ((Ext.refl w).alloc (.cells #[.bool s, .slice A xs.length c, .slice B ys.length d] 24))
  have HA := Lib.hid (ha.ext HX.out)
  have HB := Lib.hid (hb.ext HX.out)
  clear ha hb
  by_cases h1 : 2048 < xs.length
  · have HE := Lib.hid (show fchk ⟨s, xs, ys⟩ = 3 from if_pos h1)
    rw [HE.out]
    go_enter Tryz.func24, Tryz.ntmps24
    go_wp2_with fail
    refine (long_any _ _ _ _ (by omega)).mono ?_; rintro e w' ⟨rfl, rfl⟩
    go_wp2_with fail
    go_ret
    exact ⟨rfl, HX.out⟩
  by_cases h2 : 2048 < ys.length
  · have HE := Lib.hid (show fchk ⟨s, xs, ys⟩ = 3 by unfold fchk; rw [if_neg h1, if_pos h2])
    rw [HE.out]
    go_enter Tryz.func24, Tryz.ntmps24
    go_wp2_with fail
    refine (long_any _ _ _ _ (by omega)).mono ?_; rintro e w' ⟨rfl, rfl⟩
    go_wp2_with fail
    refine (long_any _ _ _ _ (by omega)).mono ?_; rintro e w' ⟨rfl, rfl⟩
    go_wp2_with fail
    go_ret
    exact ⟨rfl, HX.out⟩
  by_cases h3 : chk xs ≠ 0
  · have HE := Lib.hid (show fchk ⟨s, xs, ys⟩ = 11 by unfold fchk; rw [if_neg h1, if_neg h2, if_pos h3])
    have hb1 : (chk xs != 0) = true := bne_iff_ne.2 h3
    rw [HE.out]
    clear h3
    go_enter Tryz.func24, Tryz.ntmps24
    go_wp2_with fail
    refine (long_any _ _ _ _ (by omega)).mono ?_; rintro e w' ⟨rfl, rfl⟩
    go_wp2_with fail
    refine (long_any _ _ _ _ (by omega)).mono ?_; rintro e w' ⟨rfl, rfl⟩
    go_wp2_with fail
    refine (check_any _ _ _ _ HA.out).mono ?_; rintro e w' ⟨rfl, rfl⟩
    go_wp2_with fail
    go_ret
    exact ⟨rfl, HX.out⟩
  have hb1 : (chk xs != 0) = false := bne_eq_false_iff_eq.2 (by simpa using h3)
  by_cases h4 : chk ys ≠ 0
  · have HE := Lib.hid (show fchk ⟨s, xs, ys⟩ = 11 by unfold fchk; rw [if_neg h1, if_neg h2, if_neg h3, if_pos h4])
    have hb2 : (chk ys != 0) = true := bne_iff_ne.2 h4
    rw [HE.out]
    clear h3 h4
    go_enter Tryz.func24, Tryz.ntmps24
    go_wp2_with fail
    refine (long_any _ _ _ _ (by omega)).mono ?_; rintro e w' ⟨rfl, rfl⟩
    go_wp2_with fail
    refine (long_any _ _ _ _ (by omega)).mono ?_; rintro e w' ⟨rfl, rfl⟩
    go_wp2_with fail
    refine (check_any _ _ _ _ HA.out).mono ?_; rintro e w' ⟨rfl, rfl⟩
    go_wp2_with fail
    refine (check_any _ _ _ _ HB.out).mono ?_; rintro e w' ⟨rfl, rfl⟩
    go_wp2_with fail
    go_ret
    exact ⟨rfl, HX.out⟩
  have hb2 : (chk ys != 0) = false := bne_eq_false_iff_eq.2 (by simpa using h4)
  by_cases h5 : ys.length = 0
  · have HE := Lib.hid (show fchk ⟨s, xs, ys⟩ = 11 by unfold fchk; rw [if_neg h1, if_neg h2, if_neg h3, if_neg h4, if_pos h5])
    have hb3 : ((ys.length : Int) == 0) = true := beq_iff_eq.2 (by omega)
    rw [HE.out]
    clear h3 h4 h5
    go_enter Tryz.func24, Tryz.ntmps24
    go_wp2_with fail
    refine (long_any _ _ _ _ (by omega)).mono ?_; rintro e w' ⟨rfl, rfl⟩
    go_wp2_with fail
    refine (long_any _ _ _ _ (by omega)).mono ?_; rintro e w' ⟨rfl, rfl⟩
    go_wp2_with fail
    refine (check_any _ _ _ _ HA.out).mono ?_; rintro e w' ⟨rfl, rfl⟩
    go_wp2_with fail
    refine (check_any _ _ _ _ HB.out).mono ?_; rintro e w' ⟨rfl, rfl⟩
    go_wp2_with fail
    go_ret
    exact ⟨rfl, HX.out⟩
  have hb3 : ((ys.length : Int) == 0) = false := beq_eq_false_iff_ne.2 (by omega)
  by_cases h6 : xs.length = 0 ∧ s = true
  · have HE := Lib.hid (show fchk ⟨s, xs, ys⟩ = 11 by unfold fchk; rw [if_neg h1, if_neg h2, if_neg h3, if_neg h4, if_neg h5, if_pos h6])
    have hb4 : ((xs.length : Int) == 0) = true := beq_iff_eq.2 (by omega)
    obtain rfl : s = true := h6.2
    rw [HE.out]
    clear h3 h4 h5 h6
    go_enter Tryz.func24, Tryz.ntmps24
    go_wp2_with fail
    refine (long_any _ _ _ _ (by omega)).mono ?_; rintro e w' ⟨rfl, rfl⟩
    go_wp2_with fail
    refine (long_any _ _ _ _ (by omega)).mono ?_; rintro e w' ⟨rfl, rfl⟩
    go_wp2_with fail
    refine (check_any _ _ _ _ HA.out).mono ?_; rintro e w' ⟨rfl, rfl⟩
    go_wp2_with fail
    refine (check_any _ _ _ _ HB.out).mono ?_; rintro e w' ⟨rfl, rfl⟩
    go_wp2_with fail
    go_ret
    exact ⟨rfl, HX.out⟩
  obtain ⟨ex, lx⟩ := chk_ok hx (by simpa using h3)
  obtain ⟨ey, ly⟩ := chk_ok hy (by simpa using h4)
  obtain ⟨m, hm⟩ : ∃ m, m = (val xs).toNat := ⟨_, rfl⟩
  obtain ⟨n, hn⟩ : ∃ n, n = (val ys).toNat := ⟨_, rfl⟩
  rw [← hm] at ex
  rw [← hn] at ey
  have HE : (Nat.gcd m n = 1 → fchk ⟨s, xs, ys⟩ = 0) ∧ (Nat.gcd m n ≠ 1 → fchk ⟨s, xs, ys⟩ = 11) := by
    unfold fchk
    rw [if_neg h1, if_neg h2, if_neg h3, if_neg h4, if_neg h5, if_neg h6, hm, hn]
    exact ⟨fun e => if_neg (fun h => h e), fun e => if_pos e⟩
  have hb4 : ((xs.length : Int) == 0) = false ∨ (((xs.length : Int) == 0) = true ∧ s = false) := by
    by_cases h : xs.length = 0
    · refine .inr ⟨beq_iff_eq.2 (by omega), ?_⟩
      cases s with
      | false => rfl
      | true => exact absurd ⟨h, rfl⟩ h6
    · exact .inl (beq_eq_false_iff_ne.2 (by omega))
  have HGC := Lib.hid (show ∀ wx, Rd wx A c xs → Rd wx B d ys → Calls Tryz.prog 87 #[.slice A xs.length c, .slice B ys.length d] wx (One wx (Nat.gcd m n)) from fun wx a b => by
    have := gcd_any A B m n c d wx (ex ▸ a) (ey ▸ b) (by rw [← ex]; omega) (by rw [← ey]; omega)
    rw [← ex, ← ey] at this
    exact this)
  obtain ⟨g, hg⟩ : ∃ g, g = Nat.gcd m n := ⟨_, rfl⟩
  rw [← hg] at HE HGC
  clear h3 h4 h5 h6 hm hn ex ey hg hx hy
  have HCM : Hid (cmp g 1 = 0 ↔ g = 1) := cmp_eq_iff
  by_cases hg1 : g = 1
  · have hcc : (cmp g 1 != 0) = false := bne_eq_false_iff_eq.2 (HCM.out.2 hg1)
    have HF := Lib.hid (show fchk ⟨s, xs, ys⟩ = 0 from HE.1 hg1)
    rw [HF.out]
    clear HE hg1
    rcases hb4 with hb4 | ⟨hb4, rfl⟩
    all_goals
      go_enter Tryz.func24, Tryz.ntmps24
      go_wp2_with fail
      refine (long_any _ _ _ _ (by omega)).mono ?_; rintro e w' ⟨rfl, rfl⟩
      go_wp2_with fail
      refine (long_any _ _ _ _ (by omega)).mono ?_; rintro e w' ⟨rfl, rfl⟩
      go_wp2_with fail
      refine (check_any _ _ _ _ HA.out).mono ?_; rintro e w' ⟨rfl, rfl⟩
      go_wp2_with fail
      refine (check_any _ _ _ _ HB.out).mono ?_; rintro e w' ⟨rfl, rfl⟩
      go_wp2_with fail
      refine (HGC.out _ HA.out HB.out).mono ?_; rintro e w1 ⟨A1, c1, rfl, k1, hx1⟩
      have H1 := Lib.hid k1
      have HX1 := Lib.hid (HX.out.trans hx1)
      clear k1 hx1
      go_wp2_with fail
      refine (compare_one _ _ _ _ (H1.out.rd.ext ((Ext.refl _).alloc _)) _ (Own.lit w1 _ [1] rfl (by decide)).rd).mono ?_; rintro e w2 ⟨rfl, hx2⟩
      have HX2 := Lib.hid ((HX1.out.alloc _).trans hx2)
      clear hx2
      go_wp2_with fail
      go_ret
      exact ⟨rfl, HX2.out⟩
  · have hcc : (cmp g 1 != 0) = true := bne_iff_ne.2 (fun e => hg1 (HCM.out.1 e))
    have HF := Lib.hid (show fchk ⟨s, xs, ys⟩ = 11 from HE.2 hg1)
    rw [HF.out]
    clear HE hg1
    rcases hb4 with hb4 | ⟨hb4, rfl⟩
    all_goals
      go_enter Tryz.func24, Tryz.ntmps24
      go_wp2_with fail
      refine (long_any _ _ _ _ (by omega)).mono ?_; rintro e w' ⟨rfl, rfl⟩
      go_wp2_with fail
      refine (long_any _ _ _ _ (by omega)).mono ?_; rintro e w' ⟨rfl, rfl⟩
      go_wp2_with fail
      refine (check_any _ _ _ _ HA.out).mono ?_; rintro e w' ⟨rfl, rfl⟩
      go_wp2_with fail
      refine (check_any _ _ _ _ HB.out).mono ?_; rintro e w' ⟨rfl, rfl⟩
      go_wp2_with fail
      refine (HGC.out _ HA.out HB.out).mono ?_; rintro e w1 ⟨A1, c1, rfl, k1, hx1⟩
      have H1 := Lib.hid k1
      have HX1 := Lib.hid (HX.out.trans hx1)
      clear k1 hx1
      go_wp2_with fail
      refine (compare_one _ _ _ _ (H1.out.rd.ext ((Ext.refl _).alloc _)) _ (Own.lit w1 _ [1] rfl (by decide)).rd).mono ?_; rintro e w2 ⟨rfl, hx2⟩
      have HX2 := Lib.hid ((HX1.out.alloc _).trans hx2)
      clear hx2
      go_wp2_with fail
      go_ret
      exact ⟨rfl, HX2.out⟩
abbrev Six (w : World) (h : Nat) (a b c d e f : Value) : Prop := w.cell? ⟨h, 0, none⟩ = some a ∧ w.cell? ⟨h, 1, none⟩ = some b ∧ w.cell? ⟨h, 2, none⟩ = some c ∧ w.cell? ⟨h + 1, 0, none⟩ = some d ∧ w.cell? ⟨h + 1, 1, none⟩ = some e ∧ w.cell? ⟨h + 1, 2, none⟩ = some f
theorem six_ext {w w' : World} {h : Nat} {a b c d e f : Value} (x : Ext w w') (H : Six w h a b c d e f) : Six w' h a b c d e f := ⟨x.cell H.1, x.cell H.2.1, x.cell H.2.2.1, x.cell H.2.2.2.1, x.cell H.2.2.2.2.1, x.cell H.2.2.2.2.2⟩
theorem six_drew {w : World} {h : Nat} {a b c d e f : Value} (H : Six w h a b c d e f) : Six w.drew h a b c d e f := H
theorem plus_cases (p q : Rat) : (decide (p.num < 0) = decide (q.num < 0) ∧ mkRat (sg (decide (p.num < 0)) (p.num.natAbs * q.den + q.num.natAbs * p.den)) (p.den * q.den) = p + q)
    ∨ (decide (p.num < 0) ≠ decide (q.num < 0) ∧ p.num.natAbs * q.den < q.num.natAbs * p.den ∧ mkRat (sg (decide (q.num < 0)) (q.num.natAbs * p.den - p.num.natAbs * q.den)) (p.den * q.den) = p + q)
    ∨ (decide (p.num < 0) ≠ decide (q.num < 0) ∧ q.num.natAbs * p.den ≤ p.num.natAbs * q.den ∧ mkRat (sg (decide (p.num < 0)) (p.num.natAbs * q.den - q.num.natAbs * p.den)) (p.den * q.den) = p + q) := by
  by_cases h : decide (p.num < 0) = decide (q.num < 0)
  · exact .inl ⟨h, add_same p q h⟩
  · rcases Nat.lt_or_ge (p.num.natAbs * q.den) (q.num.natAbs * p.den) with hl | hl
    · exact .inr (.inl ⟨h, hl, add_less p q h hl⟩)
    · exact .inr (.inr ⟨h, hl, add_more p q h hl⟩)
set_option maxRecDepth 4000 in
set_option maxHeartbeats 2000000 in
theorem plus_gen (s t : Bool) (A B C D : Option Addr) (a b a' b' : Nat) (c1 c2 c3 c4 : Nat) (w : World) (r : Rat) (ha : Rd w A c1 (wd a)) (hb : Rd w B c2 (wd b)) (hc : Rd w C c3 (wd a')) (hd : Rd w D c4 (wd b')) (hb0 : b ≠ 0) (hb0' : b' ≠ 0)
    (la : (wd a).length ≤ 2048) (lb : (wd b).length ≤ 2048) (la' : (wd a').length ≤ 2048) (lb' : (wd b').length ≤ 2048)
    (hr : (s = t ∧ mkRat (sg s (a * b' + a' * b)) (b * b') = r) ∨ (s ≠ t ∧ a * b' < a' * b ∧ mkRat (sg t (a' * b - a * b')) (b * b') = r) ∨ (s ≠ t ∧ a' * b ≤ a * b' ∧ mkRat (sg s (a * b' - a' * b)) (b * b') = r)) :
    Calls Tryz.prog 78 #[.agg #[.bool s, .slice A (wd a).length c1, .slice B (wd b).length c2], .agg #[.bool t, .slice C (wd a').length c3, .slice D (wd b').length c4]] w (RatP w (tell r)) := by
  have lX := wd_len_mul a b'
  have lY := wd_len_mul a' b
  have lZ := wd_len_mul b b'
  have hZ0 : b * b' ≠ 0 := Nat.mul_ne_zero hb0 hb0'
  obtain ⟨X, hX⟩ : ∃ X, X = a * b' := ⟨_, rfl⟩
  obtain ⟨Y, hY⟩ : ∃ Y, Y = a' * b := ⟨_, rfl⟩
  obtain ⟨Z, hZ⟩ : ∃ Z, Z = b * b' := ⟨_, rfl⟩
  have HT1 := Lib.hid (fun wx x1 x2 => times_any A D a b' c1 c4 wx x1 x2 (by omega))
  have HT2 := Lib.hid (fun wx x1 x2 => times_any C B a' b c3 c2 wx x1 x2 (by omega))
  have HT3 := Lib.hid (fun wx x1 x2 => times_any B D b b' c2 c4 wx x1 x2 (by omega))
  rw [← hX] at lX HT1
  rw [← hY] at lY HT2
  rw [← hZ] at lZ hZ0 HT3
  rw [← hX, ← hY, ← hZ] at hr
  have HR := Lib.hid hr
  have HA := Lib.hid ha
  have HB := Lib.hid hb
  have HC := Lib.hid hc
  have HD := Lib.hid hd
  clear hX hY hZ hr ha hb hc hd hb0 hb0'
  obtain ⟨tt, htt⟩ : ∃ tt, tt = tell r := ⟨_, rfl⟩
  have HT := Lib.hid htt.symm
  clear htt
  go_enter Tryz.func78, Tryz.ntmps78
  go_wp2_with fail
  have HX := Lib.hid ((((Ext.refl w).alloc (.cells #[.bool s, .slice A (wd a).length c1, .slice B (wd b).length c2] 24)).alloc (.cells #[.bool t, .slice C (wd a').length c3, .slice D (wd b').length c4] 24)).alloc (.cells #[.bool false, .slice none 0 0, .slice none 0 0] 24))
  obtain ⟨W, hW⟩ : ∃ W, W = (((w.alloc (.cells #[.bool s, .slice A (wd a).length c1, .slice B (wd b).length c2] 24)).alloc (.cells #[.bool t, .slice C (wd a').length c3, .slice D (wd b').length c4] 24)).alloc (.cells #[.bool false, .slice none 0 0, .slice none 0 0] 24)) := ⟨_, rfl⟩
  have F0 : Six W w.heap.size (.bool s) (.slice A (wd a).length c1) (.slice B (wd b).length c2) (.bool t) (.slice C (wd a').length c3) (.slice D (wd b').length c4) := by rw [hW]; refine ⟨?_, ?_, ?_, ?_, ?_, ?_⟩ <;> simp [go_sem]
  have R0 : W.cell? ⟨w.heap.size + 2, 0, none⟩ = some (.bool false) ∧ W.cell? ⟨w.heap.size + 2, 1, none⟩ = some (.slice none 0 0) ∧ W.cell? ⟨w.heap.size + 2, 2, none⟩ = some (.slice none 0 0) := by rw [hW]; refine ⟨?_, ?_, ?_⟩ <;> simp [go_sem]
  have Z0 : W.heap.size = w.heap.size + 3 := by rw [hW]; simp
  have RF : ∀ o, W.frozen? ⟨w.heap.size + 2, o, none⟩ = false := by intro o; rw [hW]; simp [go_sem]
  rw [← hW] at HX
  have HR0 := Lib.hid R0
  have HRF := Lib.hid RF
  have HZ0 := Lib.hid Z0
  try rw [← hW]
  clear hW R0 RF Z0
  go_region_held3 (fun w' => w'.cell? ⟨w.heap.size, 0, none⟩ = some (.bool s) ∧ w'.cell? ⟨w.heap.size, 1, none⟩ = some (.slice A (wd a).length c1) ∧ w'.cell? ⟨w.heap.size, 2, none⟩ = some (.slice B (wd b).length c2) ∧ w'.cell? ⟨w.heap.size + 1, 0, none⟩ = some (.bool t) ∧ w'.cell? ⟨w.heap.size + 1, 1, none⟩ = some (.slice C (wd a').length c3) ∧ w'.cell? ⟨w.heap.size + 1, 2, none⟩ = some (.slice D (wd b').length c4)) (repeat (first | (with_reducible exact F0) | (with_reducible exact F1) | (with_reducible exact F2) | (with_reducible exact F3) | (with_reducible refine six_drew ?_)))
    (first
      | (go_at_call 80; with_reducible refine (HT1.out _ (HA.out.ext HX.out.drew) (HD.out.ext HX.out.drew)).mono ?_; rintro e w1 ⟨A1, d1, rfl, k1, hx1⟩; have K1 := Lib.hid k1; have HX1 := Lib.hid hx1; have F1 := six_ext hx1 (six_drew F0); clear k1 hx1)
      | (go_at_call 80; with_reducible refine (HT2.out _ (HC.out.ext (HX.out.drew.trans HX1.out)) (HB.out.ext (HX.out.drew.trans HX1.out))).mono ?_; rintro e w2 ⟨A2, d2, rfl, k2, hx2⟩; have K2 := Lib.hid k2; have HX2 := Lib.hid hx2; have F2 := six_ext hx2 F1; clear k2 hx2)
      | (go_at_call 80; with_reducible refine (HT3.out _ (HB.out.ext ((HX.out.drew.trans HX1.out).trans HX2.out)) (HD.out.ext ((HX.out.drew.trans HX1.out).trans HX2.out))).mono ?_; rintro e w3 ⟨A3, d3, rfl, k3, hx3⟩; have K3 := Lib.hid k3; have HX3 := Lib.hid hx3; have F3 := six_ext hx3 F2; clear k3 hx3))
  all_goals
    have K1x := Lib.hid (K1.out.ext (HX2.out.trans HX3.out))
    have K2x := Lib.hid (K2.out.ext HX3.out)
    have HXa := Lib.hid (show Ext W w3 from (((Ext.refl W).drew.trans HX1.out).trans HX2.out).trans HX3.out)
    clear F0 F1 F2
    obtain ⟨u0, u1, u2, v0, v1, v2⟩ := id F3
    rcases HR.out with ⟨rfl, hr⟩ | ⟨hne, hlt, hr⟩ | ⟨hne, hle, hr⟩
    · have hst : (s == s) = true := beq_self_eq_true s
      go_wp2_with fail
      refine (add_any A1 A2 X Y d1 d2 _ K1x.out.rd K2x.out.rd (by omega) (by omega)).mono ?_
      rintro e w4 ⟨A4, d4, rfl, k4, hx4⟩
      have K4 := Lib.hid k4
      have HX4 := Lib.hid (HXa.out.trans hx4)
      obtain ⟨u0, u1, u2, v0, v1, v2⟩ := six_ext hx4 F3
      have KZ := Lib.hid (K3.out.ext hx4)
      clear k4 hx4 F3
      go_wp2_with fail
      refine (lowest_any s A4 A3 (X + Y) Z d4 d3 _ K4.out.rd KZ.out.rd hZ0 (by have := wd_len_add X Y; omega) (by omega)).mono ?_
      rw [hr, HT.out]
      rintro e w5 ⟨A5, d5, B5, e5, rfl, k5, k6, k7, hx5⟩
      have K5 := Lib.hid (k5.lower (show w.heap.size + 3 ≤ w4.heap.size by have := HX4.out.size; have := HZ0.out; omega))
      have K6 := Lib.hid (k6.lower (show w.heap.size + 3 ≤ w4.heap.size by have := HX4.out.size; have := HZ0.out; omega))
      have K7 := Lib.hid k7
      have HX5 := Lib.hid (HX4.out.trans hx5)
      have HXw := Lib.hid (HX.out.trans HX5.out)
      have r0 := HX5.out.cell HR0.out.1
      have r1 := HX5.out.cell HR0.out.2.1
      have r2 := HX5.out.cell HR0.out.2.2
      have f0 := (HX5.out.frozen HR0.out.1).trans (HRF.out 0)
      have f1 := (HX5.out.frozen HR0.out.2.1).trans (HRF.out 1)
      have f2 := (HX5.out.frozen HR0.out.2.2).trans (HRF.out 2)
      clear k5 k6 k7 hx5 u0 u1 u2 v0 v1 v2
      go_wp2_with fail
      exact bodyPost_ret (v := .tuple #[.agg #[.bool tt.1.neg, .slice A5 tt.1.num.length d5, .slice B5 tt.1.den.length e5], .int .i64 tt.2]) (by simp [results, Tryz.results78, go_sem, r0, r1, r2]) rfl (RatP.mk HT.out rfl (by refine Own.lower ?_ (show w.heap.size ≤ w.heap.size + 3 by omega); repeat (first | (with_reducible exact K5.out) | refine Own.setBelow ?_ (by simp; try omega) _)) (by refine Own.lower ?_ (show w.heap.size ≤ w.heap.size + 3 by omega); repeat (first | (with_reducible exact K6.out) | refine Own.setBelow ?_ (by simp; try omega) _)) K7.out (by repeat (first | (with_reducible exact HXw.out) | refine Ext.setCell ?_ (by simp; try omega) _)))
    · have hst : (s == t) = false := beq_eq_false_iff_ne.2 hne
      have hc : cmp X Y < 0 := cmp_lt_iff.2 hlt
      go_wp2_with fail
      refine (compare_any A1 A2 X Y _ _ _ (K1x.out.rd) (K2x.out.rd)).mono ?_; rintro e wc ⟨rfl, hxc⟩
      have K1x := Lib.hid (K1x.out.ext hxc)
      have K2x := Lib.hid (K2x.out.ext hxc)
      have K3 := Lib.hid (K3.out.ext hxc)
      have HXa := Lib.hid (HXa.out.trans hxc)
      have F3 := six_ext hxc F3
      clear hxc
      go_wp2_with fail
      refine (sub_any A2 A1 Y X d2 d1 _ K2x.out.rd K1x.out.rd (by omega) (by omega)).mono ?_
      rintro e w4 ⟨A4, d4, rfl, k4, hx4⟩
      have K4 := Lib.hid k4
      have HX4 := Lib.hid (HXa.out.trans hx4)
      obtain ⟨u0, u1, u2, v0, v1, v2⟩ := six_ext hx4 F3
      have KZ := Lib.hid (K3.out.ext hx4)
      clear k4 hx4 F3
      go_wp2_with fail
      refine (lowest_any t A4 A3 (Y - X) Z d4 d3 _ K4.out.rd KZ.out.rd hZ0 (by have := wd_len_mono (Nat.sub_le Y X); omega) (by omega)).mono ?_
      rw [hr, HT.out]
      rintro e w5 ⟨A5, d5, B5, e5, rfl, k5, k6, k7, hx5⟩
      have K5 := Lib.hid (k5.lower (show w.heap.size + 3 ≤ w4.heap.size by have := HX4.out.size; have := HZ0.out; omega))
      have K6 := Lib.hid (k6.lower (show w.heap.size + 3 ≤ w4.heap.size by have := HX4.out.size; have := HZ0.out; omega))
      have K7 := Lib.hid k7
      have HX5 := Lib.hid (HX4.out.trans hx5)
      have HXw := Lib.hid (HX.out.trans HX5.out)
      have r0 := HX5.out.cell HR0.out.1
      have r1 := HX5.out.cell HR0.out.2.1
      have r2 := HX5.out.cell HR0.out.2.2
      have f0 := (HX5.out.frozen HR0.out.1).trans (HRF.out 0)
      have f1 := (HX5.out.frozen HR0.out.2.1).trans (HRF.out 1)
      have f2 := (HX5.out.frozen HR0.out.2.2).trans (HRF.out 2)
      clear k5 k6 k7 hx5 u0 u1 u2 v0 v1 v2
      go_wp2_with fail
      exact bodyPost_ret (v := .tuple #[.agg #[.bool tt.1.neg, .slice A5 tt.1.num.length d5, .slice B5 tt.1.den.length e5], .int .i64 tt.2]) (by simp [results, Tryz.results78, go_sem, r0, r1, r2]) rfl (RatP.mk HT.out rfl (by refine Own.lower ?_ (show w.heap.size ≤ w.heap.size + 3 by omega); repeat (first | (with_reducible exact K5.out) | refine Own.setBelow ?_ (by simp; try omega) _)) (by refine Own.lower ?_ (show w.heap.size ≤ w.heap.size + 3 by omega); repeat (first | (with_reducible exact K6.out) | refine Own.setBelow ?_ (by simp; try omega) _)) K7.out (by repeat (first | (with_reducible exact HXw.out) | refine Ext.setCell ?_ (by simp; try omega) _)))
    · have hst : (s == t) = false := beq_eq_false_iff_ne.2 hne
      have hc : ¬ cmp X Y < 0 := fun h => by have := cmp_lt_iff.1 h; omega
      go_wp2_with fail
      refine (compare_any A1 A2 X Y _ _ _ (K1x.out.rd) (K2x.out.rd)).mono ?_; rintro e wc ⟨rfl, hxc⟩
      have K1x := Lib.hid (K1x.out.ext hxc)
      have K2x := Lib.hid (K2x.out.ext hxc)
      have K3 := Lib.hid (K3.out.ext hxc)
      have HXa := Lib.hid (HXa.out.trans hxc)
      have F3 := six_ext hxc F3
      clear hxc
      go_wp2_with fail
      refine (sub_any A1 A2 X Y d1 d2 _ K1x.out.rd K2x.out.rd (by omega) (by omega)).mono ?_
      rintro e w4 ⟨A4, d4, rfl, k4, hx4⟩
      have K4 := Lib.hid k4
      have HX4 := Lib.hid (HXa.out.trans hx4)
      obtain ⟨u0, u1, u2, v0, v1, v2⟩ := six_ext hx4 F3
      have KZ := Lib.hid (K3.out.ext hx4)
      clear k4 hx4 F3
      go_wp2_with fail
      refine (lowest_any s A4 A3 (X - Y) Z d4 d3 _ K4.out.rd KZ.out.rd hZ0 (by have := wd_len_mono (Nat.sub_le X Y); omega) (by omega)).mono ?_
      rw [hr, HT.out]
      rintro e w5 ⟨A5, d5, B5, e5, rfl, k5, k6, k7, hx5⟩
      have K5 := Lib.hid (k5.lower (show w.heap.size + 3 ≤ w4.heap.size by have := HX4.out.size; have := HZ0.out; omega))
      have K6 := Lib.hid (k6.lower (show w.heap.size + 3 ≤ w4.heap.size by have := HX4.out.size; have := HZ0.out; omega))
      have K7 := Lib.hid k7
      have HX5 := Lib.hid (HX4.out.trans hx5)
      have HXw := Lib.hid (HX.out.trans HX5.out)
      have r0 := HX5.out.cell HR0.out.1
      have r1 := HX5.out.cell HR0.out.2.1
      have r2 := HX5.out.cell HR0.out.2.2
      have f0 := (HX5.out.frozen HR0.out.1).trans (HRF.out 0)
      have f1 := (HX5.out.frozen HR0.out.2.1).trans (HRF.out 1)
      have f2 := (HX5.out.frozen HR0.out.2.2).trans (HRF.out 2)
      clear k5 k6 k7 hx5 u0 u1 u2 v0 v1 v2
      go_wp2_with fail
      exact bodyPost_ret (v := .tuple #[.agg #[.bool tt.1.neg, .slice A5 tt.1.num.length d5, .slice B5 tt.1.den.length e5], .int .i64 tt.2]) (by simp [results, Tryz.results78, go_sem, r0, r1, r2]) rfl (RatP.mk HT.out rfl (by refine Own.lower ?_ (show w.heap.size ≤ w.heap.size + 3 by omega); repeat (first | (with_reducible exact K5.out) | refine Own.setBelow ?_ (by simp; try omega) _)) (by refine Own.lower ?_ (show w.heap.size ≤ w.heap.size + 3 by omega); repeat (first | (with_reducible exact K6.out) | refine Own.setBelow ?_ (by simp; try omega) _)) K7.out (by repeat (first | (with_reducible exact HXw.out) | refine Ext.setCell ?_ (by simp; try omega) _)))
theorem plus_fr (a b : Fr) (A B C D : Option Addr) (c1 c2 c3 c4 : Nat) (w : World) (ha : Rd w A c1 a.num) (hb : Rd w B c2 a.den) (hc : Rd w C c3 b.num) (hd : Rd w D c4 b.den) (wa : a.Wf) (wb : b.Wf) (h : fchk a = 0) (k : fchk b = 0) (r : Rat) (hr : a.q + b.q = r) :
    Calls Tryz.prog 78 #[.agg #[.bool a.neg, .slice A a.num.length c1, .slice B a.den.length c2], .agg #[.bool b.neg, .slice C b.num.length c3, .slice D b.den.length c4]] w (RatP w (tell r)) := by
  obtain ⟨p, rfl, lp⟩ := fchk_ok wa h
  obtain ⟨q, rfl, lq⟩ := fchk_ok wb k
  rw [dec_enc, dec_enc] at hr
  subst hr
  have h1 := not_lng lp
  have h2 := not_lng lq
  exact plus_gen (decide (p.num < 0)) (decide (q.num < 0)) A B C D p.num.natAbs p.den q.num.natAbs q.den c1 c2 c3 c4 w (p + q) ha hb hc hd p.den_nz q.den_nz h1.1 h1.2 h2.1 h2.2 (plus_cases p q)
end Go.Proofs.YtjoonfegjobgbaaGreatDoor
