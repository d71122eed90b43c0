/- The reference's Common, DivMod, Gcd. -/
import Derived.Test.YtnhgagfkepmanaaG6
namespace Go.Proofs.Ytnhgagfkepmanaa
open Go Go.RowKit

set_option maxHeartbeats 2000000 in
theorem gcommon_any (A B : Option Addr) (m n c d : Nat) (w : World) (ha : Rd w A c (wd m)) (hb : Rd w B d (wd n)) (lm : (wd m).length ≤ 8192) (ln : (wd n).length ≤ 8192) :
    Calls Try.prog 60 #[.slice A (wd m).length c, .slice B (wd n).length d] w fun e w' => ∃ A c, e = .returned (.slice A (wd (Nat.gcd m n)).length c) ∧ Own w' w.heap.size A c (wd (Nat.gcd m n)) ∧ Ext w w' := by
  have HA := Lib.hid ha
  have HB := Lib.hid hb
  clear ha hb
  go_enter Try.func60, Try.ntmps60
  go_wp2_with fail
  go_loopg [0, 1] n (fun q x y wr => ∃ (p : Nat) (P Q : Option Addr) (cp cq : Nat), x = .slice P (wd p).length cp ∧ y = .slice Q (wd q).length cq ∧ Hid (Nat.gcd p q = Nat.gcd m n) ∧ (wd p).length ≤ 8192 ∧ (wd q).length ≤ 8192 ∧ Hid (Rd wr P cp (wd p)) ∧ Hid (Rd wr Q cq (wd q)) ∧ Hid (Ext w wr))
  case atStart => exact ⟨m, A, B, c, d, rfl, rfl, rfl, lm, ln, HA.out, HB.out, Ext.refl _⟩
  case round =>
    clear HA HB
    obtain ⟨p, P, Q, cp, cq, rfl, rfl, hg, lp, lq, HP, HQ, HX⟩ := hrel
    obtain ⟨q, rfl⟩ : ∃ q, q = gk := ⟨_, rfl⟩
    have hgc := Lib.hid (gcd_step p q)
    by_cases h0 : (wd q).length = 0
    · have hq0 : q = 0 := wd_len_zero.1 h0
      have HE := Lib.hid (show p = Nat.gcd m n by rw [← hg.out, hq0, Nat.gcd_zero_right])
      have hbe : ¬ (0 : Int) < ((wd q).length : Int) := by omega
      clear hq0 h0
      go_wp2_with fail
      refine (gtrim_any _ _ _ _ p _ HP.out rfl (wf_wd p) (val_wd p) (by omega)).mono ?_; rintro e w5 ⟨A5, c5, rfl, h5, hx5⟩
      have H5 := Lib.hid (h5.lower HX.out.size)
      have HX5 := Lib.hid (HX.out.trans hx5)
      clear h5 hx5
      go_wp2_with fail
      go_ret
      exact ⟨A5, c5, by rw [← HE.out]; rfl, by rw [← HE.out]; exact H5.out, HX5.out⟩
    · have hq0 : q ≠ 0 := fun e => h0 (wd_len_zero.2 e)
      have hbe : (0 : Int) < ((wd q).length : Int) := by omega
      have hml : p % q < q := Nat.mod_lt p (by omega)
      have hml2 := wd_len_mono (show p % q ≤ q by omega)
      obtain ⟨s, hs⟩ : ∃ s, p / q = s := ⟨_, rfl⟩
      obtain ⟨r, hr⟩ : ∃ r, p % q = r := ⟨_, rfl⟩
      have HV := Lib.hid (gover_any P Q p q cp cq wr HP.out HQ.out hq0 lp s r hs hr)
      rw [hr] at hml hml2 hgc
      clear hs hr h0
      go_wp2_with fail
      refine HV.out.mono ?_; rintro e w3 ⟨A3, c3, B3, d3, rfl, h1, h2, h4⟩
      have HQ3 := Lib.hid (HQ.out.ext h4)
      have HR3 := Lib.hid h2.rd
      have HX3 := Lib.hid (HX.out.trans h4)
      clear h1 h2 h4
      go_wp2_with fail
      go_roundg r
      case measure => exact hml
      case rel => exact ⟨q, Q, B3, cq, d3, rfl, rfl, hgc.out.trans hg.out, lq, by omega, HQ3.out, HR3.out, HX3.out⟩

set_option maxHeartbeats 1000000 in
theorem gdivMod_any (A B : Option Addr) (m n c d : Nat) (w : World) (ha : Rd w A c (wd m)) (hb : Rd w B d (wd n)) (hn : n ≠ 0) (lm : (wd m).length ≤ 8192) (ln : (wd n).length ≤ 8192) (Q R : Nat) (hQ : m / n = Q) (hR : m % n = R) :
    Calls Try.prog 61 #[.slice A (wd m).length c, .slice B (wd n).length d] w fun e w' => ∃ A c B d, e = .returned (.tuple #[.slice A (wd Q).length c, .slice B (wd R).length d, .int .i64 0]) ∧ Own w' w.heap.size A c (wd Q) ∧ Own w' w.heap.size B d (wd R) ∧ Ext w w' := by
  have HA := Lib.hid ha
  have HB := Lib.hid hb
  have h0 : (((wd n).length : Int) == 0) = false := beq_eq_false_iff_ne.2 (fun e => hn (wd_len_zero.1 (by omega)))
  have HV := Lib.hid (gover_any A B m n c d w ha hb hn lm Q R hQ hR)
  clear ha hb hQ hR
  go_enter Try.func61, Try.ntmps61
  go_wp2_with fail
  refine (gboth_ok _ _ m n _ _ _ HA.out HB.out lm ln).mono ?_; rintro e w1 ⟨rfl, rfl⟩
  go_wp2_with fail
  refine HV.out.mono ?_; rintro e w3 ⟨A3, c3, B3, d3, rfl, h1, h2, h4⟩
  have H1 := Lib.hid h1
  have H2 := Lib.hid h2
  have H4 := Lib.hid h4
  clear h1 h2 h4
  go_wp2_with fail
  go_ret3
  exact ⟨A3, c3, B3, d3, rfl, H1.out, H2.out, H4.out⟩

set_option maxHeartbeats 1000000 in
theorem ggcd_any (A B : Option Addr) (m n c d : Nat) (w : World) (ha : Rd w A c (wd m)) (hb : Rd w B d (wd n)) (lm : (wd m).length ≤ 8192) (ln : (wd n).length ≤ 8192) (lg : (wd (Nat.gcd m n)).length ≤ 8192) :
    Calls Try.prog 41 #[.slice A (wd m).length c, .slice B (wd n).length d] w (One w (Nat.gcd m n)) := by
  have HA := Lib.hid ha
  have HB := Lib.hid hb
  clear ha hb
  go_enter Try.func41, Try.ntmps41
  go_wp2_with fail
  refine (gboth_ok _ _ m n _ _ _ HA.out HB.out lm ln).mono ?_; rintro e w1 ⟨rfl, rfl⟩
  go_wp2_with fail
  refine (gcommon_any _ _ m n _ _ _ HA.out HB.out lm ln).mono ?_; rintro e w1 ⟨A1, c1, rfl, h1, hx1⟩
  have H1 := Lib.hid h1
  have HX1 := Lib.hid hx1
  clear h1 hx1
  go_wp2_with fail
  refine (gtold_ok _ _ _ _ lg).mono ?_; rintro e w2 ⟨rfl, rfl⟩
  go_wp2_with fail
  go_ret2
  exact ⟨A1, c1, rfl, H1.out, HX1.out⟩

end Go.Proofs.Ytnhgagfkepmanaa
