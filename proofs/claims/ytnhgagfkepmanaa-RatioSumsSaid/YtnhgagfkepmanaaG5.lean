/- The reference's digit. -/
import Derived.Test.YtnhgagfkepmanaaG4
namespace Go.Proofs.Ytnhgagfkepmanaa
open Go Go.RowKit

set_option maxHeartbeats 1000000 in
theorem gbelow_any (A B : Option Addr) (xs : List Int) (c d l m D x : Nat) (w : World) (ha : Rd w A c xs) (hb : Rd w B d (wd D)) (hl : xs.length = l) (hx : Wf xs) (hm : val xs = m) (hlx : x < 18446744073709551616) (lD : (wd D).length ≤ 8192) :
    Calls Try.prog 90 #[.slice A l c, .slice B (wd D).length d, .int .u64 x] w fun e w' => e = .returned (.bool (decide (m < D * x))) ∧ Ext w w' := by
  have HA := Lib.hid ha
  have HB := Lib.hid hb
  have HL := Lib.hid hl
  have HW := Lib.hid hx
  have HM := Lib.hid hm
  have HE := Lib.hid (show decide (cmp m (D * x) < 0) = decide (m < D * x) from decide_eq_decide.2 cmp_lt_iff)
  have hx2 := wd_two' x hlx
  obtain ⟨P, hP⟩ : ∃ P, P = D * x := ⟨_, rfl⟩
  rw [← hP] at HE ⊢
  have HP := Lib.hid hP
  clear ha hb hl hx hm hP
  go_enter Try.func90, Try.ntmps90
  go_wp2_with fail
  refine (gof_any x _ hlx).mono ?_; rintro e w1 ⟨A1, c1, rfl, h1, hx1⟩
  have H1 := Lib.hid h1
  have HX1 := Lib.hid hx1
  clear h1 hx1
  go_wp2_with fail
  refine (gtimes_any _ _ D x _ _ _ (HB.out.ext HX1.out) H1.out.rd (by omega)).mono ?_
  rw [← HP.out]
  rintro e w2 ⟨A2, c2, rfl, h2, hx2⟩
  have H2 := Lib.hid h2
  have HX2 := Lib.hid (HX1.out.trans hx2)
  clear h2 hx2
  go_wp2_with fail
  refine (gcompare_any _ _ xs (wd P) _ _ _ _ m P _ (HA.out.ext HX2.out) H2.out.rd HL.out rfl HW.out (wf_wd P) HM.out (val_wd P)).mono ?_
  rintro e w3 ⟨rfl, rfl⟩
  go_wp2_with fail
  go_ret
  exact ⟨by rw [← HE.out]; rfl, HX2.out⟩

set_option maxHeartbeats 1000000 in
theorem goff_any (B : Option Addr) (xs : List Int) (g o C c d l base m D x : Nat) (w : World) (ho : Own w base (some ⟨g, 0, none⟩) C xs) (hb : Rd w B d (wd D)) (hlen : o + l ≤ xs.length) (hx : Wf xs) (hm : Vo xs o l = m) (hDx : D * x ≤ m) (hlx : x < 18446744073709551616) (lD : (wd D).length ≤ 8192) (ll : l ≤ 8193) (hc : l ≤ c) (hcm : c ≤ 9223372036854775807) :
    Calls Try.prog 91 #[.slice (some ⟨g, o, none⟩) l c, .slice B (wd D).length d, .int .u64 x] w fun e w' => ∃ us : List Int, e = .returned (.tuple #[]) ∧ us.length = xs.length ∧ Wf us ∧ Vo us o l = ((m - D * x : Nat) : Int) ∧ (∀ j, j < o ∨ o + l ≤ j → nth us j = nth xs j) ∧ Own w' base (some ⟨g, 0, none⟩) C us ∧ w.grownBy w' (some g) := by
  have HO := Lib.hid ho
  have HB := Lib.hid hb
  have HW := Lib.hid hx
  have HM := Lib.hid hm
  have hx2 := wd_two' x hlx
  have hzl : (wd (m - D * x)).length ≤ l := wd_len_le _ _ (by have := (Vo_bd hx o l).2; omega)
  have HOl := Lib.hid ho.rd.cap
  have HOm := Lib.hid ho.rd.capm
  obtain ⟨P, hP⟩ : ∃ P, P = D * x := ⟨_, rfl⟩
  rw [← hP] at hzl hDx ⊢
  have HP := Lib.hid hP
  clear ho hb hx hm hP
  go_enter Try.func91, Try.ntmps91
  go_wp2_with fail
  refine (gof_any x _ hlx).mono ?_; rintro e w1 ⟨A1, c1, rfl, h1, hx1⟩
  have H1 := Lib.hid h1
  have HX1 := Lib.hid hx1
  clear h1 hx1
  go_wp2_with fail
  refine (gtimes_any _ _ D x _ _ _ (HB.out.ext HX1.out) H1.out.rd (by omega)).mono ?_
  rw [← HP.out]
  rintro e w2 ⟨A2, c2, rfl, h2, hx2⟩
  have H2 := Lib.hid h2
  have HX2 := Lib.hid (HX1.out.trans hx2)
  clear h2 hx2
  go_wp2_with fail
  refine (gless_any _ _ ((xs.drop o).take l) P c _ l m _ (((HO.out.ext HX2.out).sub o l c hlen hc hcm)) H2.out.rd (sub_len _ _ _ hlen) (wf_take (wf_drop HW.out o) l) (by unfold val; rw [sub_len _ _ _ hlen, V_sub]; exact HM.out) hDx (by omega)).mono ?_
  rintro e w3 ⟨A3, c3, rfl, h3, hx3⟩
  have HOb := Lib.hid (show g < w.heap.size from HO.out.block.2)
  have HAp : Hid (∀ a, A3 = some a → a.block ≠ g) := fun a ha e => by
    subst ha
    have h4 := h3.block.1
    have h5 := HX2.out.size
    have h6 := HOb.out
    omega
  have HZ := Lib.hid h3.rd
  have HX3 := Lib.hid (HX2.out.trans hx3)
  have HO3 := Lib.hid (HO.out.ext HX3.out)
  obtain ⟨Z, hZ⟩ : ∃ Z, Z = wd (m - P) := ⟨_, rfl⟩
  rw [← hZ] at HZ hzl ⊢
  have HZZ := Lib.hid hZ
  have HG3 := Lib.hid (HX3.out.by_ (some g))
  clear h3 hx3 hZ H1 H2 HX1 HX2
  go_wp2_with fail
  go_loopw [7] (fun i wr => ∃ (k : Nat) (us : List Int), k ≤ l ∧ Hid (us.length = xs.length) ∧ Hid (Wf us) ∧ Hid (∀ j, j < k → nth us (o + j) = nth Z j) ∧ Hid (∀ j, j < o ∨ o + k ≤ j → nth us j = nth xs j) ∧ i = .int .i64 k ∧ Hid (Own wr base (some ⟨g, 0, none⟩) C us) ∧ Hid (w3.grownBy wr (some g))) (fun i _ => l - (intOf i).toNat)
  case atStart => exact ⟨0, xs, by omega, rfl, HW.out, fun j hj => by omega, fun _ _ => rfl, rfl, HO3.out, World.grownBy.refl _ _⟩
  case round =>
    obtain ⟨k, us, hk, HUL, HU, HA, HR, rfl, HOu, HG⟩ := hrel
    by_cases hkl : k < l
    · have hco := HOu.out.cell (o + k) (by have := HUL.out; omega)
      have hfo := HOu.out.free (o + k)
      have bz := nth_wf (show Wf Z by rw [HZZ.out]; exact wf_wd _) k
      have HWd := Lib.hid (gword_any A3 Z c3 Z.length k wr (HZ.out.kept HG.out (fun a ha e => by injection e with e; exact HAp.out a ha e)) rfl)
      go_wp2_with fail
      refine HWd.out.mono ?_; rintro e w' ⟨rfl, rfl⟩
      go_wp2_with fail
      go_roundw
      case rel => exact ⟨k + 1, _, by omega, by unfold Hid; rw [List.length_set]; exact HUL.out, wf_set HU.out _ _ bz.1 bz.2, fun j hj => by
          by_cases e : j = k
          · rw [e, nth_set_self _ _ _ (by have := HUL.out; omega)]
          · rw [nth_set_ne _ _ _ _ (by omega)]; exact HA.out j (by omega), fun j hj => by rw [nth_set_ne _ _ _ _ (by omega)]; exact HR.out j (by omega), by go_num, (HOu.out.set (o + k) _).1, grown_trans HG.out (HOu.out.set (o + k) _).2⟩
      case measure => simp [intOf]; omega
    · have hkk : k = l := by omega
      subst hkk
      have HV := Lib.hid (show Vo us o k = ((m - P : Nat) : Int) by
        have h1 : Vo us o k = V Z k := by
          unfold Vo
          exact V_congr k fun j hj => by rw [nth_drop]; exact HA.out j hj
        rw [h1, V_out _ _ hzl, HZZ.out, val_wd])
      go_wp2_with fail
      go_end0
      exact ⟨us, rfl, HUL.out, HU.out, HV.out, HR.out, HOu.out, grown_trans HG3.out HG.out⟩

/-- the first words tell a number that is not less than the quotient -/
theorem first_ge (us vs : List Int) (n : Nat) (hu : Wf us) (hv : Wf vs) (h1 : 0 < nth vs n) (m D : Nat) (hm : V us (n + 2) = m) (hD : V vs (n + 1) = D) : (m / D : Nat) ≤ (nth us (n + 1) * 4294967296 + nth us n) / nth vs n := by
  have hd0 : 0 < D := by
    have a := V_nonneg hv n
    have b := Int.mul_pos h1 (pw_pos n)
    rw [V_succ] at hD
    omega
  rw [V_succ, V_succ] at hm
  rw [V_succ] at hD
  generalize ht : nth us (n + 1) * 4294967296 + nth us n = top
  have hq : (0 : Int) ≤ ((m / D : Nat) : Int) := Int.natCast_nonneg _
  apply Int.le_ediv_of_mul_le h1
  rcases Int.lt_or_le top ((m / D : Nat) * nth vs n) with hlt | hle
  · exfalso
    have e := Nat.div_mul_le_self m D
    have a := V_lt hu n
    have b := V_nonneg hv n
    have e1 : (top + 1) * pw n ≤ ((m / D : Nat) : Int) * nth vs n * pw n := Int.mul_le_mul_of_nonneg_right (by omega) (Int.le_of_lt (pw_pos n))
    have e2 : ((m / D : Nat) : Int) * (nth vs n * pw n) ≤ ((m / D : Nat) : Int) * D := Int.mul_le_mul_of_nonneg_left (by omega) hq
    have e3 : ((m / D : Nat) : Int) * D ≤ m := by rw [← Int.natCast_mul]; omega
    rw [pw_succ] at hm
    rw [Int.add_mul, Int.one_mul] at e1
    rw [Int.mul_assoc] at e1
    have e4 : top * pw n = nth us (n + 1) * (4294967296 * pw n) + nth us n * pw n := by rw [← ht, Int.add_mul, Int.mul_assoc]
    omega
  · exact hle

set_option maxHeartbeats 1000000 in
theorem gdigit_any (B : Option Addr) (xs : List Int) (g o C c d n base m D : Nat) (w : World) (ho : Own w base (some ⟨g, 0, none⟩) C xs) (hb : Rd w B d (wd D)) (hlen : o + (n + 2) ≤ xs.length) (hx : Wf xs) (hm : Vo xs o (n + 2) = m) (hD : (wd D).length = n + 1) (hlt : m < D * 4294967296) (lD : (wd D).length ≤ 8192) (hc : n + 2 ≤ c) (hcm : c ≤ 9223372036854775807) (hne : ∀ b, B = some b → b.block ≠ g) (L : Nat) (hL : L = n + 1) :
    Calls Try.prog 88 #[.slice (some ⟨g, o, none⟩) (L + 1) c, .slice B L d] w fun e w' => ∃ (us : List Int) (x : Nat), x = m / D ∧ x < 4294967296 ∧ e = .returned (.int .u32 x) ∧ us.length = xs.length ∧ Wf us ∧ Vo us o (n + 2) = ((m % D : Nat) : Int) ∧ (∀ j, j < o ∨ o + (n + 2) ≤ j → nth us j = nth xs j) ∧ Own w' base (some ⟨g, 0, none⟩) C us ∧ w.grownBy w' (some g) := by
  have hD0 : D ≠ 0 := fun e => by have := wd_len_zero.2 e; omega
  have htop := wd_last D hD0
  rw [hD, Nat.add_sub_cancel] at htop
  have bv := nth_wf (wf_wd D) n
  have hxq : m / D < 4294967296 := Nat.div_lt_of_lt_mul hlt
  have hge := first_ge (xs.drop o) (wd D) n (wf_drop hx o) (wf_wd D) (by omega) m D hm (by have := val_wd D; unfold val at this; rw [hD] at this; exact this)
  rw [nth_drop, nth_drop] at hge
  obtain ⟨b, rfl, hcb⟩ := hb.at_ n (by omega)
  have hc1 := ho.cell (o + (n + 1)) (by omega)
  have hc0 := ho.cell (o + n) (by omega)
  have b1 := nth_wf hx (o + (n + 1))
  have b0 := nth_wf hx (o + n)
  obtain ⟨x1, hx1⟩ : ∃ x, x = nth xs (o + (n + 1)) := ⟨_, rfl⟩
  obtain ⟨x0, hx0⟩ : ∃ x, x = nth xs (o + n) := ⟨_, rfl⟩
  obtain ⟨v, hv⟩ : ∃ x, x = nth (wd D) n := ⟨_, rfl⟩
  rw [← hx1] at hc1 b1 hge
  rw [← hx0] at hc0 b0 hge
  rw [← hv] at hcb bv htop hge
  obtain ⟨top, ht⟩ : ∃ t, t = x1 * 4294967296 + x0 := ⟨_, rfl⟩
  rw [← ht] at hge
  have hq0 : 0 ≤ top / v := Int.ediv_nonneg (by omega) (by omega)
  obtain ⟨q, hq⟩ : ∃ q : Nat, (q : Int) = min (top / v) 4294967295 := ⟨(min (top / v) 4294967295).toNat, by omega⟩
  have hqge : m / D ≤ q := by omega
  have hqlt : q < 4294967296 := by omega
  have hmin : Min.min (top / v) 4294967295 = (q : Int) := hq.symm
  have HDm := Lib.hid (show m - D * (m / D) = m % D from by have := Nat.div_add_mod m D; omega)
  have HDl := Lib.hid (show D * (m / D) ≤ m from by have := Nat.div_add_mod m D; omega)
  have HXQ := Lib.hid hxq
  have HG := Lib.hid hqge
  have HO := Lib.hid ho
  have HB := Lib.hid hb
  have HW := Lib.hid hx
  have HM := Lib.hid hm
  have HN := Lib.hid hne
  have HLL := Lib.hid hL
  have HDL := Lib.hid (show (wd D).length = L by omega)
  have w1 : IntKind.i64.wrap ((L : Int) - 1) = (n : Int) := by rw [IntWalk.i64_in _ (by omega)]; omega
  have i1 : (n : Int) < (L : Int) := by omega
  have i2 : (n : Int) < (L : Int) + 1 := by omega
  rw [← hL] at hc1
  have hLc : L + 1 ≤ c := by omega
  have s1 : IntKind.u64.wrap (x1 * 4294967296) = x1 * 4294967296 := IntWalk.u64_in _ (by omega)
  have s2 : IntKind.u64.wrap (x1 * 4294967296 + x0) = top := by rw [IntWalk.u64_in _ (by omega), ht]
  have hdz : (v == 0) = false := beq_eq_false_iff_ne.2 htop
  have tb : 0 ≤ top ∧ top ≤ 18446744073709551615 := by omega
  have HTOP := Lib.hid ht
  clear ho hb hx hm hD hxq hge hqge hq hL hx1 hx0 hv ht hne hlt
  go_enter Try.func88, Try.ntmps88
  go_wp2_with fail
  go_quiet (fail)
  go_wp2_with fail
  have HSUB : Hid (∀ wx, Ext w wx → Rd wx (some ⟨g, o, none⟩) c ((xs.drop o).take (L + 1)) ∧ ((xs.drop o).take (L + 1)).length = L + 1 ∧ Wf ((xs.drop o).take (L + 1)) ∧ val ((xs.drop o).take (L + 1)) = m) := fun wx hx => by
    have hl2 : o + (L + 1) ≤ xs.length := by have := HLL.out; omega
    refine ⟨(HO.out.ext hx).sub o (L + 1) c hl2 (by omega) hcm, sub_len _ _ _ hl2, wf_take (wf_drop HW.out o) _, ?_⟩
    unfold val
    rw [sub_len _ _ _ hl2, V_sub, HLL.out]
    exact HM.out
  go_wp2_with fail
  go_loopw [7] (fun xx wr => ∃ x : Nat, m / D ≤ x ∧ x < 4294967296 ∧ xx = .int .u64 x ∧ Hid (Ext w wr)) (fun xx _ => (intOf xx).toNat)
  case atStart => exact ⟨q, HG.out, hqlt, rfl, (Ext.refl w).drewN _⟩
  case round =>
    obtain ⟨x, hgx, hxlt, rfl, HX⟩ := hrel
    obtain ⟨hs1, hs2, hs3, hs4⟩ := HSUB.out wr HX.out
    have HBW := gbelow_any (some ⟨g, o, none⟩) (some b) _ c d (L + 1) m D x wr hs1 (HB.out.ext HX.out) hs2 hs3 hs4 (by omega) lD
    rw [HDL.out] at HBW
    have HBE := Lib.hid HBW
    have HGX := Lib.hid hgx
    clear hs1 hs2 hs3 hs4 HBW hgx
    by_cases hbl : m < D * x
    · have hbd : decide (m < D * x) = true := decide_eq_true hbl
      rw [hbd] at HBE
      have hx1 : m / D + 1 ≤ x := by
        have := HGX.out
        rcases Nat.lt_or_ge (m / D) x with h | h
        · exact h
        · have e : x = m / D := Nat.le_antisymm h this
          rw [e] at hbl
          have := HDl.out
          omega
      have HX1 := Lib.hid hx1
      have hx1' : 1 ≤ x := Nat.lt_of_lt_of_le (Nat.succ_pos _) hx1
      clear hx1 hbd hbl
      go_wp2_with fail
      refine HBE.out.mono ?_; rintro e w4 ⟨rfl, hx4⟩
      have HX4 := Lib.hid (HX.out.trans hx4)
      clear hx4
      go_wp2_with fail
      go_roundw
      case rel => exact ⟨x - 1, Nat.le_sub_of_add_le HX1.out, by omega, by rw [Int.natCast_sub hx1']; rfl, HX4.out⟩
      case measure => simp [intOf]; omega
    · have hbd : decide (m < D * x) = false := decide_eq_false hbl
      rw [hbd] at HBE
      have HXE := Lib.hid (show x = m / D by
        have h1 := HGX.out
        have h2 : x ≤ m / D := (Nat.le_div_iff_mul_le (by omega)).2 (by rw [Nat.mul_comm x D]; exact Nat.le_of_not_lt hbl)
        exact Nat.le_antisymm h2 h1)
      clear hbd hbl
      go_wp2_with fail
      refine HBE.out.mono ?_; rintro e w4 ⟨rfl, hx4⟩
      have HX4 := Lib.hid (HX.out.trans hx4)
      clear hx4
      go_wp2_with fail
      have HOF := goff_any (some b) xs g o C c d (n + 2) base m D x w4 (HO.out.ext HX4.out) (HB.out.ext HX4.out) hlen HW.out HM.out (by rw [HXE.out]; exact HDl.out) (by omega) lD (by have := HDL.out; have := HLL.out; omega) hc hcm
      rw [show n + 2 = L + 1 by have := HLL.out; omega, HDL.out] at HOF
      refine HOF.mono ?_
      clear HOF
      rintro e w5 ⟨us, rfl, h1, h2, h3, h4, h5, h6⟩
      rw [show L + 1 = n + 2 by have := HLL.out; omega] at h3 h4
      have K1 := Lib.hid h1
      have K2 := Lib.hid h2
      have K3 := Lib.hid (show Vo us o (n + 2) = ((m % D : Nat) : Int) by rw [h3, HXE.out, HDm.out])
      have K4 := Lib.hid h4
      have K5 := Lib.hid h5
      have K6 := Lib.hid (grown_trans (HX4.out.by_ (some g)) h6)
      clear h1 h2 h3 h4 h5 h6
      go_wp2_with fail
      go_ret
      exact ⟨us, x, HXE.out, hxlt, rfl, K1.out, K2.out, K3.out, K4.out, K5.out, K6.out⟩

end Go.Proofs.Ytnhgagfkepmanaa
