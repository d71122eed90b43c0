/- nat.divide by a number of more than one word. -/
import Derived.Test.YtnhgagfkepmanaaN12
namespace Go.Proofs.Ytnhgagfkepmanaa
open Go Go.RowKit

theorem V_sub (us : List Int) (o l : Nat) : V ((us.drop o).take l) l = Vo us o l := V_take _ _ _ (Nat.le_refl _)

set_option maxHeartbeats 4000000 in
theorem divide_long (A B : Option Addr) (m n c d : Nat) (w : World) (ha : Rd w A c (wd m)) (hb : Rd w B d (wd n)) (hge : n ≤ m) (hn : 2 ≤ (wd n).length) (lm : (wd m).length ≤ 8192) :
    Calls Try.prog 56 #[.slice A (wd m).length c, .slice B (wd n).length d] w (Two w (m / n) (m % n)) := by
  have HA := Lib.hid ha
  have HB := Lib.hid hb
  have hc : ¬ cmp m n < 0 := fun h => by have := cmp_lt_iff.1 h; omega
  have hn0 : n ≠ 0 := fun e => by have := wd_len_zero.2 e; omega
  have hl1 : (((wd n).length : Int) == 1) = false := beq_eq_false_iff_ne.2 (by omega)
  have hlm := wd_len_mono hge
  obtain ⟨K, hK⟩ : ∃ K, (wd n).length = K + 2 := ⟨(wd n).length - 2, by omega⟩
  obtain ⟨b, rfl, hcb⟩ := hb.at_ (K + 1) (by omega)
  obtain ⟨K1, hK1⟩ : ∃ K1, K1 = K + 1 := ⟨_, rfl⟩
  have hi : (((wd n).length : Int) - 1).toNat = K1 := by omega
  have bt := nth_wf (wf_wd n) (K + 1)
  have hnz := wd_last n hn0
  rw [show (wd n).length - 1 = K + 1 by omega] at hnz
  obtain ⟨t, ht⟩ := Int.eq_ofNat_of_zero_le bt.1
  have HT := Lib.hid ht
  rw [ht] at hcb bt hnz
  rw [← hK1] at hcb
  have HK := Lib.hid hK
  have HK1 := Lib.hid hK1
  clear ha hb hK ht hK1
  have ht0 : 0 < t := by omega
  have ht1 : t < 4294967296 := by omega
  clear hnz
  go_enter Try.func56, Try.ntmps56
  go_wp2_with fail
  refine (compare_any _ _ _ _ _ _ _ HA.out HB.out).mono ?_; rintro e w1 ⟨rfl, hx1⟩
  have HX1 := Lib.hid hx1
  have hcb1 := hx1.cell hcb
  clear hx1 hcb
  go_wp2_with fail
  refine (lz_any t _ ht0 ht1).mono ?_; rintro e w2 ⟨s, hs, rfl, hs1, hs2, rfl⟩
  have HS1 := Lib.hid hs1
  have HS2 := Lib.hid hs2
  clear hs1 hs2
  have hnw := norm_words n s (K + 2) hn0 HK.out (by rw [show K + 2 - 1 = K + 1 from rfl, HT.out]; exact HS1.out) (by rw [show K + 2 - 1 = K + 1 from rfl, HT.out]; exact HS2.out)
  obtain ⟨D, hD⟩ : ∃ D, D = n * 2 ^ s := ⟨_, rfl⟩
  rw [← hD] at hnw
  have HD := Lib.hid hD
  have HNW := Lib.hid hnw
  clear hnw hD
  go_wp2_with fail
  refine (up_any _ _ _ _ _ (HB.out.ext HX1.out) (wf_wd n) hs (by omega)).mono ?_; rintro e w3 ⟨g1, vs0, rfl, hvl, hvw, hvv, hO3, hx3⟩
  have HV0 := Lib.hid (show val vs0 = ((D : Nat) : Int) by rw [hvv, val_wd, HD.out, Int.natCast_mul, Int.natCast_pow]; rfl)
  have HX3 := Lib.hid (HX1.out.trans hx3)
  have HO3 := Lib.hid (hO3.lower HX1.out.size)
  have HVL := Lib.hid hvl
  have HVW := Lib.hid hvw
  clear hvv hx3 hO3 hvl hvw
  go_wp2_with fail
  refine (cut_own _ _ _ _ _ _ HO3.out HVL.out HVW.out _ HV0.out).mono ?_; rintro e w4 ⟨rfl, hO4, rfl⟩
  have HOv := Lib.hid hO4
  clear hO4 HO3 HV0 HVL HVW
  go_wp2_with fail
  refine (up_any _ _ _ _ _ (HA.out.ext HX3.out) (wf_wd m) hs (by omega)).mono ?_; rintro e w5 ⟨g2, us0, rfl, hul, huw, huv, hO5, hx5⟩
  have HU0 := Lib.hid (show val us0 = ((m * 2 ^ s : Nat) : Int) by rw [huv, val_wd, Int.natCast_mul, Int.natCast_pow]; rfl)
  have HAp := Lib.hid (show g2 ≠ g1 from fun e => HOv.out.apart hO5 (Nat.le_refl _) _ _ rfl rfl e.symm)
  have HX5 := Lib.hid (HX3.out.trans hx5)
  have HOu := Lib.hid (hO5.lower HX3.out.size)
  have HOv := Lib.hid (HOv.out.ext hx5)
  have HUL := Lib.hid hul
  have HUW := Lib.hid huw
  clear huv hx5 hO5 hul huw
  have hDl : (wd D).length ≤ (wd m).length + 1 := by have := HNW.out.2.1; have := HK.out; omega
  obtain ⟨Lq, hLq⟩ : ∃ Lq, (wd m).length + 1 - (wd D).length = Lq := ⟨_, rfl⟩
  go_wp2_with (at_make; refine wpList_mk rfl _ _ rfl Lq _ _ rfl rfl (by rw [← hLq]; omega) (by rw [← hLq]; omega) (by omega) ?_; intro w6 hO6 hG6)
  have HOq := Lib.hid hO6
  have HAq := Lib.hid (show g2 ≠ w5.heap.size ∧ g1 ≠ w5.heap.size from ⟨fun e => by have := HOu.out.block.2; simp only at this; omega, fun e => by have := HOv.out.block.2; simp only at this; omega⟩)
  have HX6 := Lib.hid (HX5.out.trans hG6)
  have HQB := Lib.hid HX5.out.size
  have HOu := Lib.hid (HOu.out.ext hG6)
  have HOv := Lib.hid (HOv.out.ext hG6)
  have HLQ := Lib.hid hLq
  clear hO6 hG6 hLq HX5
  generalize hgq : w5.heap.size = gq at *
  clear hgq HX3 HX1 HT HS1 HS2 hcb1 bt
  have hB0 : 0 < (wd D).length := by have := HNW.out.2.1; omega
  have HM := Lib.hid (show (D : Int) < pw (wd D).length from wd_lt_pw D)
  have HBeg := Lib.hid (show ((m * 2 ^ s : Nat) : Int) < (D : Int) * pw Lq by
    have := div_begin m n s (K + 2) (wd m).length rfl (by omega) (by have := HK.out; omega) hs (by rw [← HD.out]; exact HNW.out.1)
    rw [← HD.out, show (wd m).length + 1 - (K + 2) = Lq by have := HLQ.out; have := HNW.out.2.1; omega] at this
    exact this)
  obtain ⟨L, hL⟩ : ∃ L, L = (wd D).length := ⟨_, rfl⟩
  rw [← hL] at HM hB0 hDl HLQ ⊢
  have HL := Lib.hid hL
  have hLK : L = K + 2 := hL.trans HNW.out.2.1
  have HLK := Lib.hid hLK
  have hL2 : 2 ≤ L := by omega
  clear hL hLK
  have hlq : Lq ≤ (wd m).length := by have := HLQ.out; omega
  go_wp2_with fail
  go_loopw [11] (fun i wr => ∃ (k : Nat) (us qs : List Int), k ≤ Lq ∧ Hid (us.length = (wd m).length + 1) ∧ Hid (qs.length = Lq) ∧ Hid (Wf us) ∧ Hid (Wf qs) ∧ Hid ((D : Int) * val qs + val us = ((m * 2 ^ s : Nat) : Int)) ∧ Hid (val us < (D : Int) * pw k) ∧ Hid (∀ j, j < k → nth qs j = 0) ∧ i = .int .i64 ((k : Int) - 1) ∧ Hid (Own wr w.heap.size (some ⟨g2, 0, none⟩) ((wd m).length + 1) us) ∧ Hid (Own wr w.heap.size (some ⟨gq, 0, none⟩) Lq qs) ∧ Hid (Own wr w.heap.size (some ⟨g1, 0, none⟩) ((wd n).length + 1) (wd D)) ∧ Hid (Ext w wr)) (fun i _ => (intOf i + 1).toNat)
  case atStart => exact ⟨Lq, us0, List.replicate Lq 0, by omega, HUL.out, List.length_replicate, HUW.out, wf_zeros _, by show _ = _; rw [show val (List.replicate Lq 0) = 0 from V_zeros _ _, Int.mul_zero, Int.zero_add]; exact HU0.out, by show _ < _; rw [HU0.out]; exact HBeg.out, fun j _ => nth_zeros _ _, rfl, HOu.out, HOq.out.lower HQB.out, HOv.out, HX6.out⟩
  case round =>
    clear HOu HOq HOv HX6 HUL HUW HU0 HBeg
    obtain ⟨k, us, qs, hk, HUL, HQL, HW, HQW, HE, HB', HZ, rfl, HOu, HOq, HOv, HX⟩ := hrel
    cases k with
    | zero =>
      have hq0 := HQW.out.val_nonneg
      have hu0 := HW.out.val_nonneg
      obtain ⟨vq, hvq⟩ := Int.eq_ofNat_of_zero_le hq0
      obtain ⟨vu, hvu⟩ := Int.eq_ofNat_of_zero_le hu0
      have hend := div_end m n s vq vu (by omega) (by have := HE.out; rw [hvq, hvu, HD.out] at this; exact this) (by have := HB'.out; rw [hvu, pw_zero, HD.out] at this; omega)
      have hlu : Vo us 0 L = vu := by
        have h1 := val_split us 0 L (by rw [HUL.out]; omega)
        have h2 := (Vo_bd HW.out (0 + L) (us.length - (0 + L))).1
        have h3 : Vo us (0 + L) (us.length - (0 + L)) = 0 := by
          have h4 := HB'.out
          rw [pw_zero, Int.mul_one] at h4
          have h5 := HM.out
          have h6 := (Vo_bd HW.out 0 L).1
          rw [V_zero, pw_zero] at h1
          rcases Int.lt_or_le 0 (Vo us (0 + L) (us.length - (0 + L))) with h7 | h7
          · have h8 : pw (0 + L) * 1 ≤ pw (0 + L) * Vo us (0 + L) (us.length - (0 + L)) := Int.mul_le_mul_of_nonneg_left (by omega) (Int.le_of_lt (pw_pos _))
            rw [Nat.zero_add] at h8 h1
            omega
          · omega
        rw [h3, V_zero, pw_zero, hvu] at h1
        omega
      have htk : val (us.take L) = vu := by
        have : (us.take L).length = L := by rw [List.length_take, HUL.out]; omega
        unfold val
        rw [this, V_take _ _ _ (Nat.le_refl _)]
        exact hlu
      have HTL := Lib.hid (show (us.take L).length = L by rw [List.length_take, HUL.out]; omega)
      have HTW := Lib.hid (wf_take HW.out L)
      have HTO := Lib.hid (HOu.out.take L)
      have HTV := Lib.hid htk
      have HVQ := Lib.hid hvq
      have HQ := Lib.hid hend.1
      have HR := Lib.hid hend.2
      have hll : (wd vu).length ≤ 8193 := by
        have h1 := tl_all HTW.out
        rw [htk, Int.toNat_natCast] at h1
        rw [← h1, List.length_take, HTL.out]
        omega
      clear hq0 hu0 hvq hvu hend hlu htk
      have hbl : ((L : Int)) ≤ ((wd m).length : Int) + 1 := by omega
      go_wp2_with fail
      have HQO := Lib.hid (HOq.out.ext (Ext.refl wr).drew)
      have HQF : Hid (∀ wx, wr.drew.grownBy wx (some g2) → Own wx w.heap.size (some ⟨gq, 0, none⟩) Lq qs) := fun wx hg => HQO.out.kept hg (fun a ha e => by cases ha; injection e with e; exact HAq.out.1 e.symm)
      go_region_with (first | (go_at_call 77; refine (down_any _ vu s _ _ _ HTO2.out hs hll).mono ?_; rintro e w8 ⟨rfl, ho8, hg8⟩; have HO8 := Lib.hid ho8; have HG8 := Lib.hid hg8; clear ho8 hg8) | (go_at_call 62; with_reducible refine (cut_own (some ⟨gq, 0, none⟩) qs Lq w.heap.size Lq _ (by first | exact HQO.out | exact HQF.out _ HG8.out) HQL.out HQW.out _ HVQ.out).mono ?_; rintro e w7 ⟨rfl, _, rfl⟩) | (go_at_call 62; with_reducible refine (cut_own (some ⟨g2, 0, none⟩) (us.take L) _ w.heap.size L _ (HTO.out.ext (Ext.refl _).drew) HTL.out HTW.out _ HTV.out).mono ?_; rintro e w7 ⟨rfl, hou, rfl⟩; have HTO2 := Lib.hid hou; clear hou))
      all_goals
        have hq8 := HQF.out _ HG8.out
        have hqt := tl_all HQW.out
        have hqo := hq8.take (tl qs qs.length)
        rw [hqt, HVQ.out, Int.toNat_natCast, HQ.out] at hqo
        rw [HR.out] at HO8
        have HX8 := Lib.hid (HX.out.drew.grown HG8.out (fun k hk => by cases hk; exact HOu.out.block.1))
        have HQO8 := Lib.hid hqo
        clear hq8 hqt hqo
        rw [HQ.out, HR.out]
        go_wp2_with fail
        go_ret2
        exact ⟨_, _, _, _, rfl, HQO8.out, HO8.out, (fun a b ha hb => by cases ha; cases hb; exact fun e => HAq.out.1 e.symm), HX8.out⟩
    | succ k =>
      have e1 : (((k + 1 : Nat) : Int) - 1) = (k : Int) := by omega
      rw [e1]
      clear e1
      have hkL : k + (L + 1) ≤ (wd m).length + 1 := by have := HLQ.out; omega
      have hgu := Lib.hid (part_lt us k L D HW.out (by rw [HUL.out]; exact hkL) HB'.out)
      go_wp2_with fail
      rw [show k + L + 1 - k = L + 1 by omega]
      refine (guess_any _ _ _ (wd D) K _ _ wr (HOu.out.sub k (L + 1) _ (by rw [HUL.out]; omega) (by omega) (by omega)) HOv.out.rd (by rw [sub_len _ _ _ (by rw [HUL.out]; omega), HLK.out]) HNW.out.2.1 (wf_take (wf_drop HW.out k) _) (wf_wd D) HNW.out.2.2 ?h1 (by have := HLK.out; omega) L HLK.out).mono ?_
      case h1 =>
        rw [show K + 3 = L + 1 by have := HLK.out; omega, V_sub, show K + 2 = L from HLK.out.symm, V_out _ _ (by rw [← HL.out]; exact Nat.le_refl _), val_wd]
        exact hgu.out
      rintro e wg ⟨q, hq, rfl, hq1, hq2, hxg⟩
      rw [show K + 3 = L + 1 by have := HLK.out; omega, V_sub, show K + 2 = L from HLK.out.symm, V_out _ L (by rw [← HL.out]; exact Nat.le_refl _), val_wd] at hq1 hq2
      have HQ1 := Lib.hid hq1
      have HQ2 := Lib.hid hq2
      have HOu1 := Lib.hid (HOu.out.ext hxg)
      have HOq1 := Lib.hid (HOq.out.ext hxg)
      have HOv1 := Lib.hid (HOv.out.ext hxg)
      have HX1 := Lib.hid (HX.out.trans hxg)
      clear hq1 hq2 hxg HOu HOq HOv HX
      go_wp2_with fail
      have hoff := off_any (some ⟨g1, 0, none⟩) us (wd D) g2 k _ ((wd m).length + 1 - k) _ _ q wg HOu1.out HOv1.out.rd (fun b hb _ => by cases hb; exact fun e => HAp.out e.symm) (by rw [HUL.out, ← HL.out]; omega) HW.out (wf_wd D) hq (by rw [← HL.out]; omega)
      rw [← HL.out] at hoff
      refine hoff.mono ?_
      clear hoff
      rintro e wo ⟨us1, bo, hb0, hb1, rfl, hul1, hw1, hv1, hs1, ho1, hg1⟩
      rw [V_out _ L (by rw [← HL.out]; exact Nat.le_refl _), val_wd] at hv1
      have HOq2 := Lib.hid (HOq1.out.kept hg1 (fun a ha e => by cases ha; injection e with e; exact HAq.out.1 e.symm))
      have HOv2 := Lib.hid (HOv1.out.kept hg1 (fun a ha e => by cases ha; injection e with e; exact HAp.out e.symm))
      have HX2 := Lib.hid (HX1.out.grown hg1 (fun k hk => by cases hk; exact HOu1.out.block.1))
      have HOu2 := Lib.hid ho1
      clear hg1 ho1 HOu1 HOq1 HOv1 HX1
      have hco := HOq2.out.cell k (by rw [HQL.out]; omega)
      have hfo := HOq2.out.free k
      rw [HZ.out k (by omega)] at hco
      have hlk := Lib.hid (show nth qs k = 0 from HZ.out k (by omega))
      have hbo : bo = 0 ∨ bo = 1 := by omega
      have hbd := Vo_bd hw1 k (L + 1)
      rcases hbo with rfl | rfl
      · have hgd := off_good _ _ _ _ _ HQ1.out hv1
        have hpo := part_off us us1 k L D q HW.out (by rw [HUL.out]; omega) hul1 HM.out HB'.out hs1 hgd.1 hgd.2
        have HUL2 := Lib.hid (hul1.trans HUL.out)
        have HW2 := Lib.hid hw1
        have HB2 := Lib.hid hpo.2
        have HE2 := Lib.hid (q_round qs k q D _ _ _ (by rw [HQL.out]; omega) hlk.out HE.out hpo.1)
        obtain ⟨us2, hus2⟩ : ∃ us2, us2 = us1 := ⟨_, rfl⟩
        rw [← hus2] at HUL2 HW2 HB2 HE2 HOu2
        clear hgd hpo hul1 hw1 hv1 hs1 hbd hus2 hb0 hb1
        go_wp2_with fail
        go_roundw
        case rel => exact ⟨k, us2, qs.set k (q : Int), by omega, HUL2.out, by unfold Hid; rw [List.length_set]; exact HQL.out, HW2.out, wf_set HQW.out _ _ (by omega) (by omega), HE2.out, HB2.out, fun j hj => by rw [nth_set_ne _ _ _ _ (by omega)]; exact HZ.out j (by omega), rfl, (HOu2.out.kept (HOq2.out.set k _).2 (fun a ha e => by cases ha; injection e with e; exact HAq.out.1 e)), (HOq2.out.set k _).1, (HOv2.out.kept (HOq2.out.set k _).2 (fun a ha e => by cases ha; injection e with e; exact HAq.out.2 e)), HX2.out.setCell HQB.out _⟩
        case measure => simp [intOf]
      · have HV1 := Lib.hid hv1
        have HW1 := Lib.hid hw1
        have HUL1 := Lib.hid hul1
        have HS1 := Lib.hid hs1
        have hbd1 := Lib.hid hbd
        clear hv1 hw1 hul1 hs1 hbd hco hfo hb0 hb1
        go_wp2_with fail
        have hback := back_any (some ⟨g1, 0, none⟩) us1 (wd D) g2 k _ ((wd m).length + 1 - k) _ _ wo HOu2.out HOv2.out.rd (fun b hb _ => by cases hb; exact fun e => HAp.out e.symm) (by rw [HUL1.out, HUL.out, ← HL.out]; omega) HW1.out (wf_wd D) (by rw [← HL.out]; omega)
        rw [← HL.out] at hback
        refine hback.mono ?_
        clear hback
        rintro e wb ⟨us2, cy, hc0, hc1, rfl, hul2, hw2, hv2, hs2, ho2, hg2⟩
        rw [V_out _ L (by rw [← HL.out]; exact Nat.le_refl _), val_wd] at hv2
        have HOq3 := Lib.hid (HOq2.out.kept hg2 (fun a ha e => by cases ha; injection e with e; exact HAq.out.1 e.symm))
        have HOv3 := Lib.hid (HOv2.out.kept hg2 (fun a ha e => by cases ha; injection e with e; exact HAp.out e.symm))
        have HX3 := Lib.hid (HX2.out.grown hg2 (fun k hk => by cases hk; exact HOu2.out.block.1))
        have HOu3 := Lib.hid ho2
        clear hg2 ho2 HOu2 HOq2 HOv2 HX2
        have hco := HOq3.out.cell k (by rw [HQL.out]; omega)
        have hfo := HOq3.out.free k
        rw [HZ.out k (by omega)] at hco
        have hgd := off_back _ _ _ _ _ _ _ HQ2.out HV1.out hbd1.out (Vo_bd hw2 k (L + 1)) ⟨hc0, hc1⟩ hv2
        have hpo := part_off us us2 k L D ((q : Int) - 1) HW.out (by rw [HUL.out]; omega) (hul2.trans HUL1.out) HM.out HB'.out (fun j hj => (hs2 j hj).trans (HS1.out j hj)) hgd.1 hgd.2.1
        have HUL2 := Lib.hid ((hul2.trans HUL1.out).trans HUL.out)
        have HW2 := Lib.hid hw2
        have HB2 := Lib.hid hpo.2
        have HE2 := Lib.hid (q_round qs k ((q : Int) - 1) D _ _ _ (by rw [HQL.out]; omega) hlk.out HE.out hpo.1)
        have hq1 : 1 ≤ (q : Int) := by
          have h1 := (Vo_bd HW.out k (L + 1)).1
          have h2 := hgd.2.2
          have h3 : q ≠ 0 := fun e => by subst e; simp at h2; omega
          omega
        clear hgd hpo hul2 hw2 hv2 hs2 hc0 hc1
        go_wp2_with fail
        go_roundw
        case rel => exact ⟨k, us2, qs.set k ((q : Int) - 1), by omega, HUL2.out, by unfold Hid; rw [List.length_set]; exact HQL.out, HW2.out, wf_set HQW.out _ _ (by omega) (by omega), HE2.out, HB2.out, fun j hj => by rw [nth_set_ne _ _ _ _ (by omega)]; exact HZ.out j (by omega), rfl, (HOu3.out.kept (HOq3.out.set k _).2 (fun a ha e => by cases ha; injection e with e; exact HAq.out.1 e)), (HOq3.out.set k _).1, (HOv3.out.kept (HOq3.out.set k _).2 (fun a ha e => by cases ha; injection e with e; exact HAq.out.2 e)), HX3.out.setCell HQB.out _⟩
        case measure => simp [intOf]

end Go.Proofs.Ytnhgagfkepmanaa
