/- Texts of this claim, joined: N13 N14 R1 K1 K2 K3a K4 K5 V1 V2 R4 R5 K6 K9 K7a T1 R6 R7 R8 R9 R10 R11 R12 R13 R2s Y1 G1 G2 G3 G4 G5 G6 G7 G8 G9a G10 G11 G12 G13 G14 G15 G16 G17 G18 G19 G20 G9s Y3. -/
import Derived.Deep.DeepAppendRoom
import Derived.Deep.RegionHeldLaw
import Derived.Deep.AppendLies
import Derived.Deep.RegionHeld3
import Derived.Handy
import Derived.Lib.ItoaWalk
import Derived.Test.YtemlaompalbgiaaGreatDoorQl
set_option linter.unusedVariables false
set_option linter.unusedSimpArgs false
set_option maxRecDepth 100000
namespace Go.Proofs.YtemlaompalbgiaaGreatDoor
open Go Go.RowKit
theorem V_sub (us : List Int) (o l : Nat) : V ((us.drop o).take l) l = Vo us o l := V_take _ _ _ (Nat.le_refl _)
set_option maxHeartbeats 4000000 in
theorem divide_long (A B : Option Addr) (m n c d : Nat) (w : World) (ha : Rd w A c (wd m)) (hb : Rd w B d (wd n)) (hge : n ≤ m) (hn : 2 ≤ (wd n).length) (lm : (wd m).length ≤ 8192) :
    Calls Tryz.prog 211 #[.slice A (wd m).length c, .slice B (wd n).length d] w (Two w (m / n) (m % n)) := by
  have HA := Lib.hid ha
  have HB := Lib.hid hb
  have hc : ¬ cmp m n < 0 := fun h => by have := cmp_lt_iff.1 h; omega
  have hn0 : n ≠ 0 := fun e => by have := wd_len_zero.2 e; omega
  have hl1 : (((wd n).length : Int) == 1) = false := beq_eq_false_iff_ne.2 (by omega)
  have hlm := wd_len_mono hge
  obtain ⟨K, hK⟩ : ∃ K, (wd n).length = K + 2 := ⟨(wd n).length - 2, by omega⟩
  obtain ⟨b, rfl, hcb⟩ := hb.at_ (K + 1) (by omega)
  obtain ⟨K1, hK1⟩ : ∃ K1, K1 = K + 1 := ⟨_, rfl⟩
  have hi : (((wd n).length : Int) - 1).toNat = K1 := by omega
  have bt := nth_wf (wf_wd n) (K + 1)
  have hnz := wd_last n hn0
  rw [show (wd n).length - 1 = K + 1 by omega] at hnz
  obtain ⟨t, ht⟩ := Int.eq_ofNat_of_zero_le bt.1
  have HT := Lib.hid ht
  rw [ht] at hcb bt hnz
  rw [← hK1] at hcb
  have HK := Lib.hid hK
  have HK1 := Lib.hid hK1
  clear ha hb hK ht hK1
  have ht0 : 0 < t := by omega
  have ht1 : t < 4294967296 := by omega
  clear hnz
  go_enter Tryz.func211, Tryz.ntmps211
  go_wp2_with fail
  refine (compare_any _ _ _ _ _ _ _ HA.out HB.out).mono ?_; rintro e w1 ⟨rfl, hx1⟩
  have HX1 := Lib.hid hx1
  have hcb1 := hx1.cell hcb
  clear hx1 hcb
  go_wp2_with fail
  refine (lz_any t _ ht0 ht1).mono ?_; rintro e w2 ⟨s, hs, rfl, hs1, hs2, rfl⟩
  have HS1 := Lib.hid hs1
  have HS2 := Lib.hid hs2
  clear hs1 hs2
  have hnw := norm_words n s (K + 2) hn0 HK.out (by rw [show K + 2 - 1 = K + 1 from rfl, HT.out]; exact HS1.out) (by rw [show K + 2 - 1 = K + 1 from rfl, HT.out]; exact HS2.out)
  obtain ⟨D, hD⟩ : ∃ D, D = n * 2 ^ s := ⟨_, rfl⟩
  rw [← hD] at hnw
  have HD := Lib.hid hD
  have HNW := Lib.hid hnw
  clear hnw hD
  go_wp2_with fail
  refine (up_any _ _ _ _ _ (HB.out.ext HX1.out) (wf_wd n) hs (by omega)).mono ?_; rintro e w3 ⟨g1, vs0, rfl, hvl, hvw, hvv, hO3, hx3⟩
  have HV0 := Lib.hid (show val vs0 = ((D : Nat) : Int) by rw [hvv, val_wd, HD.out, Int.natCast_mul, Int.natCast_pow]; rfl)
  have HX3 := Lib.hid (HX1.out.trans hx3)
  have HO3 := Lib.hid (hO3.lower HX1.out.size)
  have HVL := Lib.hid hvl
  have HVW := Lib.hid hvw
  clear hvv hx3 hO3 hvl hvw
  go_wp2_with fail
  refine (cut_own _ _ _ _ _ _ HO3.out HVL.out HVW.out _ HV0.out).mono ?_; rintro e w4 ⟨rfl, hO4, rfl⟩
  have HOv := Lib.hid hO4
  clear hO4 HO3 HV0 HVL HVW
  go_wp2_with fail
  refine (up_any _ _ _ _ _ (HA.out.ext HX3.out) (wf_wd m) hs (by omega)).mono ?_; rintro e w5 ⟨g2, us0, rfl, hul, huw, huv, hO5, hx5⟩
  have HU0 := Lib.hid (show val us0 = ((m * 2 ^ s : Nat) : Int) by rw [huv, val_wd, Int.natCast_mul, Int.natCast_pow]; rfl)
  have HAp := Lib.hid (show g2 ≠ g1 from fun e => HOv.out.apart hO5 (Nat.le_refl _) _ _ rfl rfl e.symm)
  have HX5 := Lib.hid (HX3.out.trans hx5)
  have HOu := Lib.hid (hO5.lower HX3.out.size)
  have HOv := Lib.hid (HOv.out.ext hx5)
  have HUL := Lib.hid hul
  have HUW := Lib.hid huw
  clear huv hx5 hO5 hul huw
  have hDl : (wd D).length ≤ (wd m).length + 1 := by have := HNW.out.2.1; have := HK.out; omega
  obtain ⟨Lq, hLq⟩ : ∃ Lq, (wd m).length + 1 - (wd D).length = Lq := ⟨_, rfl⟩
  go_wp2_with (at_make; refine wpList_mk rfl _ _ rfl Lq _ _ rfl rfl (by rw [← hLq]; omega) (by rw [← hLq]; omega) (by omega) ?_; intro w6 hO6 hG6)
  have HOq := Lib.hid hO6
  have HAq := Lib.hid (show g2 ≠ w5.heap.size ∧ g1 ≠ w5.heap.size from ⟨fun e => by have := HOu.out.block.2; simp only at this; omega, fun e => by have := HOv.out.block.2; simp only at this; omega⟩)
  have HX6 := Lib.hid (HX5.out.trans hG6)
  have HQB := Lib.hid HX5.out.size
  have HOu := Lib.hid (HOu.out.ext hG6)
  have HOv := Lib.hid (HOv.out.ext hG6)
  have HLQ := Lib.hid hLq
  clear hO6 hG6 hLq HX5
  generalize hgq : w5.heap.size = gq at *
  clear hgq HX3 HX1 HT HS1 HS2 hcb1 bt
  have hB0 : 0 < (wd D).length := by have := HNW.out.2.1; omega
  have HM := Lib.hid (show (D : Int) < pw (wd D).length from wd_lt_pw D)
  have HBeg := Lib.hid (show ((m * 2 ^ s : Nat) : Int) < (D : Int) * pw Lq by
    have := div_begin m n s (K + 2) (wd m).length rfl (by omega) (by have := HK.out; omega) hs (by rw [← HD.out]; exact HNW.out.1)
    rw [← HD.out, show (wd m).length + 1 - (K + 2) = Lq by have := HLQ.out; have := HNW.out.2.1; omega] at this
    exact this)
  obtain ⟨L, hL⟩ : ∃ L, L = (wd D).length := ⟨_, rfl⟩
  rw [← hL] at HM hB0 hDl HLQ ⊢
  have HL := Lib.hid hL
  have hLK : L = K + 2 := hL.trans HNW.out.2.1
  have HLK := Lib.hid hLK
  have hL2 : 2 ≤ L := by omega
  clear hL hLK
  have hlq : Lq ≤ (wd m).length := by have := HLQ.out; omega
  go_wp2_with fail
  go_loopw [11] (fun i wr => ∃ (k : Nat) (us qs : List Int), k ≤ Lq ∧ Hid (us.length = (wd m).length + 1) ∧ Hid (qs.length = Lq) ∧ Hid (Wf us) ∧ Hid (Wf qs) ∧ Hid ((D : Int) * val qs + val us = ((m * 2 ^ s : Nat) : Int)) ∧ Hid (val us < (D : Int) * pw k) ∧ Hid (∀ j, j < k → nth qs j = 0) ∧ i = .int .i64 ((k : Int) - 1) ∧ Hid (Own wr w.heap.size (some ⟨g2, 0, none⟩) ((wd m).length + 1) us) ∧ Hid (Own wr w.heap.size (some ⟨gq, 0, none⟩) Lq qs) ∧ Hid (Own wr w.heap.size (some ⟨g1, 0, none⟩) ((wd n).length + 1) (wd D)) ∧ Hid (Ext w wr)) (fun i _ => (intOf i + 1).toNat)
  case atStart => exact ⟨Lq, us0, List.replicate Lq 0, by omega, HUL.out, List.length_replicate, HUW.out, wf_zeros _, by show _ = _; rw [show val (List.replicate Lq 0) = 0 from V_zeros _ _, Int.mul_zero, Int.zero_add]; exact HU0.out, by show _ < _; rw [HU0.out]; exact HBeg.out, fun j _ => nth_zeros _ _, rfl, HOu.out, HOq.out.lower HQB.out, HOv.out, HX6.out⟩
  case round =>
    clear HOu HOq HOv HX6 HUL HUW HU0 HBeg
    obtain ⟨k, us, qs, hk, HUL, HQL, HW, HQW, HE, HB', HZ, rfl, HOu, HOq, HOv, HX⟩ := hrel
    cases k with
    | zero =>
      have hq0 := HQW.out.val_nonneg
      have hu0 := HW.out.val_nonneg
      obtain ⟨vq, hvq⟩ := Int.eq_ofNat_of_zero_le hq0
      obtain ⟨vu, hvu⟩ := Int.eq_ofNat_of_zero_le hu0
      have hend := div_end m n s vq vu (by omega) (by have := HE.out; rw [hvq, hvu, HD.out] at this; exact this) (by have := HB'.out; rw [hvu, pw_zero, HD.out] at this; omega)
      have hlu : Vo us 0 L = vu := by
        have h1 := val_split us 0 L (by rw [HUL.out]; omega)
        have h2 := (Vo_bd HW.out (0 + L) (us.length - (0 + L))).1
        have h3 : Vo us (0 + L) (us.length - (0 + L)) = 0 := by
          have h4 := HB'.out
          rw [pw_zero, Int.mul_one] at h4
          have h5 := HM.out
          have h6 := (Vo_bd HW.out 0 L).1
          rw [V_zero, pw_zero] at h1
          rcases Int.lt_or_le 0 (Vo us (0 + L) (us.length - (0 + L))) with h7 | h7
          · have h8 : pw (0 + L) * 1 ≤ pw (0 + L) * Vo us (0 + L) (us.length - (0 + L)) := Int.mul_le_mul_of_nonneg_left (by omega) (Int.le_of_lt (pw_pos _))
            rw [Nat.zero_add] at h8 h1
            omega
          · omega
        rw [h3, V_zero, pw_zero, hvu] at h1
        omega
      have htk : val (us.take L) = vu := by
        have : (us.take L).length = L := by rw [List.length_take, HUL.out]; omega
        unfold val
        rw [this, V_take _ _ _ (Nat.le_refl _)]
        exact hlu
      have HTL := Lib.hid (show (us.take L).length = L by rw [List.length_take, HUL.out]; omega)
      have HTW := Lib.hid (wf_take HW.out L)
      have HTO := Lib.hid (HOu.out.take L)
      have HTV := Lib.hid htk
      have HVQ := Lib.hid hvq
      have HQ := Lib.hid hend.1
      have HR := Lib.hid hend.2
      have hll : (wd vu).length ≤ 8193 := by
        have h1 := tl_all HTW.out
        rw [htk, Int.toNat_natCast] at h1
        rw [← h1, List.length_take, HTL.out]
        omega
      clear hq0 hu0 hvq hvu hend hlu htk
      have hbl : ((L : Int)) ≤ ((wd m).length : Int) + 1 := by omega
      go_wp2_with fail
      have HQO := Lib.hid (HOq.out.ext (Ext.refl wr).drew)
      have HQF : Hid (∀ wx, wr.drew.grownBy wx (some g2) → Own wx w.heap.size (some ⟨gq, 0, none⟩) Lq qs) := fun wx hg => HQO.out.kept hg (fun a ha e => by cases ha; injection e with e; exact HAq.out.1 e.symm)
      go_region_with (first | (go_at_call 269; refine (down_any _ vu s _ _ _ HTO2.out hs hll).mono ?_; rintro e w8 ⟨rfl, ho8, hg8⟩; have HO8 := Lib.hid ho8; have HG8 := Lib.hid hg8; clear ho8 hg8) | (go_at_call 201; with_reducible refine (cut_own (some ⟨gq, 0, none⟩) qs Lq w.heap.size Lq _ (by first | exact HQO.out | exact HQF.out _ HG8.out) HQL.out HQW.out _ HVQ.out).mono ?_; rintro e w7 ⟨rfl, _, rfl⟩) | (go_at_call 201; with_reducible refine (cut_own (some ⟨g2, 0, none⟩) (us.take L) _ w.heap.size L _ (HTO.out.ext (Ext.refl _).drew) HTL.out HTW.out _ HTV.out).mono ?_; rintro e w7 ⟨rfl, hou, rfl⟩; have HTO2 := Lib.hid hou; clear hou))
      all_goals
        have hq8 := HQF.out _ HG8.out
        have hqt := tl_all HQW.out
        have hqo := hq8.take (tl qs qs.length)
        rw [hqt, HVQ.out, Int.toNat_natCast, HQ.out] at hqo
        rw [HR.out] at HO8
        have HX8 := Lib.hid (HX.out.drew.grown HG8.out (fun k hk => by cases hk; exact HOu.out.block.1))
        have HQO8 := Lib.hid hqo
        clear hq8 hqt hqo
        rw [HQ.out, HR.out]
        go_wp2_with fail
        go_ret2
        exact ⟨_, _, _, _, rfl, HQO8.out, HO8.out, (fun a b ha hb => by cases ha; cases hb; exact fun e => HAq.out.1 e.symm), HX8.out⟩
    | succ k =>
      have e1 : (((k + 1 : Nat) : Int) - 1) = (k : Int) := by omega
      rw [e1]
      clear e1
      have hkL : k + (L + 1) ≤ (wd m).length + 1 := by have := HLQ.out; omega
      have hgu := Lib.hid (part_lt us k L D HW.out (by rw [HUL.out]; exact hkL) HB'.out)
      go_wp2_with fail
      rw [show k + L + 1 - k = L + 1 by omega]
      refine (guess_any _ _ _ (wd D) K _ _ wr (HOu.out.sub k (L + 1) _ (by rw [HUL.out]; omega) (by omega) (by omega)) HOv.out.rd (by rw [sub_len _ _ _ (by rw [HUL.out]; omega), HLK.out]) HNW.out.2.1 (wf_take (wf_drop HW.out k) _) (wf_wd D) HNW.out.2.2 ?h1 (by have := HLK.out; omega) L HLK.out).mono ?_
      case h1 =>
        rw [show K + 3 = L + 1 by have := HLK.out; omega, V_sub, show K + 2 = L from HLK.out.symm, V_out _ _ (by rw [← HL.out]; exact Nat.le_refl _), val_wd]
        exact hgu.out
      rintro e wg ⟨q, hq, rfl, hq1, hq2, hxg⟩
      rw [show K + 3 = L + 1 by have := HLK.out; omega, V_sub, show K + 2 = L from HLK.out.symm, V_out _ L (by rw [← HL.out]; exact Nat.le_refl _), val_wd] at hq1 hq2
      have HQ1 := Lib.hid hq1
      have HQ2 := Lib.hid hq2
      have HOu1 := Lib.hid (HOu.out.ext hxg)
      have HOq1 := Lib.hid (HOq.out.ext hxg)
      have HOv1 := Lib.hid (HOv.out.ext hxg)
      have HX1 := Lib.hid (HX.out.trans hxg)
      clear hq1 hq2 hxg HOu HOq HOv HX
      go_wp2_with fail
      have hoff := off_any (some ⟨g1, 0, none⟩) us (wd D) g2 k _ ((wd m).length + 1 - k) _ _ q wg HOu1.out HOv1.out.rd (fun b hb _ => by cases hb; exact fun e => HAp.out e.symm) (by rw [HUL.out, ← HL.out]; omega) HW.out (wf_wd D) hq (by rw [← HL.out]; omega)
      rw [← HL.out] at hoff
      refine hoff.mono ?_
      clear hoff
      rintro e wo ⟨us1, bo, hb0, hb1, rfl, hul1, hw1, hv1, hs1, ho1, hg1⟩
      rw [V_out _ L (by rw [← HL.out]; exact Nat.le_refl _), val_wd] at hv1
      have HOq2 := Lib.hid (HOq1.out.kept hg1 (fun a ha e => by cases ha; injection e with e; exact HAq.out.1 e.symm))
      have HOv2 := Lib.hid (HOv1.out.kept hg1 (fun a ha e => by cases ha; injection e with e; exact HAp.out e.symm))
      have HX2 := Lib.hid (HX1.out.grown hg1 (fun k hk => by cases hk; exact HOu1.out.block.1))
      have HOu2 := Lib.hid ho1
      clear hg1 ho1 HOu1 HOq1 HOv1 HX1
      have hco := HOq2.out.cell k (by rw [HQL.out]; omega)
      have hfo := HOq2.out.free k
      rw [HZ.out k (by omega)] at hco
      have hlk := Lib.hid (show nth qs k = 0 from HZ.out k (by omega))
      have hbo : bo = 0 ∨ bo = 1 := by omega
      have hbd := Vo_bd hw1 k (L + 1)
      rcases hbo with rfl | rfl
      · have hgd := off_good _ _ _ _ _ HQ1.out hv1
        have hpo := part_off us us1 k L D q HW.out (by rw [HUL.out]; omega) hul1 HM.out HB'.out hs1 hgd.1 hgd.2
        have HUL2 := Lib.hid (hul1.trans HUL.out)
        have HW2 := Lib.hid hw1
        have HB2 := Lib.hid hpo.2
        have HE2 := Lib.hid (q_round qs k q D _ _ _ (by rw [HQL.out]; omega) hlk.out HE.out hpo.1)
        obtain ⟨us2, hus2⟩ : ∃ us2, us2 = us1 := ⟨_, rfl⟩
        rw [← hus2] at HUL2 HW2 HB2 HE2 HOu2
        clear hgd hpo hul1 hw1 hv1 hs1 hbd hus2 hb0 hb1
        go_wp2_with fail
        go_roundw
        case rel => exact ⟨k, us2, qs.set k (q : Int), by omega, HUL2.out, by unfold Hid; rw [List.length_set]; exact HQL.out, HW2.out, wf_set HQW.out _ _ (by omega) (by omega), HE2.out, HB2.out, fun j hj => by rw [nth_set_ne _ _ _ _ (by omega)]; exact HZ.out j (by omega), rfl, (HOu2.out.kept (HOq2.out.set k _).2 (fun a ha e => by cases ha; injection e with e; exact HAq.out.1 e)), (HOq2.out.set k _).1, (HOv2.out.kept (HOq2.out.set k _).2 (fun a ha e => by cases ha; injection e with e; exact HAq.out.2 e)), HX2.out.setCell HQB.out _⟩
        case measure => simp [intOf]
      · have HV1 := Lib.hid hv1
        have HW1 := Lib.hid hw1
        have HUL1 := Lib.hid hul1
        have HS1 := Lib.hid hs1
        have hbd1 := Lib.hid hbd
        clear hv1 hw1 hul1 hs1 hbd hco hfo hb0 hb1
        go_wp2_with fail
        have hback := back_any (some ⟨g1, 0, none⟩) us1 (wd D) g2 k _ ((wd m).length + 1 - k) _ _ wo HOu2.out HOv2.out.rd (fun b hb _ => by cases hb; exact fun e => HAp.out e.symm) (by rw [HUL1.out, HUL.out, ← HL.out]; omega) HW1.out (wf_wd D) (by rw [← HL.out]; omega)
        rw [← HL.out] at hback
        refine hback.mono ?_
        clear hback
        rintro e wb ⟨us2, cy, hc0, hc1, rfl, hul2, hw2, hv2, hs2, ho2, hg2⟩
        rw [V_out _ L (by rw [← HL.out]; exact Nat.le_refl _), val_wd] at hv2
        have HOq3 := Lib.hid (HOq2.out.kept hg2 (fun a ha e => by cases ha; injection e with e; exact HAq.out.1 e.symm))
        have HOv3 := Lib.hid (HOv2.out.kept hg2 (fun a ha e => by cases ha; injection e with e; exact HAp.out e.symm))
        have HX3 := Lib.hid (HX2.out.grown hg2 (fun k hk => by cases hk; exact HOu2.out.block.1))
        have HOu3 := Lib.hid ho2
        clear hg2 ho2 HOu2 HOq2 HOv2 HX2
        have hco := HOq3.out.cell k (by rw [HQL.out]; omega)
        have hfo := HOq3.out.free k
        rw [HZ.out k (by omega)] at hco
        have hgd := off_back _ _ _ _ _ _ _ HQ2.out HV1.out hbd1.out (Vo_bd hw2 k (L + 1)) ⟨hc0, hc1⟩ hv2
        have hpo := part_off us us2 k L D ((q : Int) - 1) HW.out (by rw [HUL.out]; omega) (hul2.trans HUL1.out) HM.out HB'.out (fun j hj => (hs2 j hj).trans (HS1.out j hj)) hgd.1 hgd.2.1
        have HUL2 := Lib.hid ((hul2.trans HUL1.out).trans HUL.out)
        have HW2 := Lib.hid hw2
        have HB2 := Lib.hid hpo.2
        have HE2 := Lib.hid (q_round qs k ((q : Int) - 1) D _ _ _ (by rw [HQL.out]; omega) hlk.out HE.out hpo.1)
        have hq1 : 1 ≤ (q : Int) := by
          have h1 := (Vo_bd HW.out k (L + 1)).1
          have h2 := hgd.2.2
          have h3 : q ≠ 0 := fun e => by subst e; simp at h2; omega
          omega
        clear hgd hpo hul2 hw2 hv2 hs2 hc0 hc1
        go_wp2_with fail
        go_roundw
        case rel => exact ⟨k, us2, qs.set k ((q : Int) - 1), by omega, HUL2.out, by unfold Hid; rw [List.length_set]; exact HQL.out, HW2.out, wf_set HQW.out _ _ (by omega) (by omega), HE2.out, HB2.out, fun j hj => by rw [nth_set_ne _ _ _ _ (by omega)]; exact HZ.out j (by omega), rfl, (HOu3.out.kept (HOq3.out.set k _).2 (fun a ha e => by cases ha; injection e with e; exact HAq.out.1 e)), (HOq3.out.set k _).1, (HOv3.out.kept (HOq3.out.set k _).2 (fun a ha e => by cases ha; injection e with e; exact HAq.out.2 e)), HX3.out.setCell HQB.out _⟩
        case measure => simp [intOf]
theorem divide_any (A B : Option Addr) (m n c d : Nat) (w : World) (ha : Rd w A c (wd m)) (hb : Rd w B d (wd n)) (hn : n ≠ 0) (lm : (wd m).length ≤ 8192) :
    Calls Tryz.prog 211 #[.slice A (wd m).length c, .slice B (wd n).length d] w (Two w (m / n) (m % n)) := by
  have hl : (wd n).length ≠ 0 := fun e => hn (wd_len_zero.1 e)
  by_cases hlt : m < n
  · exact divide_less A B m n c d w ha hb hlt lm
  · by_cases h1 : (wd n).length = 1
    · exact divide_one A B m n c d w ha hb (by omega) h1 lm
    · exact divide_long A B m n c d w ha hb (by omega) (by omega) lm
def Three (w : World) (x y : Nat) (e : Ending) (w' : World) : Prop := ∃ A c B d, e = .returned (.tuple #[.slice A (wd x).length c, .slice B (wd y).length d, .int .i64 0]) ∧ Own w' w.heap.size A c (wd x) ∧ Own w' w.heap.size B d (wd y) ∧ (∀ a b, A = some a → B = some b → a.block ≠ b.block) ∧ Ext w w'
set_option maxHeartbeats 1000000 in
theorem divMod_any (A B : Option Addr) (m n c d : Nat) (w : World) (ha : Rd w A c (wd m)) (hb : Rd w B d (wd n)) (hn : n ≠ 0) (lm : (wd m).length ≤ 8192) (ln : (wd n).length ≤ 8192) :
    Calls Tryz.prog 145 #[.slice A (wd m).length c, .slice B (wd n).length d] w (Three w (m / n) (m % n)) := by
  have HA := Lib.hid ha
  have HB := Lib.hid hb
  have hl : (wd n).length ≠ 0 := fun e => hn (wd_len_zero.1 e)
  have hl1 : (((wd n).length : Int) == 0) = false := beq_eq_false_iff_ne.2 (by omega)
  clear ha hb
  go_enter Tryz.func145, Tryz.ntmps145
  go_wp2_with fail
  refine (checked_ok _ _ _ _ _ _ _ HA.out HB.out (by omega) (by omega)).mono ?_; rintro e w' ⟨rfl, rfl⟩
  go_wp2_with fail
  refine (divide_any _ _ _ _ _ _ _ HA.out HB.out hn lm).mono ?_; rintro e w1 ⟨A1, c1, B1, d1, rfl, h1, h2, h3, h4⟩
  have H1 := Lib.hid h1
  have H2 := Lib.hid h2
  have H3 := Lib.hid h3
  have H4 := Lib.hid h4
  clear h1 h2 h3 h4
  go_wp2_with fail
  go_ret3
  exact ⟨_, _, _, _, rfl, H1.out, H2.out, H3.out, H4.out⟩
theorem wd_two (n : Nat) (h : (wd n).length ≤ 2) : n < 18446744073709551616 := by
  have h1 := nat_lt_of_len n 2 h
  have h2 : pw 2 = 18446744073709551616 := rfl
  omega
theorem wd_two' (n : Nat) (h : n < 18446744073709551616) : (wd n).length ≤ 2 := by
  apply wd_len_le
  have h2 : pw 2 = 18446744073709551616 := rfl
  omega
set_option maxHeartbeats 1000000 in
theorem uint64_any (A : Option Addr) (n c : Nat) (w : World) (ha : Rd w A c (wd n)) (hn : (wd n).length ≤ 2) :
    Calls Tryz.prog 212 #[.slice A (wd n).length c] w fun e w' => e = .returned (.tuple #[.int .u64 n, .bool true]) ∧ w = w' := by
  have HA := Lib.hid ha
  have HT := Lib.hid (tl_wd n)
  clear ha
  go_enter Tryz.func212, Tryz.ntmps212
  go_wp2_with fail
  refine (cut_any _ _ _ _ HA.out).mono ?_; rintro e w' ⟨rfl, rfl⟩
  rw [HT.out]
  go_wp2_with fail
  go_loop [4, 14] (fun x i => ∃ k : Nat, k ≤ (wd n).length ∧ x = .int .u64 (V (wd n) k) ∧ i = .int .i64 k) (fun _ i => (wd n).length - (intOf i).toNat)
  case atStart => exact ⟨0, by omega, by rw [V_zero], rfl⟩
  case round =>
    obtain ⟨k, hk, rfl, rfl⟩ := hrel
    by_cases hkn : k < (wd n).length
    · obtain ⟨a, rfl, hca⟩ := HA.out.at_ k hkn
      have bx := nth_wf (wf_wd n) k
      have HV := Lib.hid (V_succ (wd n) k)
      have hk01 : k = 0 ∨ k = 1 := by omega
      rcases hk01 with rfl | rfl
      · have hor : bits .or .u64 0 (nth (wd n) 0) = nth (wd n) 0 := by
          have := or_word 0 (nth (wd n) 0) (by omega) bx
          simpa using this
        rw [V_zero]
        rw [add0] at hca
        go_wp2_with fail
        go_round
        case rel => exact ⟨1, by omega, by rw [HV.out, V_zero, pw_zero]; go_num, by go_num⟩
        case measure => simp [intOf]; omega
      · have hb := V_lt (wf_wd n) 1
        have hb0 := V_nonneg (wf_wd n) 1
        rw [show pw 1 = 4294967296 from rfl] at hb HV
        have hor := or_high (V (wd n) 1) (nth (wd n) 1) ⟨hb0, hb⟩ bx
        obtain ⟨v, hv⟩ : ∃ v, v = V (wd n) 1 := ⟨_, rfl⟩
        rw [← hv] at hor hb hb0 HV ⊢
        clear hv
        rw [show a.add 1 = ⟨a.block, a.off + 1, none⟩ from rfl] at hca
        go_wp2_with fail
        go_round
        case rel => exact ⟨2, by omega, by rw [HV.out], by go_num⟩
        case measure => simp [intOf]; omega
    · have HE := Lib.hid (show V (wd n) k = n by rw [V_out _ _ (by omega), val_wd])
      go_wp2_with fail
      go_ret2
      exact ⟨by rw [← HE.out]; rfl, rfl⟩
theorem gcd_step (p q : Nat) : Nat.gcd q (p % q) = Nat.gcd p q := by rw [Nat.gcd_comm p q, Nat.gcd_rec q p, Nat.gcd_comm]
def One (w : World) (x : Nat) (e : Ending) (w' : World) : Prop := ∃ A c, e = .returned (.tuple #[.slice A (wd x).length c, .int .i64 0]) ∧ Own w' w.heap.size A c (wd x) ∧ Ext w w'
set_option maxHeartbeats 2000000 in
theorem gcd_any (A B : Option Addr) (m n c d : Nat) (w : World) (ha : Rd w A c (wd m)) (hb : Rd w B d (wd n)) (lm : (wd m).length ≤ 8192) (ln : (wd n).length ≤ 8192) :
    Calls Tryz.prog 129 #[.slice A (wd m).length c, .slice B (wd n).length d] w (One w (Nat.gcd m n)) := by
  have HA := Lib.hid ha
  have HB := Lib.hid hb
  clear ha hb
  go_enter Tryz.func129, Tryz.ntmps129
  go_wp2_with fail
  refine (checked_ok _ _ _ _ _ _ _ HA.out HB.out lm ln).mono ?_; rintro e w' ⟨rfl, rfl⟩
  go_wp2_with fail
  refine (clone_any _ _ _ _ HA.out (by omega)).mono ?_; rintro e w1 ⟨A1, c1, rfl, h1, hx1⟩
  have H1 := Lib.hid h1
  have HX1 := Lib.hid hx1
  clear h1 hx1
  go_wp2_with fail
  refine (clone_any _ _ _ _ (HB.out.ext HX1.out) (by omega)).mono ?_; rintro e w2 ⟨A2, c2, rfl, h2, hx2⟩
  have H2 := Lib.hid (h2.lower HX1.out.size)
  have H1 := Lib.hid (H1.out.ext hx2)
  have HX2 := Lib.hid (HX1.out.trans hx2)
  clear h2 hx2
  go_wp2_with fail
  go_loopg [7, 8] n (fun q x y wr => ∃ (p : Nat) (P Q : Option Addr) (cp cq : Nat), x = .slice P (wd p).length cp ∧ y = .slice Q (wd q).length cq ∧ Hid (Nat.gcd p q = Nat.gcd m n) ∧ (wd p).length ≤ 8192 ∧ (wd q).length ≤ 8192 ∧ Hid (Own wr w.heap.size P cp (wd p)) ∧ Hid (Own wr w.heap.size Q cq (wd q)) ∧ Hid (Ext w wr))
  case atStart => exact ⟨m, A1, A2, c1, c2, rfl, rfl, rfl, lm, ln, H1.out, H2.out, HX2.out⟩
  case round =>
    clear H1 H2 HX1 HX2
    obtain ⟨p, P, Q, cp, cq, rfl, rfl, hg, lp, lq, HP, HQ, HX⟩ := hrel
    obtain ⟨q, rfl⟩ : ∃ q, q = gk := ⟨_, rfl⟩
    have hgc := Lib.hid (gcd_step p q)
    by_cases h2 : 2 < (wd q).length
    · have hq0 : q ≠ 0 := fun e => by have := wd_len_zero.2 e; omega
      have hml : p % q < q := Nat.mod_lt p (by omega)
      have hml2 := wd_len_mono (show p % q ≤ q by omega)
      go_wp2_with fail
      refine (divide_any _ _ _ _ _ _ _ HP.out.rd HQ.out.rd hq0 lp).mono ?_; rintro e w3 ⟨A3, c3, B3, d3, rfl, h1, h2, h3, h4⟩
      have HQ3 := Lib.hid (HQ.out.ext h4)
      have HR3 := Lib.hid (h2.lower HX.out.size)
      have HX3 := Lib.hid (HX.out.trans h4)
      obtain ⟨r, hr⟩ : ∃ r, r = p % q := ⟨_, rfl⟩
      rw [← hr] at hml hml2 hgc HR3 ⊢
      clear h1 h2 h3 h4 hr
      go_wp2_with fail
      go_roundg r
      case measure => exact hml
      case rel => exact ⟨q, Q, B3, cq, d3, rfl, rfl, hgc.out.trans hg.out, lq, by omega, HQ3.out, HR3.out, HX3.out⟩
    · by_cases h0 : (wd q).length = 0
      · have hq0 : q = 0 := wd_len_zero.1 h0
        have HE := Lib.hid (show p = Nat.gcd m n by rw [← hg.out, hq0, Nat.gcd_zero_right])
        have hbe : (((wd q).length : Int) == 0) = true := beq_iff_eq.2 (by omega)
        clear hq0 h0
        go_wp2_with fail
        go_ret2
        exact ⟨P, cp, by rw [← HE.out]; rfl, by rw [← HE.out]; exact HP.out, HX.out⟩
      · have hq0 : q ≠ 0 := fun e => h0 (wd_len_zero.2 e)
        have hbe : (((wd q).length : Int) == 0) = false := beq_eq_false_iff_ne.2 (by omega)
        have hml : p % q < q := Nat.mod_lt p (by omega)
        have hml2 := wd_len_mono (show p % q ≤ q by omega)
        go_wp2_with fail
        refine (divide_any _ _ _ _ _ _ _ HP.out.rd HQ.out.rd hq0 lp).mono ?_; rintro e w3 ⟨A3, c3, B3, d3, rfl, k1, k2, k3, k4⟩
        have HQ3 := Lib.hid (HQ.out.ext k4)
        have HR3 := Lib.hid (k2.lower HX.out.size)
        have HX3 := Lib.hid (HX.out.trans k4)
        obtain ⟨r, hr⟩ : ∃ r, r = p % q := ⟨_, rfl⟩
        rw [← hr] at hml hml2 hgc HR3 ⊢
        clear k1 k2 k3 k4 hr h0
        go_wp2_with fail
        refine (uint64_any _ _ _ _ HQ3.out.rd (by omega)).mono ?_; rintro e w' ⟨rfl, rfl⟩
        go_wp2_with fail
        refine (uint64_any _ _ _ _ HR3.out.rd (by omega)).mono ?_; rintro e w' ⟨rfl, rfl⟩
        have bq := wd_two q (by omega)
        have br := wd_two r (by omega)
        have hgq := Lib.hid (hgc.out.trans hg.out)
        go_wp2_with fail
        go_loopg [13, 15] r (fun y a b wr => ∃ x : Nat, a = .int .u64 x ∧ b = .int .u64 y ∧ x < 18446744073709551616 ∧ y < 18446744073709551616 ∧ Hid (Nat.gcd x y = Nat.gcd m n) ∧ Hid (Ext w wr))
        case atStart => exact ⟨q, rfl, rfl, bq, br, hgq.out, HX3.out⟩
        case round =>
          clear HX3 HR3 HQ3 hgq
          obtain ⟨x, rfl, rfl, bx, by_, hg2, HX4⟩ := hrel
          obtain ⟨y, rfl⟩ : ∃ y, y = gk := ⟨_, rfl⟩
          by_cases hy : y = 0
          · have HE := Lib.hid (show x = Nat.gcd m n by rw [← hg2.out, hy, Nat.gcd_zero_right])
            have hb0 : ((y : Int) != 0) = false := by rw [bne_eq_false_iff_eq]; omega
            clear hy
            go_wp2_with fail
            refine (of_any x _ bx).mono ?_; rintro e w5 ⟨A5, c5, rfl, h5, hx5⟩
            have H5 := Lib.hid (h5.lower HX4.out.size)
            have HX5 := Lib.hid (HX4.out.trans hx5)
            clear h5 hx5
            go_wp2_with fail
            go_ret2
            exact ⟨A5, c5, by rw [← HE.out]; rfl, by rw [← HE.out]; exact H5.out, HX5.out⟩
          · have hb0 : ((y : Int) != 0) = true := by rw [bne_iff_ne]; omega
            have hbe0 : ((y : Int) == 0) = false := beq_eq_false_iff_ne.2 (by omega)
            have hmy : x % y < y := Nat.mod_lt x (by omega)
            have hgs := Lib.hid ((gcd_step x y).trans hg2.out)
            have HC := Lib.hid (show ((x % y : Nat) : Int) = (x : Int) % (y : Int) from Int.natCast_emod x y)
            clear hy
            go_wp2_with fail
            go_quiet (fail)
            go_wp2_with fail
            go_roundg (x % y)
            case measure => exact hmy
            case rel => exact ⟨y, rfl, by rw [HC.out], by_, by omega, hgs.out, HX4.out.drewN _⟩
theorem bcell {W w1 : World} (hb : Ext W w1) : (∀ b o, b < W.heap.size → w1.cell? ⟨b, o, none⟩ = W.cell? ⟨b, o, none⟩) ∧ (∀ b o, b < W.heap.size → w1.frozen? ⟨b, o, none⟩ = W.frozen? ⟨b, o, none⟩) :=
  ⟨fun b o h => Below.cell (p := ⟨b, o, none⟩) hb h, fun b o h => Below.frozen (p := ⟨b, o, none⟩) hb h⟩
theorem long_any (A : Option Addr) (n c : Nat) (w : World) (hn : n ≤ 9223372036854775807) :
    Calls Tryz.prog 130 #[.slice A n c] w fun e w' => e = .returned (.bool (decide (2048 < n))) ∧ w = w' := by
  go_enter Tryz.func130, Tryz.ntmps130
  go_wp2
  go_ret
  exact ⟨by simp; omega, rfl⟩
def RatP (w : World) (t : Fr × Int) (e : Ending) (w' : World) : Prop :=
  ∃ A c B d, e = .returned (.tuple #[.agg #[.bool t.1.neg, .slice A t.1.num.length c, .slice B t.1.den.length d], .int .i64 t.2]) ∧ Own w' w.heap.size A c t.1.num ∧ Own w' w.heap.size B d t.1.den ∧ (∀ a b, A = some a → B = some b → a.block ≠ b.block) ∧ Ext w w'
theorem RatP.mk {w w' : World} {t : Fr × Int} {s : Bool} {xs ys : List Int} {er : Int} {e : Ending} {A B : Option Addr} {c d : Nat} (ht : t = (⟨s, xs, ys⟩, er)) (he : e = .returned (.tuple #[.agg #[.bool s, .slice A xs.length c, .slice B ys.length d], .int .i64 er]))
    (h1 : Own w' w.heap.size A c xs) (h2 : Own w' w.heap.size B d ys) (h3 : ∀ a b, A = some a → B = some b → a.block ≠ b.block) (h4 : Ext w w') : RatP w t e w' := by
  subst ht
  exact ⟨A, c, B, d, he, h1, h2, h3, h4⟩
theorem RatP.nil {w w' : World} {t : Fr × Int} {er : Int} {e : Ending} (ht : t = (Fr.zero, er)) (he : e = .returned (.tuple #[.agg #[.bool false, .slice none 0 0, .slice none 0 0], .int .i64 er])) (h4 : Ext w w') : RatP w t e w' := by
  subst ht
  exact ⟨none, 0, none, 0, he, Own.nil _ _, Own.nil _ _, (fun _ _ h => by cases h), h4⟩
set_option maxHeartbeats 1000000 in
theorem lowest_any (b : Bool) (A B : Option Addr) (m n : Nat) (c d : Nat) (w : World) (ha : Rd w A c (wd m)) (hb : Rd w B d (wd n)) (hn : n ≠ 0) (lm : (wd m).length ≤ 8192) (ln : (wd n).length ≤ 8192) :
    Calls Tryz.prog 139 #[.bool b, .slice A (wd m).length c, .slice B (wd n).length d] w (RatP w (tell (mkRat (sg b m) n))) := by
  have HA := Lib.hid ha
  have HB := Lib.hid hb
  have hg0 : 0 < Nat.gcd m n := Nat.gcd_pos_of_pos_right m (by omega)
  have hgl := wd_len_mono (Nat.gcd_le_right m (show 0 < n by omega))
  have HE := Lib.hid (enc_mk b m n hn)
  obtain ⟨g, hg⟩ : ∃ g, g = Nat.gcd m n := ⟨_, rfl⟩
  rw [← hg] at hg0 hgl HE
  have HG := Lib.hid hg
  clear ha hb hg
  go_enter Tryz.func139, Tryz.ntmps139
  go_wp2_with fail
  refine (gcd_any _ _ _ _ _ _ _ (HA.out.ext ((Ext.refl w).alloc _)) (HB.out.ext ((Ext.refl w).alloc _)) lm ln).mono ?_
  rw [← HG.out]
  rintro e w1 ⟨A1, c1, rfl, h1, hx1⟩
  have H1 := Lib.hid h1
  have HX1 := Lib.hid hx1
  clear h1 hx1
  go_wp2_with fail
  refine (divMod_any _ _ _ _ _ _ _ (HA.out.ext (((Ext.refl w).alloc _).trans HX1.out)) H1.out.rd (by omega) lm (by omega)).mono ?_
  rintro e w2 ⟨A2, c2, B2, d2, rfl, h2, h2', h2'', hx2⟩
  have H2 := Lib.hid h2
  have HX2 := Lib.hid (HX1.out.trans hx2)
  have H1 := Lib.hid (H1.out.ext hx2)
  clear h2 h2' h2'' hx2
  go_wp2_with fail
  refine (divMod_any _ _ _ _ _ _ _ (HB.out.ext (((Ext.refl w).alloc _).trans HX2.out)) H1.out.rd (by omega) ln (by omega)).mono ?_
  rintro e w3 ⟨A3, c3, B3, d3, rfl, h3, h3', h3'', hx3⟩
  have HAp := Lib.hid (H2.out.apart h3 (Nat.le_refl _))
  have H3 := Lib.hid (h3.lower (show w.heap.size + 1 ≤ w2.heap.size by have := HX2.out.size; simp at this; omega))
  have H2 := Lib.hid ((H2.out.ext hx3).lower (show w.heap.size + 1 ≤ w1.heap.size by have := HX1.out.size; simp at this; omega))
  have HX3 := Lib.hid (HX2.out.trans hx3)
  have HZ3 := Lib.hid (show w.heap.size < w3.heap.size by have := HX3.out.size; simp at this; omega)
  clear h3 h3' h3'' hx3 H1
  obtain ⟨m', hm'⟩ : ∃ x, x = m / g := ⟨_, rfl⟩
  obtain ⟨n', hn'⟩ : ∃ x, x = n / g := ⟨_, rfl⟩
  rw [← hm'] at HE H2 ⊢
  rw [← hn'] at HE H3 ⊢
  have hml := wd_len_mono (show m' ≤ m by rw [hm']; exact Nat.div_le_self _ _)
  have hnl := wd_len_mono (show n' ≤ n by rw [hn']; exact Nat.div_le_self _ _)
  have Hm' := Lib.hid hm'
  clear hm' hn'
  have el : (wd (mkRat (sg b m) n).num.natAbs) = wd m' := congrArg Fr.num HE.out
  have ed : (wd (mkRat (sg b m) n).den) = wd n' := congrArg Fr.den HE.out
  have hbc := bcell HX3.out
  obtain ⟨hc, hf⟩ := hbc
  have HXw := Lib.hid (((Ext.refl w).alloc _).trans HX3.out)
  by_cases l1 : 2048 < (wd m').length
  · have HT := Lib.hid (show tell (mkRat (sg b m) n) = (Fr.zero, 3) by unfold tell lng; rw [el, if_pos (by simp; omega)])
    rw [HT.out]
    clear el ed
    go_wp2_with fail
    refine (long_any _ _ _ _ (by omega)).mono ?_; rintro e w' ⟨rfl, rfl⟩
    go_wp2_with fail
    exact bodyPost_ret (v := .tuple #[.agg #[.bool false, .slice none 0 0, .slice none 0 0], .int .i64 3]) (by simp [results, Tryz.results139, go_sem, hc]) rfl (RatP.nil HT.out rfl (by repeat (first | exact HXw.out | refine Ext.setCell ?_ (Nat.le_refl _) _)))
  · by_cases l2 : 2048 < (wd n').length
    · have HT := Lib.hid (show tell (mkRat (sg b m) n) = (Fr.zero, 3) by unfold tell lng; rw [ed, if_pos (by simp; omega)])
      rw [HT.out]
      clear el ed
      go_wp2_with fail
      refine (long_any _ _ _ _ (by omega)).mono ?_; rintro e w' ⟨rfl, rfl⟩
      go_wp2_with fail
      refine (long_any _ _ _ _ (by omega)).mono ?_; rintro e w' ⟨rfl, rfl⟩
      go_wp2_with fail
      exact bodyPost_ret (v := .tuple #[.agg #[.bool false, .slice none 0 0, .slice none 0 0], .int .i64 3]) (by simp [results, Tryz.results139, go_sem, hc]) rfl (RatP.nil HT.out rfl (by repeat (first | exact HXw.out | refine Ext.setCell ?_ (Nat.le_refl _) _)))
    · obtain ⟨s, hs⟩ : ∃ s : Bool, s = (b && decide (m ≠ 0)) := ⟨_, rfl⟩
      have HT := Lib.hid (show tell (mkRat (sg b m) n) = (⟨s, wd m', wd n'⟩, 0) by unfold tell lng; rw [el, ed, if_neg (by simp; omega), HE.out, hs])
      rw [HT.out]
      have hs2 : s = (b && decide (0 < (wd m').length)) := by
        rw [hs]
        congr 1
        have hz : m' = 0 ↔ m = 0 := by
          rw [Hm'.out, HG.out]
          constructor
          · intro h
            have := Nat.div_mul_cancel (Nat.gcd_dvd_left m n)
            rw [h, Nat.zero_mul] at this
            exact this.symm
          · intro h; rw [h, Nat.zero_div]
        have hl := @wd_len_zero m'
        by_cases h0 : m = 0
        · have := hl.2 (hz.2 h0)
          rw [decide_eq_false (by omega), decide_eq_false (by omega)]
        · have := mt hz.1 h0
          have := mt hl.1 this
          rw [decide_eq_true (by omega), decide_eq_true (by omega)]
      clear el ed hs
      cases b with
      | false =>
        obtain rfl : s = false := hs2
        go_wp2_with fail
        refine (long_any _ _ _ _ (by omega)).mono ?_; rintro e w' ⟨rfl, rfl⟩
        go_wp2_with fail
        refine (long_any _ _ _ _ (by omega)).mono ?_; rintro e w' ⟨rfl, rfl⟩
        go_wp2_with fail
        exact bodyPost_ret (v := .tuple #[.agg #[.bool false, .slice A2 (wd m').length c2, .slice A3 (wd n').length c3], .int .i64 0]) (by simp [results, Tryz.results139, go_sem, hc]) rfl (RatP.mk HT.out rfl (by refine Own.lower ?_ (Nat.le_succ _); repeat (first | exact H2.out | refine Own.setBelow ?_ (Nat.lt_succ_self _) _)) (by refine Own.lower ?_ (Nat.le_succ _); repeat (first | exact H3.out | refine Own.setBelow ?_ (Nat.lt_succ_self _) _)) HAp.out (by repeat (first | exact HXw.out | refine Ext.setCell ?_ (Nat.le_refl _) _)))
      | true =>
        rw [Bool.true_and] at hs2
        by_cases h0 : 0 < (wd m').length
        · obtain rfl : s = true := by rw [hs2]; exact decide_eq_true h0
          clear hs2
          go_wp2_with fail
          refine (long_any _ _ _ _ (by omega)).mono ?_; rintro e w' ⟨rfl, rfl⟩
          go_wp2_with fail
          refine (long_any _ _ _ _ (by omega)).mono ?_; rintro e w' ⟨rfl, rfl⟩
          go_wp2_with fail
          exact bodyPost_ret (v := .tuple #[.agg #[.bool true, .slice A2 (wd m').length c2, .slice A3 (wd n').length c3], .int .i64 0]) (by simp [results, Tryz.results139, go_sem, hc]) rfl (RatP.mk HT.out rfl (by refine Own.lower ?_ (Nat.le_succ _); repeat (first | exact H2.out | refine Own.setBelow ?_ (Nat.lt_succ_self _) _)) (by refine Own.lower ?_ (Nat.le_succ _); repeat (first | exact H3.out | refine Own.setBelow ?_ (Nat.lt_succ_self _) _)) HAp.out (by repeat (first | exact HXw.out | refine Ext.setCell ?_ (Nat.le_refl _) _)))
        · obtain rfl : s = false := by rw [hs2]; exact decide_eq_false h0
          clear hs2
          go_wp2_with fail
          refine (long_any _ _ _ _ (by omega)).mono ?_; rintro e w' ⟨rfl, rfl⟩
          go_wp2_with fail
          refine (long_any _ _ _ _ (by omega)).mono ?_; rintro e w' ⟨rfl, rfl⟩
          go_wp2_with fail
          exact bodyPost_ret (v := .tuple #[.agg #[.bool false, .slice A2 (wd m').length c2, .slice A3 (wd n').length c3], .int .i64 0]) (by simp [results, Tryz.results139, go_sem, hc]) rfl (RatP.mk HT.out rfl (by refine Own.lower ?_ (Nat.le_succ _); repeat (first | exact H2.out | refine Own.setBelow ?_ (Nat.lt_succ_self _) _)) (by refine Own.lower ?_ (Nat.le_succ _); repeat (first | exact H3.out | refine Own.setBelow ?_ (Nat.lt_succ_self _) _)) HAp.out (by repeat (first | exact HXw.out | refine Ext.setCell ?_ (Nat.le_refl _) _)))
def marks : List Int := [2882343476, 2882343477, 2882343478]
def sl (A : Option Addr) (n c : Nat) : Value := .slice A n c
structure Rows (base k gb : Nat) (P : Nat → Option Addr) (C : Nat → Nat) (X Z : Nat → List Int) (w : World) : Prop where
  idx : ∀ j, j < k → w.cell? ⟨gb, j, none⟩ = some (.slice (P j) (X j).length (C j))
  row : ∀ j, j < k → Own w base (P j) (C j) (Z j)
theorem cmp_eq_iff {m n : Nat} : cmp m n = 0 ↔ m = n := by unfold cmp; split <;> (try split) <;> omega
theorem compare_one (A : Option Addr) (g c : Nat) (w : World) (h : Rd w A c (wd g)) (b : Nat) (hb : Rd w (some ⟨b, 0, none⟩) 1 [1]) :
    Calls Tryz.prog 122 #[.slice A (wd g).length c, .slice (some ⟨b, 0, none⟩) 1 1] w fun e w' => e = .returned (.int .i64 (cmp g 1)) ∧ Ext w w' := by
  have h1 := compare_any A (some ⟨b, 0, none⟩) g 1 c 1 w h (by rw [wd_one]; exact hb)
  rw [show (wd 1).length = 1 by rw [wd_one]; rfl] at h1
  exact h1
set_option maxHeartbeats 2000000 in
theorem rcheck_any (s : Bool) (A B : Option Addr) (xs ys : List Int) (c d : Nat) (w : World) (ha : Rd w A c xs) (hb : Rd w B d ys) (hx : Wf xs) (hy : Wf ys) :
    Calls Tryz.prog 58 #[.agg #[.bool s, .slice A xs.length c, .slice B ys.length d]] w fun e w' => e = .returned (.int .i64 (fchk ⟨s, xs, ys⟩)) ∧ Ext w w' := by
  have hl := ha.lim
  have hly := hb.lim
  have HX := Lib.hid ((Ext.refl w).alloc (.cells #[.bool s, .slice A xs.length c, .slice B ys.length d] 24))
  have HA := Lib.hid (ha.ext HX.out)
  have HB := Lib.hid (hb.ext HX.out)
  clear ha hb
  by_cases h1 : 2048 < xs.length
  · have HE := Lib.hid (show fchk ⟨s, xs, ys⟩ = 3 from if_pos h1)
    rw [HE.out]
    go_enter Tryz.func58, Tryz.ntmps58
    go_wp2_with fail
    refine (long_any _ _ _ _ (by omega)).mono ?_; rintro e w' ⟨rfl, rfl⟩
    go_wp2_with fail
    go_ret
    exact ⟨rfl, HX.out⟩
  by_cases h2 : 2048 < ys.length
  · have HE := Lib.hid (show fchk ⟨s, xs, ys⟩ = 3 by unfold fchk; rw [if_neg h1, if_pos h2])
    rw [HE.out]
    go_enter Tryz.func58, Tryz.ntmps58
    go_wp2_with fail
    refine (long_any _ _ _ _ (by omega)).mono ?_; rintro e w' ⟨rfl, rfl⟩
    go_wp2_with fail
    refine (long_any _ _ _ _ (by omega)).mono ?_; rintro e w' ⟨rfl, rfl⟩
    go_wp2_with fail
    go_ret
    exact ⟨rfl, HX.out⟩
  by_cases h3 : chk xs ≠ 0
  · have HE := Lib.hid (show fchk ⟨s, xs, ys⟩ = 11 by unfold fchk; rw [if_neg h1, if_neg h2, if_pos h3])
    have hb1 : (chk xs != 0) = true := bne_iff_ne.2 h3
    rw [HE.out]
    clear h3
    go_enter Tryz.func58, Tryz.ntmps58
    go_wp2_with fail
    refine (long_any _ _ _ _ (by omega)).mono ?_; rintro e w' ⟨rfl, rfl⟩
    go_wp2_with fail
    refine (long_any _ _ _ _ (by omega)).mono ?_; rintro e w' ⟨rfl, rfl⟩
    go_wp2_with fail
    refine (check_any _ _ _ _ HA.out).mono ?_; rintro e w' ⟨rfl, rfl⟩
    go_wp2_with fail
    go_ret
    exact ⟨rfl, HX.out⟩
  have hb1 : (chk xs != 0) = false := bne_eq_false_iff_eq.2 (by simpa using h3)
  by_cases h4 : chk ys ≠ 0
  · have HE := Lib.hid (show fchk ⟨s, xs, ys⟩ = 11 by unfold fchk; rw [if_neg h1, if_neg h2, if_neg h3, if_pos h4])
    have hb2 : (chk ys != 0) = true := bne_iff_ne.2 h4
    rw [HE.out]
    clear h3 h4
    go_enter Tryz.func58, Tryz.ntmps58
    go_wp2_with fail
    refine (long_any _ _ _ _ (by omega)).mono ?_; rintro e w' ⟨rfl, rfl⟩
    go_wp2_with fail
    refine (long_any _ _ _ _ (by omega)).mono ?_; rintro e w' ⟨rfl, rfl⟩
    go_wp2_with fail
    refine (check_any _ _ _ _ HA.out).mono ?_; rintro e w' ⟨rfl, rfl⟩
    go_wp2_with fail
    refine (check_any _ _ _ _ HB.out).mono ?_; rintro e w' ⟨rfl, rfl⟩
    go_wp2_with fail
    go_ret
    exact ⟨rfl, HX.out⟩
  have hb2 : (chk ys != 0) = false := bne_eq_false_iff_eq.2 (by simpa using h4)
  by_cases h5 : ys.length = 0
  · have HE := Lib.hid (show fchk ⟨s, xs, ys⟩ = 11 by unfold fchk; rw [if_neg h1, if_neg h2, if_neg h3, if_neg h4, if_pos h5])
    have hb3 : ((ys.length : Int) == 0) = true := beq_iff_eq.2 (by omega)
    rw [HE.out]
    clear h3 h4 h5
    go_enter Tryz.func58, Tryz.ntmps58
    go_wp2_with fail
    refine (long_any _ _ _ _ (by omega)).mono ?_; rintro e w' ⟨rfl, rfl⟩
    go_wp2_with fail
    refine (long_any _ _ _ _ (by omega)).mono ?_; rintro e w' ⟨rfl, rfl⟩
    go_wp2_with fail
    refine (check_any _ _ _ _ HA.out).mono ?_; rintro e w' ⟨rfl, rfl⟩
    go_wp2_with fail
    refine (check_any _ _ _ _ HB.out).mono ?_; rintro e w' ⟨rfl, rfl⟩
    go_wp2_with fail
    go_ret
    exact ⟨rfl, HX.out⟩
  have hb3 : ((ys.length : Int) == 0) = false := beq_eq_false_iff_ne.2 (by omega)
  by_cases h6 : xs.length = 0 ∧ s = true
  · have HE := Lib.hid (show fchk ⟨s, xs, ys⟩ = 11 by unfold fchk; rw [if_neg h1, if_neg h2, if_neg h3, if_neg h4, if_neg h5, if_pos h6])
    have hb4 : ((xs.length : Int) == 0) = true := beq_iff_eq.2 (by omega)
    obtain rfl : s = true := h6.2
    rw [HE.out]
    clear h3 h4 h5 h6
    go_enter Tryz.func58, Tryz.ntmps58
    go_wp2_with fail
    refine (long_any _ _ _ _ (by omega)).mono ?_; rintro e w' ⟨rfl, rfl⟩
    go_wp2_with fail
    refine (long_any _ _ _ _ (by omega)).mono ?_; rintro e w' ⟨rfl, rfl⟩
    go_wp2_with fail
    refine (check_any _ _ _ _ HA.out).mono ?_; rintro e w' ⟨rfl, rfl⟩
    go_wp2_with fail
    refine (check_any _ _ _ _ HB.out).mono ?_; rintro e w' ⟨rfl, rfl⟩
    go_wp2_with fail
    go_ret
    exact ⟨rfl, HX.out⟩
  obtain ⟨ex, lx⟩ := chk_ok hx (by simpa using h3)
  obtain ⟨ey, ly⟩ := chk_ok hy (by simpa using h4)
  obtain ⟨m, hm⟩ : ∃ m, m = (val xs).toNat := ⟨_, rfl⟩
  obtain ⟨n, hn⟩ : ∃ n, n = (val ys).toNat := ⟨_, rfl⟩
  rw [← hm] at ex
  rw [← hn] at ey
  have HE : (Nat.gcd m n = 1 → fchk ⟨s, xs, ys⟩ = 0) ∧ (Nat.gcd m n ≠ 1 → fchk ⟨s, xs, ys⟩ = 11) := by
    unfold fchk
    rw [if_neg h1, if_neg h2, if_neg h3, if_neg h4, if_neg h5, if_neg h6, hm, hn]
    exact ⟨fun e => if_neg (fun h => h e), fun e => if_pos e⟩
  have hb4 : ((xs.length : Int) == 0) = false ∨ (((xs.length : Int) == 0) = true ∧ s = false) := by
    by_cases h : xs.length = 0
    · refine .inr ⟨beq_iff_eq.2 (by omega), ?_⟩
      cases s with
      | false => rfl
      | true => exact absurd ⟨h, rfl⟩ h6
    · exact .inl (beq_eq_false_iff_ne.2 (by omega))
  have HGC := Lib.hid (show ∀ wx, Rd wx A c xs → Rd wx B d ys → Calls Tryz.prog 129 #[.slice A xs.length c, .slice B ys.length d] wx (One wx (Nat.gcd m n)) from fun wx a b => by
    have := gcd_any A B m n c d wx (ex ▸ a) (ey ▸ b) (by rw [← ex]; omega) (by rw [← ey]; omega)
    rw [← ex, ← ey] at this
    exact this)
  obtain ⟨g, hg⟩ : ∃ g, g = Nat.gcd m n := ⟨_, rfl⟩
  rw [← hg] at HE HGC
  clear h3 h4 h5 h6 hm hn ex ey hg hx hy
  have HCM : Hid (cmp g 1 = 0 ↔ g = 1) := cmp_eq_iff
  by_cases hg1 : g = 1
  · have hcc : (cmp g 1 != 0) = false := bne_eq_false_iff_eq.2 (HCM.out.2 hg1)
    have HF := Lib.hid (show fchk ⟨s, xs, ys⟩ = 0 from HE.1 hg1)
    rw [HF.out]
    clear HE hg1
    rcases hb4 with hb4 | ⟨hb4, rfl⟩
    all_goals
      go_enter Tryz.func58, Tryz.ntmps58
      go_wp2_with fail
      refine (long_any _ _ _ _ (by omega)).mono ?_; rintro e w' ⟨rfl, rfl⟩
      go_wp2_with fail
      refine (long_any _ _ _ _ (by omega)).mono ?_; rintro e w' ⟨rfl, rfl⟩
      go_wp2_with fail
      refine (check_any _ _ _ _ HA.out).mono ?_; rintro e w' ⟨rfl, rfl⟩
      go_wp2_with fail
      refine (check_any _ _ _ _ HB.out).mono ?_; rintro e w' ⟨rfl, rfl⟩
      go_wp2_with fail
      refine (HGC.out _ HA.out HB.out).mono ?_; rintro e w1 ⟨A1, c1, rfl, k1, hx1⟩
      have H1 := Lib.hid k1
      have HX1 := Lib.hid (HX.out.trans hx1)
      clear k1 hx1
      go_wp2_with fail
      refine (compare_one _ _ _ _ (H1.out.rd.ext ((Ext.refl _).alloc _)) _ (Own.lit w1 _ [1] rfl (by decide)).rd).mono ?_; rintro e w2 ⟨rfl, hx2⟩
      have HX2 := Lib.hid ((HX1.out.alloc _).trans hx2)
      clear hx2
      go_wp2_with fail
      go_ret
      exact ⟨rfl, HX2.out⟩
  · have hcc : (cmp g 1 != 0) = true := bne_iff_ne.2 (fun e => hg1 (HCM.out.1 e))
    have HF := Lib.hid (show fchk ⟨s, xs, ys⟩ = 11 from HE.2 hg1)
    rw [HF.out]
    clear HE hg1
    rcases hb4 with hb4 | ⟨hb4, rfl⟩
    all_goals
      go_enter Tryz.func58, Tryz.ntmps58
      go_wp2_with fail
      refine (long_any _ _ _ _ (by omega)).mono ?_; rintro e w' ⟨rfl, rfl⟩
      go_wp2_with fail
      refine (long_any _ _ _ _ (by omega)).mono ?_; rintro e w' ⟨rfl, rfl⟩
      go_wp2_with fail
      refine (check_any _ _ _ _ HA.out).mono ?_; rintro e w' ⟨rfl, rfl⟩
      go_wp2_with fail
      refine (check_any _ _ _ _ HB.out).mono ?_; rintro e w' ⟨rfl, rfl⟩
      go_wp2_with fail
      refine (HGC.out _ HA.out HB.out).mono ?_; rintro e w1 ⟨A1, c1, rfl, k1, hx1⟩
      have H1 := Lib.hid k1
      have HX1 := Lib.hid (HX.out.trans hx1)
      clear k1 hx1
      go_wp2_with fail
      refine (compare_one _ _ _ _ (H1.out.rd.ext ((Ext.refl _).alloc _)) _ (Own.lit w1 _ [1] rfl (by decide)).rd).mono ?_; rintro e w2 ⟨rfl, hx2⟩
      have HX2 := Lib.hid ((HX1.out.alloc _).trans hx2)
      clear hx2
      go_wp2_with fail
      go_ret
      exact ⟨rfl, HX2.out⟩
set_option maxHeartbeats 1000000 in
theorem size_any (x : Int) (w : World) (h0 : -9223372036854775808 ≤ x) (h1 : x ≤ 9223372036854775807) :
    Calls Tryz.prog 140 #[.int .i64 x] w fun e w' => ∃ A' c', e = .returned (.slice A' (wd x.natAbs).length c') ∧ Own w' w.heap.size A' c' (wd x.natAbs) ∧ Ext w w' := by
  obtain ⟨m, hm⟩ : ∃ m, m = x.natAbs := ⟨_, rfl⟩
  rw [← hm]
  have H := Lib.hid (of_any m w (by omega))
  by_cases hx : x < 0
  · have HE := Lib.hid (show IntKind.u64.wrap (-IntKind.u64.wrap x) = (m : Int) by rw [IntKind.wrap_u64, IntKind.wrap_u64]; omega)
    clear hm
    go_enter Tryz.func140, Tryz.ntmps140
    go_wp2_with fail
    rw [HE.out]
    refine H.out.mono ?_; rintro e w1 ⟨A1, c1, rfl, h1, hx1⟩
    have H1 := Lib.hid h1
    have HX1 := Lib.hid hx1
    clear h1 hx1
    go_wp2_with fail
    go_ret
    exact ⟨_, _, rfl, H1.out, HX1.out⟩
  · obtain rfl : x = (m : Int) := by omega
    clear hm
    go_enter Tryz.func140, Tryz.ntmps140
    go_wp2_with fail
    refine H.out.mono ?_; rintro e w1 ⟨A1, c1, rfl, h1, hx1⟩
    have H1 := Lib.hid h1
    have HX1 := Lib.hid hx1
    clear h1 hx1
    go_wp2_with fail
    go_ret
    exact ⟨_, _, rfl, H1.out, HX1.out⟩
def fsmall (n d : Int) : Fr × Int := if d = 0 then (Fr.zero, 7) else tell (mkRat (sg (decide (n < 0) != decide (d < 0)) n.natAbs) d.natAbs)
theorem wd_len_64 (x : Int) (h0 : -9223372036854775808 ≤ x) (h1 : x ≤ 9223372036854775807) : (wd x.natAbs).length ≤ 2 := wd_two' _ (by omega)
set_option maxHeartbeats 1000000 in
theorem small_frac (n d : Int) (w : World) (h0 : -9223372036854775808 ≤ n) (h1 : n ≤ 9223372036854775807) (k0 : -9223372036854775808 ≤ d) (k1 : d ≤ 9223372036854775807) :
    Calls Tryz.prog 59 #[.int .i64 n, .int .i64 d] w (RatP w (fsmall n d)) := by
  by_cases hd : d = 0
  · have HT := Lib.hid (show fsmall n d = (Fr.zero, 7) from if_pos hd)
    subst hd
    go_enter Tryz.func59, Tryz.ntmps59
    go_wp2_with fail
    exact bodyPost_ret (v := .tuple #[.agg #[.bool false, .slice none 0 0, .slice none 0 0], .int .i64 7]) (by simp [results, Tryz.results59, go_sem]) rfl (RatP.nil HT.out rfl (by repeat (first | exact Ext.refl w | refine Ext.setCell ?_ (Nat.le_refl _) _ | refine Ext.alloc ?_ _)))
  · have hdb : (d == 0) = false := beq_eq_false_iff_ne.2 hd
    have Hn := Lib.hid (wd_len_64 n h0 h1)
    have Hd := Lib.hid (wd_len_64 d k0 k1)
    have Hz := Lib.hid (show d.natAbs ≠ 0 by omega)
    obtain ⟨t, ht⟩ : ∃ t, t = tell (mkRat (sg (decide (n < 0) != decide (d < 0)) n.natAbs) d.natAbs) := ⟨_, rfl⟩
    have HT := Lib.hid (show fsmall n d = t by rw [ht]; exact if_neg hd)
    have HL := fun (wx : World) (b : Bool) (A B : Option Addr) (c e : Nat) (ha : Rd wx A c (wd n.natAbs)) (hb : Rd wx B e (wd d.natAbs)) (hbb : b = (decide (n < 0) != decide (d < 0))) => Lib.hid (show Calls Tryz.prog 139 #[.bool b, .slice A (wd n.natAbs).length c, .slice B (wd d.natAbs).length e] wx (RatP wx t) by
      subst hbb; rw [ht]; exact lowest_any _ A B _ _ c e wx ha hb Hz.out (by have := Hn.out; omega) (by have := Hd.out; omega))
    have HLL := Lib.hid HL
    clear HL ht hd
    go_enter Tryz.func59, Tryz.ntmps59
    go_wp2_with fail
    refine (size_any n _ h0 h1).mono ?_; rintro e w1 ⟨A1, c1, rfl, h1', hx1⟩
    have H1 := Lib.hid h1'
    have HX1 := Lib.hid hx1
    clear h1' hx1
    go_wp2_with fail
    refine (size_any d _ k0 k1).mono ?_; rintro e w2 ⟨A2, c2, rfl, h2, hx2⟩
    have H2 := Lib.hid h2
    have H1 := Lib.hid (H1.out.ext hx2)
    have HX2 := Lib.hid (HX1.out.trans hx2)
    clear h2 hx2
    go_wp2_with fail
    refine (HLL.out _ _ _ _ _ _ H1.out.rd H2.out.rd rfl).out.mono ?_; rintro e w3 ⟨A3, c3, B3, d3, rfl, h3, h4, h5, hx3⟩
    have H3 := Lib.hid (h3.lower (show w.heap.size + 1 ≤ w2.heap.size by have := HX2.out.size; simp at this; omega))
    have H4 := Lib.hid (h4.lower (show w.heap.size + 1 ≤ w2.heap.size by have := HX2.out.size; simp at this; omega))
    have HAp := Lib.hid h5
    have HX3 := Lib.hid (HX2.out.trans hx3)
    have HXw := Lib.hid (((Ext.refl w).alloc _).trans HX3.out)
    have hz3 : w.heap.size < w3.heap.size := by have := HX3.out.size; simp at this; omega
    clear h3 h4 h5 hx3
    obtain ⟨hc, hf⟩ := bcell HX3.out
    go_wp2_with fail
    exact bodyPost_ret (v := .tuple #[.agg #[.bool t.1.neg, .slice A3 t.1.num.length c3, .slice B3 t.1.den.length d3], .int .i64 t.2]) (by simp [results, Tryz.results59, go_sem, hc]) rfl (RatP.mk HT.out rfl (by refine Own.lower ?_ (Nat.le_succ _); repeat (first | exact H3.out | refine Own.setBelow ?_ (Nat.lt_succ_self _) _)) (by refine Own.lower ?_ (Nat.le_succ _); repeat (first | exact H4.out | refine Own.setBelow ?_ (Nat.lt_succ_self _) _)) HAp.out (by repeat (first | exact HXw.out | refine Ext.setCell ?_ (Nat.le_refl _) _)))
structure Adr where
  A : Option Addr
  c : Nat
  B : Option Addr
  d : Nat
structure RF (w : World) (p : Adr) (f : Fr) : Prop where
  num : Rd w p.A p.c f.num
  den : Rd w p.B p.d f.den
  wf : f.Wf
structure OF (w : World) (base : Nat) (p : Adr) (f : Fr) : Prop where
  num : Own w base p.A p.c f.num
  den : Own w base p.B p.d f.den
  ap : ∀ a b, p.A = some a → p.B = some b → a.block ≠ b.block
  wf : f.Wf
def TF (w : World) (t : Fr × Int) (e : Ending) (w' : World) : Prop :=
  ∃ p : Adr, e = .returned (.tuple #[.agg #[.bool t.1.neg, .slice p.A t.1.num.length p.c, .slice p.B t.1.den.length p.d], .int .i64 t.2]) ∧ OF w' w.heap.size p t.1 ∧ Below w.heap.size w w'
theorem RatP.tf {w w' : World} {t : Fr × Int} {e : Ending} (h : RatP w t e w') (hg : t.1.Wf) : TF w t e w' := by
  obtain ⟨A, c, B, d, h1, h2, h3, h4, h5⟩ := h
  exact ⟨⟨A, c, B, d⟩, h1, ⟨h2, h3, h4, hg⟩, h5⟩
section
variable (a b : Fr) (p q : Adr) (w : World) (ha : RF w p a) (hb : RF w q b)
include ha hb
end
theorem fsmall_wf (n d : Int) : (fsmall n d).1.Wf := by
  unfold fsmall
  split
  · exact Fr.zero_wf
  · exact tell_wf _
theorem rSmall (n d : Int) (w : World) (h0 : -9223372036854775808 ≤ n) (h1 : n ≤ 9223372036854775807) (k0 : -9223372036854775808 ≤ d) (k1 : d ≤ 9223372036854775807) : Calls Tryz.prog 59 #[.int .i64 n, .int .i64 d] w (TF w (fsmall n d)) :=
  (small_frac n d w h0 h1 k0 k1).mono fun _ _ h => h.tf (fsmall_wf n d)
section
variable (a b : Fr) (p q : Adr) (w : World) (ha : RF w p a) (hb : RF w q b)
include ha hb
end
end Go.Proofs.YtemlaompalbgiaaGreatDoor
