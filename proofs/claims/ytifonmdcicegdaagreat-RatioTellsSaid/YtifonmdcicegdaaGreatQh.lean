/- Texts of this claim, joined: R15 G1 G2 G3 G4. -/
import Derived.Test.YtifonmdcicegdaaGreatQg
/- ratio.Floor. -/
namespace Go.Proofs.YtifonmdcicegdaaGreat
open Go Go.RowKit

/-- a whole number is told: new memory, or the error -/
def FlP (w : World) (t : Bool × List Int × Int) (e : Ending) (w' : World) : Prop :=
  ∃ A c, e = .returned (.tuple #[.agg #[.bool t.1, .slice A t.2.1.length c], .int .i64 t.2.2]) ∧ Own w' w.heap.size A c t.2.1 ∧ Ext w w'

set_option maxRecDepth 4000 in
set_option maxHeartbeats 2000000 in
theorem floor_fr_raw (s : Bool) (xs ys : List Int) (A B : Option Addr) (c1 c2 : Nat) (w : World) (ha : Rd w A c1 xs) (hb : Rd w B c2 ys) (wa : (⟨s, xs, ys⟩ : Fr).Wf) :
    Calls Tryz.prog 27 #[.agg #[.bool s, .slice A xs.length c1, .slice B ys.length c2]] w (FlP w (ffloor ⟨s, xs, ys⟩)) := by
  have HCK := Lib.hid (fun wx (h1 : Rd wx A c1 xs) (h2 : Rd wx B c2 ys) => show Calls Tryz.prog 29 #[.agg #[.bool s, .slice A xs.length c1, .slice B ys.length c2]] wx (fun e w' => e = .returned (.int .i64 (fchk ⟨s, xs, ys⟩)) ∧ Ext wx w') from rcheck_fr ⟨s, xs, ys⟩ A B c1 c2 wx h1 h2 wa)
  obtain ⟨a, ea⟩ : ∃ a : Fr, a = ⟨s, xs, ys⟩ := ⟨_, rfl⟩
  rw [← ea] at HCK wa ⊢
  have HA := Lib.hid ha
  have HB := Lib.hid hb
  clear ha hb
  by_cases hk : fchk a ≠ 0
  · have HT := Lib.hid (show ffloor a = (false, [], fchk a) from if_pos hk)
    have hb1 : (fchk a != 0) = true := bne_iff_ne.2 hk
    rw [HT.out]
    clear hk ea
    go_enter Tryz.func27, Tryz.ntmps27
    go_wp2_with fail
    obtain ⟨W, hW⟩ : ∃ W, W = (w.alloc (.cells #[.bool s, .slice A xs.length c1, .slice B ys.length c2] 24)).alloc (.cells #[.bool false, .slice none 0 0] 38) := ⟨_, rfl⟩
    have F0 : Thr W w.heap.size (.bool s) (.slice A xs.length c1) (.slice B ys.length c2) := by rw [hW]; refine ⟨?_, ?_, ?_⟩ <;> simp [go_sem]
    have HX : Hid (Ext w W) := by rw [hW]; exact ((Ext.refl w).alloc _).alloc _
    have HV : Hid (Var (w.heap.size + 1) [.bool false, .slice none 0 0] W) := by
      have h1 := Var.new (w.alloc (.cells #[.bool s, .slice A xs.length c1, .slice B ys.length c2] 24)) [.bool false, .slice none 0 0] 38
      rw [hW]
      unfold Hid
      simpa using h1
    have HZ := Lib.hid (show W.heap.size = w.heap.size + 2 by rw [hW]; simp)
    try rw [← hW]
    clear hW
    refine (HCK.out W (HA.out.ext HX.out) (HB.out.ext HX.out)).mono ?_; rintro e w1 ⟨rfl, hx1⟩
    have F1 := thr_ext hx1 F0
    have HX1 := Lib.hid (HX.out.trans hx1)
    have HV1 := Lib.hid (HV.out.ext hx1)
    have HZ1 := Lib.hid (show w.heap.size + 2 ≤ w1.heap.size by have := hx1.size; have := HZ.out; omega)
    clear hx1 F0 HX HV
    have r0 := HV1.out.at_ 0 _ rfl
    have s0 := HV1.out.fr 0
    have r1 := HV1.out.at_ 1 _ rfl
    have s1 := HV1.out.fr 1
    clear F1
    go_wp2_with fail
    exact bodyPost_ret (v := .tuple #[.agg #[.bool false, .slice none 0 0], .int .i64 (fchk a)]) (by simp [results, Tryz.results27, go_sem, r0, r1]) rfl ⟨none, 0, rfl, Own.nil _ _, (by repeat (first | (with_reducible exact HX1.out) | refine Ext.setCell ?_ (by simp; try omega) _))⟩
  have h0 : fchk a = 0 := by simpa using hk
  have hb1 : (fchk a != 0) = false := bne_eq_false_iff_eq.2 h0
  obtain ⟨q, eq, lq⟩ := fchk_ok wa h0
  have LQ := not_lng lq
  have E1 : xs = wd q.num.natAbs := by have h := congrArg Fr.num (ea.symm.trans eq); exact h
  have E2 : ys = wd q.den := by have h := congrArg Fr.den (ea.symm.trans eq); exact h
  have E5 : s = decide (q.num < 0) := by have h := congrArg Fr.neg (ea.symm.trans eq); exact h
  have HT := Lib.hid (show ffloor a = (s, wd q.floor.natAbs, 0) by unfold ffloor; rw [if_neg (by omega), eq, dec_enc, E5]; rfl)
  rw [HT.out]
  have FP := floor_pos q
  have FN := floor_neg q
  have hden := q.den_nz
  obtain ⟨Q, hQ⟩ : ∃ Q, q.num.natAbs / q.den = Q := ⟨_, rfl⟩
  obtain ⟨R, hR⟩ : ∃ R, q.num.natAbs % q.den = R := ⟨_, rfl⟩
  have HDM := Lib.hid (fun wx (hx : Ext w wx) => by
    have h1 := divMod_any A B q.num.natAbs q.den c1 c2 wx (E1 ▸ HA.out.ext hx) (E2 ▸ HB.out.ext hx) hden (by omega) (by omega)
    rw [← E1, ← E2, hQ, hR] at h1
    exact h1)
  have lQ1 := wd_len_mono (show Q + 1 ≤ q.num.natAbs + 1 by rw [← hQ]; have := Nat.div_le_self q.num.natAbs q.den; omega)
  have lQ2 : R ≠ 0 → (wd (Q + 1)).length ≤ 2048 := fun hR0 => by
    have h1 : Q + 1 ≤ q.num.natAbs := by
      have e1 := Nat.div_add_mod q.num.natAbs q.den
      rw [hQ, hR] at e1
      have e2 : 1 * Q ≤ q.den * Q := Nat.mul_le_mul_right _ (by omega)
      omega
    have := wd_len_mono h1
    omega
  have lQ : (wd Q).length ≤ 2048 := by have := wd_len_mono (show Q ≤ q.num.natAbs by rw [← hQ]; exact Nat.div_le_self _ _); omega
  rw [hQ] at FP FN
  rw [hR] at FN
  obtain ⟨F, hF⟩ : ∃ F, q.floor.natAbs = F := ⟨_, rfl⟩
  rw [hF] at FP FN ⊢
  have hFS : q.floor < 0 → F ≠ 0 := fun h => by omega
  have HFP := Lib.hid (show s = false → F = Q from fun h => (FP (of_decide_eq_false (E5 ▸ h))).1)
  have HFN := Lib.hid (show s = true → (R = 0 → F = Q) ∧ (R ≠ 0 → F = Q + 1) ∧ F ≠ 0 from fun h => ⟨(FN (of_decide_eq_true (E5 ▸ h))).1, (FN (of_decide_eq_true (E5 ▸ h))).2.1, hFS (FN (of_decide_eq_true (E5 ▸ h))).2.2⟩)
  have HRZ := Lib.hid (show R = 0 ↔ (wd R).length = 0 from wd_len_zero.symm)
  have HL2 := Lib.hid lQ2
  clear hk h0 eq E1 E2 E5 ea wa HT FP FN hden hF hFS lQ1 lQ2 LQ lq hQ hR
  go_enter Tryz.func27, Tryz.ntmps27
  go_wp2_with fail
  obtain ⟨W, hW⟩ : ∃ W, W = (w.alloc (.cells #[.bool s, .slice A xs.length c1, .slice B ys.length c2] 24)).alloc (.cells #[.bool false, .slice none 0 0] 38) := ⟨_, rfl⟩
  have F0 : Thr W w.heap.size (.bool s) (.slice A xs.length c1) (.slice B ys.length c2) := by rw [hW]; refine ⟨?_, ?_, ?_⟩ <;> simp [go_sem]
  have HX : Hid (Ext w W) := by rw [hW]; exact ((Ext.refl w).alloc _).alloc _
  have HV : Hid (Var (w.heap.size + 1) [.bool false, .slice none 0 0] W) := by
    have h1 := Var.new (w.alloc (.cells #[.bool s, .slice A xs.length c1, .slice B ys.length c2] 24)) [.bool false, .slice none 0 0] 38
    rw [hW]
    unfold Hid
    simpa using h1
  have HZ := Lib.hid (show W.heap.size = w.heap.size + 2 by rw [hW]; simp)
  try rw [← hW]
  clear hW
  refine (HCK.out W (HA.out.ext HX.out) (HB.out.ext HX.out)).mono ?_; rintro e w1 ⟨rfl, hx1⟩
  have F1 := thr_ext hx1 F0
  have HX1 := Lib.hid (HX.out.trans hx1)
  have HV1 := Lib.hid (HV.out.ext hx1)
  have HZ1 := Lib.hid (show w.heap.size + 2 ≤ w1.heap.size by have := hx1.size; have := HZ.out; omega)
  clear hx1 F0 HX HV
  obtain ⟨u0, u1, u2⟩ := id F1
  go_wp2_with fail
  refine (HDM.out _ HX1.out).mono ?_; rintro e w2 ⟨A5, c5, B5, d5, rfl, o1, o2, ap, hx⟩
  have hzz := HZ1.out
  have O1 := Lib.hid (o1.lower (show w.heap.size + 2 ≤ w1.heap.size by omega))
  have F2 := thr_ext hx F1
  have HX2 := Lib.hid (HX1.out.trans hx)
  have HV2 := Lib.hid (HV1.out.ext hx)
  have hz2 := hx.size
  clear o1 o2 ap hx u0 u1 u2 F1 HV1
  obtain ⟨u0, u1, u2⟩ := id F2
  cases s with
  | false =>
    have HEF := Lib.hid (HFP.out rfl)
  
    have r0 := HV2.out.at_ 0 _ rfl
    have s0 := HV2.out.fr 0
    have r1 := HV2.out.at_ 1 _ rfl
    have s1 := HV2.out.fr 1
    go_wp2_with fail
    exact bodyPost_ret (v := .tuple #[.agg #[.bool false, .slice A5 (wd Q).length c5], .int .i64 0]) (by simp [results, Tryz.results27, go_sem, r0, r1]) rfl ⟨A5, c5, by rw [HEF.out], by rw [HEF.out]; exact (by refine Own.lower ?_ (show w.heap.size ≤ w.heap.size + 2 by omega); repeat (first | (with_reducible exact O1.out) | refine Own.setBelow ?_ (by simp; try omega) _)), (by repeat (first | (with_reducible exact HX2.out) | refine Ext.setCell ?_ (by simp; try omega) _))⟩
  | true =>
    obtain ⟨g1, g2, g3⟩ := HFN.out rfl
    by_cases hr : R = 0
    · have HEF := Lib.hid (g1 hr)
      have hrl : ¬ (0 < (wd R).length) := by have := HRZ.out.1 hr; omega
      have hql : 0 < (wd Q).length := by have h1 := HEF.out; have h2 := @wd_len_zero Q; omega
      clear g1 g2 g3 hr
    
      have r0 := HV2.out.at_ 0 _ rfl
      have s0 := HV2.out.fr 0
      have r1 := HV2.out.at_ 1 _ rfl
      have s1 := HV2.out.fr 1
      go_wp2_with fail
      exact bodyPost_ret (v := .tuple #[.agg #[.bool true, .slice A5 (wd Q).length c5], .int .i64 0]) (by simp [results, Tryz.results27, go_sem, r0, r1]) rfl ⟨A5, c5, by rw [HEF.out], by rw [HEF.out]; exact (by refine Own.lower ?_ (show w.heap.size ≤ w.heap.size + 2 by omega); repeat (first | (with_reducible exact O1.out) | refine Own.setBelow ?_ (by simp; try omega) _)), (by repeat (first | (with_reducible exact HX2.out) | refine Ext.setCell ?_ (by simp; try omega) _))⟩
    · have HEF := Lib.hid (g2 hr)
      have hrl : 0 < (wd R).length := by have h1 := mt HRZ.out.2 hr; omega
      have hql : 0 < (wd (Q + 1)).length := by have h2 := @wd_len_zero (Q + 1); omega
      have hl2 := HL2.out hr
      clear g1 g2 g3 hr
      have HAD := Lib.hid (fun (wx : World) (h1 : Rd wx A5 c5 (wd Q)) (b : Nat) (hb : Rd wx (some ⟨b, 0, none⟩) 1 [1]) => by
        have h := add_any A5 (some ⟨b, 0, none⟩) Q 1 c5 1 wx h1 (by rw [wd_one]; exact hb) (by omega) (by rw [wd_one]; decide)
        rw [show (wd 1).length = 1 by rw [wd_one]; rfl] at h
        exact h)
      go_wp2_with fail
      refine (HAD.out _ (O1.out.rd.ext ((Ext.refl _).alloc _)) _ (Own.lit w2 _ [1] rfl (by decide)).rd).mono ?_; rintro e w3 ⟨A6, c6, rfl, o1, hx⟩
      have O3 := Lib.hid (o1.lower (show w.heap.size + 2 ≤ (w2.alloc (.cells #[.int .u32 1] 144)).heap.size by simp; omega))
      have HXa := Lib.hid (((Ext.refl w2).alloc (.cells #[.int .u32 1] 144)).trans hx)
      clear o1 hx u0 u1 u2
      have HX3 := Lib.hid (HX2.out.trans HXa.out)
      have HV3 := Lib.hid (HV2.out.ext HXa.out)
      obtain ⟨u0, u1, u2⟩ := thr_ext HXa.out F2
      have r0 := HV3.out.at_ 0 _ rfl
      have s0 := HV3.out.fr 0
      have r1 := HV3.out.at_ 1 _ rfl
      have s1 := HV3.out.fr 1
      go_wp2_with fail
      exact bodyPost_ret (v := .tuple #[.agg #[.bool true, .slice A6 (wd (Q + 1)).length c6], .int .i64 0]) (by simp [results, Tryz.results27, go_sem, r0, r1]) rfl ⟨A6, c6, by rw [HEF.out], by rw [HEF.out]; exact (by refine Own.lower ?_ (show w.heap.size ≤ w.heap.size + 2 by omega); repeat (first | (with_reducible exact O3.out) | refine Own.setBelow ?_ (by simp; try omega) _)), (by repeat (first | (with_reducible exact HX3.out) | refine Ext.setCell ?_ (by simp; try omega) _))⟩
theorem floor_fr (a : Fr) (A B : Option Addr) (c1 c2 : Nat) (w : World) (ha : Rd w A c1 a.num) (hb : Rd w B c2 a.den) (wa : a.Wf) :
    Calls Tryz.prog 27 #[.agg #[.bool a.neg, .slice A a.num.length c1, .slice B a.den.length c2]] w (FlP w (ffloor a)) :=
  floor_fr_raw a.neg a.num a.den A B c1 c2 w ha hb wa

end Go.Proofs.YtifonmdcicegdaaGreat

/- The reference's looks at words: Check, both, told, Trim, word, Compare, Of. -/
namespace Go.Proofs.YtifonmdcicegdaaGreat
open Go Go.RowKit

set_option maxHeartbeats 400000 in
theorem gcheck_any (A : Option Addr) (xs : List Int) (c : Nat) (w : World) (h : Rd w A c xs) :
    Calls Tryz.prog 274 #[.slice A xs.length c] w fun e w' => e = .returned (.int .i64 (chk xs)) ∧ w = w' := by
  have hl := h.lim
  have hc := h.cap
  have HA := Lib.hid h.at_
  clear h
  by_cases h1 : 8192 < xs.length
  · have HE := Lib.hid (show chk xs = 3 by unfold chk; rw [if_pos h1])
    go_enter Tryz.func274, Tryz.ntmps274
    go_wp2
    go_ret
    exact ⟨by rw [HE.out]; rfl, rfl⟩
  · by_cases h0 : xs.length = 0
    · have HE := Lib.hid (show chk xs = 0 by unfold chk; rw [if_neg h1, if_neg]; rintro ⟨h2, _⟩; exact h2 (List.eq_nil_of_length_eq_zero h0))
      have hn' : ¬ (0 < xs.length) := by omega
      clear h0
      go_enter Tryz.func274, Tryz.ntmps274
      go_wp2
      go_ret
      exact ⟨by rw [HE.out]; rfl, rfl⟩
    · obtain ⟨k, hk⟩ := Nat.exists_eq_succ_of_ne_zero h0
      obtain ⟨a, rfl, hcell⟩ := HA.out k (by omega)
      have hp : 0 < xs.length := by omega
      have hi : ((xs.length : Int) - 1).toNat = k := by omega
      by_cases hz : nth xs k = 0
      · have HE := Lib.hid (show chk xs = 11 by
          unfold chk; rw [if_neg h1, if_pos ⟨fun e => by simp [e] at hp, by rw [hk]; exact hz⟩])
        rw [hz] at hcell
        clear hz hk h0
        go_enter Tryz.func274, Tryz.ntmps274
        go_wp2
        go_ret
        exact ⟨by rw [HE.out]; rfl, rfl⟩
      · have HE := Lib.hid (show chk xs = 0 by
          unfold chk; rw [if_neg h1, if_neg]; rintro ⟨_, h2⟩; rw [hk] at h2; exact hz h2)
        have hz' : (nth xs k == 0) = false := by simpa using hz
        clear hz hk h0
        go_enter Tryz.func274, Tryz.ntmps274
        go_wp2
        go_ret
        exact ⟨by rw [HE.out]; rfl, rfl⟩

set_option maxHeartbeats 400000 in
theorem gboth_ok (A B : Option Addr) (m n : Nat) (c d : Nat) (w : World) (h : Rd w A c (wd m)) (k : Rd w B d (wd n)) (hm : (wd m).length ≤ 8192) (hn : (wd n).length ≤ 8192) :
    Calls Tryz.prog 237 #[.slice A (wd m).length c, .slice B (wd n).length d] w fun e w' => e = .returned (.int .i64 0) ∧ w = w' := by
  have H := Lib.hid (gcheck_any A _ c w h)
  have K := Lib.hid (gcheck_any B _ d w k)
  rw [chk_wd m hm] at H
  rw [chk_wd n hn] at K
  clear h k
  go_enter Tryz.func237, Tryz.ntmps237
  go_wp2_with fail
  refine H.out.mono ?_; rintro e w' ⟨rfl, rfl⟩
  go_wp2_with fail
  refine K.out.mono ?_; rintro e w' ⟨rfl, rfl⟩
  go_wp2_with fail
  go_ret
  exact ⟨rfl, rfl⟩

theorem gtold_ok (A : Option Addr) (n c : Nat) (w : World) (hn : n ≤ 8192) :
    Calls Tryz.prog 239 #[.slice A n c] w fun e w' => e = .returned (.tuple #[.slice A n c, .int .i64 0]) ∧ w = w' := by
  go_enter Tryz.func239, Tryz.ntmps239
  go_wp2
  go_ret2
  exact ⟨rfl, rfl⟩

set_option maxHeartbeats 400000 in
theorem gtrim_any (A : Option Addr) (xs : List Int) (c l n : Nat) (w : World) (h : Rd w A c xs) (hl : xs.length = l) (hw : Wf xs) (hv : val xs = n) (hm : l ≤ 35184372088832) :
    Calls Tryz.prog 275 #[.slice A l c] w fun e w' => ∃ A' c', e = .returned (.slice A' (wd n).length c') ∧ Own w' w.heap.size A' c' (wd n) ∧ Ext w w' := by
  subst hl
  have ht : xs.take (tl xs xs.length) = wd n := by rw [tl_all hw, hv]; rfl
  have hlim := h.lim
  have hc := h.cap
  have H := Lib.hid h
  have HTK := Lib.hid ht
  clear h ht hw hv
  go_enter Tryz.func275, Tryz.ntmps275
  go_wp2
  go_loop [3] (fun i => ∃ k : Nat, k ≤ xs.length ∧ Hid (tl xs k = tl xs xs.length) ∧ i = .int .i64 k) (fun i => (intOf i).toNat)
  case atStart => exact ⟨xs.length, by omega, rfl, rfl⟩
  case round =>
    obtain ⟨k, hk, hj, rfl⟩ := hrel
    have hfin : nth xs (k - 1) ≠ 0 ∨ k = 0 → k = tl xs xs.length := by
      intro h
      rw [← hj.out]
      cases k with
      | zero => rfl
      | succ k =>
        rcases h with h | h
        · exact (tl_here xs k h).symm
        · omega
    have hgo : nth xs (k - 1) = 0 ∧ 0 < k ∨ (nth xs (k - 1) ≠ 0 ∨ k = 0) := by
      by_cases h1 : nth xs (k - 1) = 0
      · by_cases h2 : k = 0
        · exact .inr (.inr h2)
        · exact .inl ⟨h1, by omega⟩
      · exact .inr (.inl h1)
    rcases hgo with ⟨hz, hp⟩ | hstop
    · obtain ⟨j, rfl⟩ : ∃ j, k = j + 1 := ⟨k - 1, by omega⟩
      obtain ⟨a, rfl, hcell⟩ := H.out.at_ j (by omega)
      simp only [Nat.add_sub_cancel] at hz
      have HJ := Lib.hid ((tl_zero xs j hz).symm.trans hj.out)
      rw [hz] at hcell
      clear hz hfin
      go_wp2
      go_round
      case rel => exact ⟨j, by omega, HJ.out, by go_num⟩
      case measure => simp [intOf]
    · have HK := Lib.hid (hfin hstop)
      have HTa := Lib.hid (show xs.take k = wd n by rw [HK.out]; exact HTK.out)
      have HLk := Lib.hid (show (wd n).length = k by rw [← HTa.out, List.length_take]; omega)
      have HRd := Lib.hid (show Rd w A c (wd n) by rw [← HTa.out]; exact H.out.take k)
      clear hfin
      have hst : k = 0 ∨ (∃ j a, k = j + 1 ∧ A = some a ∧ w.cell? (a.add j) = some (.int .u32 (nth xs j)) ∧ (nth xs j == 0) = false) := by
        cases k with
        | zero => exact .inl rfl
        | succ j =>
          refine .inr ⟨j, ?_⟩
          obtain ⟨a, ha, hcell⟩ := H.out.at_ j (by omega)
          refine ⟨a, rfl, ha, hcell, ?_⟩
          rcases hstop with h | h
          · exact beq_eq_false_iff_ne.2 h
          · omega
      clear hstop
      rcases hst with rfl | ⟨j, a, rfl, rfl, hcell, hz'⟩
      · go_wp2_with (at_builtin; refine wpList_app rfl _ _ rfl w.heap.size none 0 [] 0 rfl rfl (Own.nil _ _) _ _ (wd n) _ HLk.out rfl HRd.out (by omega) (Nat.le_refl _) ?_; intro A' c' w1 hO hg)
        have HO := Lib.hid hO
        have HX : Hid (Ext w w1) := (Ext.refl w).grownNone hg
        clear hO hg
        go_wp2_with fail
        go_ret
        exact ⟨A', c', by rw [HLk.out]; simp, HO.out, HX.out⟩
      · go_wp2_with (at_builtin; refine wpList_app rfl _ _ rfl w.heap.size none 0 [] 0 rfl rfl (Own.nil _ _) _ _ (wd n) _ HLk.out rfl HRd.out (by omega) (Nat.le_refl _) ?_; intro A' c' w1 hO hg)
        have HO := Lib.hid hO
        have HX : Hid (Ext w w1) := (Ext.refl w).grownNone hg
        clear hO hg
        go_wp2_with fail
        go_ret
        exact ⟨A', c', by rw [HLk.out]; simp, HO.out, HX.out⟩

set_option maxHeartbeats 400000 in
theorem gword_any (A : Option Addr) (xs : List Int) (c l k : Nat) (w : World) (h : Rd w A c xs) (hl : xs.length = l) :
    Calls Tryz.prog 282 #[.slice A l c, .int .i64 k] w fun e w' => e = .returned (.int .u32 (nth xs k)) ∧ w = w' := by
  subst hl
  have hlim := h.lim
  by_cases hk : k < xs.length
  · obtain ⟨a, rfl, hcell⟩ := h.at_ k hk
    clear h
    go_enter Tryz.func282, Tryz.ntmps282
    go_wp2
    go_ret
    exact ⟨rfl, rfl⟩
  · have HE := Lib.hid (nth_out xs k (by omega))
    clear h
    go_enter Tryz.func282, Tryz.ntmps282
    go_wp2
    go_ret
    exact ⟨by rw [HE.out]; rfl, rfl⟩

end Go.Proofs.YtifonmdcicegdaaGreat

/- The reference's Compare, Of, Times. -/
namespace Go.Proofs.YtifonmdcicegdaaGreat
open Go Go.RowKit

set_option maxHeartbeats 1000000 in
theorem gcompare_any (A B : Option Addr) (xs ys : List Int) (c d la lb m n : Nat) (w : World) (ha : Rd w A c xs) (hb : Rd w B d ys) (hla : xs.length = la) (hlb : ys.length = lb) (hx : Wf xs) (hy : Wf ys) (hm : val xs = m) (hn : val ys = n) :
    Calls Tryz.prog 264 #[.slice A la c, .slice B lb d] w fun e w' => e = .returned (.int .i64 (cmp m n)) ∧ w = w' := by
  have l1 := ha.lim
  have l2 := hb.lim
  have H1 := fun k => Lib.hid (gword_any A xs c la k w ha hla)
  have H2 := fun k => Lib.hid (gword_any B ys d lb k w hb hlb)
  have HH1 := Lib.hid H1
  have HH2 := Lib.hid H2
  rw [hla] at l1
  rw [hlb] at l2
  obtain ⟨N, hN⟩ : ∃ N, N = max la lb := ⟨_, rfl⟩
  have hNb : la ≤ N ∧ lb ≤ N ∧ N ≤ 9223372036854775807 := by omega
  have HM := Lib.hid (show V xs N = m by rw [V_out _ _ (by omega), hm])
  have HN := Lib.hid (show V ys N = n by rw [V_out _ _ (by omega), hn])
  have HX := Lib.hid hx
  have HY := Lib.hid hy
  have hmax : Max.max (la : Int) (lb : Int) = (N : Int) := by omega
  clear H1 H2 ha hb hla hlb hx hy hm hn hN
  go_enter Tryz.func264, Tryz.ntmps264
  go_wp2_with fail
  go_loop [6] (fun i => ∃ k : Nat, k ≤ N ∧ Hid (V xs k + V ys N = V ys k + V xs N) ∧ i = .int .i64 ((k : Int) - 1)) (fun i => (intOf i + 1).toNat)
  case atStart => exact ⟨N, by omega, by show _ = _; omega, rfl⟩
  case round =>
    obtain ⟨k, hk, hv, rfl⟩ := hrel
    cases k with
    | zero =>
      have HE := Lib.hid (show cmp m n = 0 by
        apply cmp_eq
        have h1 := HM.out
        have h2 := HN.out
        have h3 := hv.out
        rw [V_zero, V_zero] at h3
        omega)
      go_wp2_with fail
      go_ret
      exact ⟨by rw [HE.out]; rfl, rfl⟩
    | succ k =>
      have e1 : (((k + 1 : Nat) : Int) - 1) = (k : Int) := by omega
      rw [e1]
      clear e1
      go_wp2_with fail
      refine (HH1.out k).out.mono ?_; rintro e w' ⟨rfl, rfl⟩
      go_wp2_with fail
      refine (HH2.out k).out.mono ?_; rintro e w' ⟨rfl, rfl⟩
      by_cases h1 : nth xs k < nth ys k
      · have HE := Lib.hid (show cmp m n = -1 by
          apply cmp_lt
          have h2 := V_below HX.out HY.out k h1
          have h3 := hv.out
          have h4 := HM.out
          have h5 := HN.out
          omega)
        go_wp2_with fail
        go_ret
        exact ⟨by rw [HE.out]; rfl, rfl⟩
      · by_cases h2 : nth ys k < nth xs k
        · have HE := Lib.hid (show cmp m n = 1 by
            apply cmp_gt
            have h2 := V_below HY.out HX.out k h2
            have h3 := hv.out
            have h4 := HM.out
            have h5 := HN.out
            omega)
          go_wp2_with fail
          go_ret
          exact ⟨by rw [HE.out]; rfl, rfl⟩
        · have HV := Lib.hid (show V xs k + V ys N = V ys k + V xs N by
            have h3 := hv.out
            rw [V_succ, V_succ, show nth xs k = nth ys k by omega] at h3
            omega)
          go_wp2_with fail
          go_round
          case rel => exact ⟨k, by omega, HV.out, by go_num⟩
          case measure => simp [intOf]

set_option maxHeartbeats 400000 in
theorem gof_any (x : Nat) (w : World) (hx : x < 18446744073709551616) :
    Calls Tryz.prog 277 #[.int .u64 x] w fun e w' => ∃ A' c', e = .returned (.slice A' (wd x).length c') ∧ Own w' w.heap.size A' c' (wd x) ∧ Ext w w' := by
  have ho := Own.lit w #[.int .u32 ((x : Int) % 4294967296), .int .u32 ((x : Int) / 4294967296)] [(x : Int) % 4294967296, (x : Int) / 4294967296] rfl (by simp)
  have HT := Lib.hid (gtrim_any _ _ _ 2 x _ ho.rd rfl (wf_of x hx) (of_words x) (by omega))
  have h1 : (x : Int) ≤ 18446744073709551615 := by omega
  clear ho
  go_enter Tryz.func277, Tryz.ntmps277
  go_wp2_with fail
  refine HT.out.mono ?_; rintro e w1 ⟨A1, c1, rfl, h1, hx1⟩
  have H1 := Lib.hid (h1.lower (show w.heap.size ≤ (w.alloc _).heap.size by simp))
  have HX1 := Lib.hid (((Ext.refl w).alloc _).trans hx1)
  clear h1 hx1
  go_wp2_with fail
  go_ret
  exact ⟨_, _, rfl, H1.out, HX1.out⟩

set_option maxHeartbeats 2000000 in
theorem gtimes_any (A B : Option Addr) (m n : Nat) (c d : Nat) (w : World) (ha : Rd w A c (wd m)) (hb : Rd w B d (wd n)) (ls : (wd m).length + (wd n).length ≤ 16384) :
    Calls Tryz.prog 266 #[.slice A (wd m).length c, .slice B (wd n).length d] w fun e w' => ∃ A' c', e = .returned (.slice A' (wd (m * n)).length c') ∧ Own w' w.heap.size A' c' (wd (m * n)) ∧ Ext w w' := by
  have HA := Lib.hid ha
  have HB := Lib.hid hb
  clear ha hb
  go_enter Tryz.func266, Tryz.ntmps266
  go_wp2_with (at_make; refine wpList_mk rfl _ _ rfl ((wd m).length + (wd n).length) _ _ rfl rfl (by omega) (by omega) (by omega) ?_; intro w1 hO hG)
  have HO := Lib.hid hO
  have HG := Lib.hid hG
  clear hO hG
  go_wp2_with fail
  go_loopw [6] (fun i wr => ∃ (k : Nat) (us : List Int), k ≤ (wd m).length ∧ Hid (us.length = (wd m).length + (wd n).length) ∧ Hid (Wf us) ∧ Hid (V us ((wd m).length + (wd n).length) = V (wd m) k * val (wd n)) ∧ Hid (∀ j, k + (wd n).length ≤ j → nth us j = 0) ∧ i = .int .i64 k ∧ Hid (Own wr w.heap.size (some ⟨w.heap.size, 0, none⟩) ((wd m).length + (wd n).length) us) ∧ Hid (Ext w wr)) (fun i _ => (wd m).length - (intOf i).toNat)
  case atStart => exact ⟨0, _, by omega, List.length_replicate, wf_zeros _, by show _ = _; rw [V_zeros, V_zero, Int.zero_mul], fun j _ => nth_zeros _ _, rfl, HO, HG⟩
  case round =>
    clear HO HG
    obtain ⟨i, us0, hi, HUL0, HW0, HV0, HZ0, rfl, HO0, HX0⟩ := hrel
    obtain ⟨wo, rfl⟩ : ∃ wo, wo = wr := ⟨_, rfl⟩
    by_cases him : i < (wd m).length
    · have bx := nth_wf (wf_wd m) i
      obtain ⟨a, rfl, hca⟩ := HA.out.at_ i him
      have HCA := Lib.hid hca
      have HVs := Lib.hid (V_succ (wd m) i)
      obtain ⟨x, hx⟩ : ∃ x, x = nth (wd m) i := ⟨_, rfl⟩
      rw [← hx] at HCA bx HVs
      clear hx hca
      go_wp2_with fail
      go_loopw [7, 8] (fun cy kk wr => ∃ (k : Nat) (us : List Int) (t : Int), k ≤ (wd n).length ∧ Hid (us.length = (wd m).length + (wd n).length) ∧ Hid (Wf us) ∧ 0 ≤ t ∧ t ≤ 4294967295 ∧ Hid (V us ((wd m).length + (wd n).length) + t * pw (i + k) = V (wd m) i * val (wd n) + x * V (wd n) k * pw i) ∧ Hid (∀ j, i + (wd n).length ≤ j → nth us j = 0) ∧ cy = .int .u64 t ∧ kk = .int .i64 k ∧ Hid (Own wr w.heap.size (some ⟨w.heap.size, 0, none⟩) ((wd m).length + (wd n).length) us) ∧ Hid (Ext w wr)) (fun _ kk _ => (wd n).length - (intOf kk).toNat)
      case atStart => exact ⟨0, us0, 0, by omega, HUL0.out, HW0.out, by omega, by omega, by show _ = _; rw [HV0.out, V_zero]; simp, HZ0.out, rfl, rfl, HO0, HX0⟩
      case round =>
        clear HO0 HX0
        obtain ⟨k, us, t, hk, HUL, HW, ht0, ht1, HV, HZ, rfl, rfl, HO, HX⟩ := hrel
        by_cases hkn : k < (wd n).length
        · obtain ⟨b, rfl, hcb⟩ := (HB.out.ext HX.out).at_ k hkn
          have hca := HX.out.cell HCA.out
          obtain ⟨ik, hik⟩ : ∃ ik, ik = i + k := ⟨_, rfl⟩
          have hw : IntKind.i64.wrap ((i : Int) + (k : Int)) = (ik : Int) := by rw [IntWalk.i64_in _ (by omega)]; omega
          have hco := HO.out.cell ik (by have := HUL.out; omega)
          have hfo := HO.out.free ik
          have by_ := nth_wf (wf_wd n) k
          have bz := nth_wf HW.out ik
          have pxy := prod_bd bx by_
          have HR := Lib.hid (mul_round us (wd n) i k _ t x _ (by have := HUL.out; omega) (by omega) HV.out)
          rw [← hik] at HR
          have hikb : (ik : Int) < ((wd m).length : Int) + ((wd n).length : Int) := by omega
          have HIK := Lib.hid hik
          obtain ⟨y, hy⟩ : ∃ y, y = nth (wd n) k := ⟨_, rfl⟩
          obtain ⟨z, hz⟩ : ∃ z, z = nth us ik := ⟨_, rfl⟩
          rw [← hy] at hcb by_ pxy HR
          rw [← hz] at hco bz HR
          have s1 : IntKind.u64.wrap (x * y) = x * y := IntWalk.u64_in _ (by omega)
          have s2 : IntKind.u64.wrap (x * y + z) = x * y + z := IntWalk.u64_in _ (by omega)
          obtain ⟨T, hT⟩ : ∃ T, T = t + (x * y + z) := ⟨_, rfl⟩
          have s3 : IntKind.u64.wrap (x * y + z + t) = T := by rw [IntWalk.u64_in _ (by omega)]; omega
          have tb : 0 ≤ T ∧ T ≤ 18446744073709551615 := by omega
          rw [← hT] at HR
          clear hy hz pxy hik hT
          go_wp2_with fail
          go_quiet (fail)
          go_wp2_with fail
          go_roundw
          case rel =>
            exact ⟨k + 1, _, _, by omega, by unfold Hid; rw [List.length_set]; exact HUL.out, wf_set HW.out _ _ (by omega) (by omega), by omega, by omega, HR.out, fun j hj => by rw [nth_set_ne _ _ _ _ (by have := HIK.out; omega)]; exact HZ.out j hj, rfl, by go_num, (HO.out.drewN _).set ik _ |>.1, (HX.out.drewN _).setCell (Nat.le_refl _) _⟩
          case measure => simp [intOf]; omega
        · have hkl : k = (wd n).length := by omega
          subst hkl
          have hco := HO.out.cell (i + (wd n).length) (by have := HUL.out; omega)
          rw [HZ.out _ (Nat.le_refl _)] at hco
          have hfo := HO.out.free (i + (wd n).length)
          have HE := Lib.hid (mul_out us (wd n) i ((wd m).length + (wd n).length) t x _ (by have := HUL.out; omega) (by omega) (HZ.out _ (Nat.le_refl _)) HV.out)
          go_wp2_with fail
          go_roundw
          case rel =>
            exact ⟨i + 1, _, by omega, by unfold Hid; rw [List.length_set]; exact HUL.out, wf_set HW.out _ t ht0 (by omega), by unfold Hid; rw [HVs.out]; exact HE.out, fun j hj => by rw [nth_set_ne _ _ _ _ (by omega)]; exact HZ.out j (by omega), by go_num, (HO.out.set (i + (wd n).length) _).1, HX.out.setCell (Nat.le_refl _) _⟩
          case measure => simp [intOf]; omega
    · have hil : i = (wd m).length := by omega
      subst hil
      have HE := Lib.hid (show val us0 = ((m * n : Nat) : Int) by
        have e := HV0.out
        rw [show V (wd m) (wd m).length = val (wd m) from rfl, val_wd, val_wd] at e
        unfold val
        rw [HUL0.out, e, Int.natCast_mul])
      go_wp2_with fail
      refine (gtrim_any _ us0 _ _ _ _ HO0.out.rd HUL0.out HW0.out HE.out (by omega)).mono ?_; rintro e w2 ⟨A2, c2, rfl, h2, hx2⟩
      have H2 := Lib.hid (h2.lower HX0.out.size)
      have HX2 := Lib.hid (HX0.out.trans hx2)
      clear h2 hx2
      go_wp2_with fail
      go_ret
      exact ⟨_, _, rfl, H2.out, HX2.out⟩

end Go.Proofs.YtifonmdcicegdaaGreat

/- The reference's Less, small, Bits. -/
namespace Go.Proofs.YtifonmdcicegdaaGreat
open Go Go.RowKit

theorem gword_q (A : Option Addr) (xs : List Int) (c l k : Nat) (w : World) (h : Rd w A c xs) (hl : xs.length = l) :
    Calls Tryz.prog 282 #[.slice A l c, .int .i64 k] w fun e w' => e = .returned (.int .u32 (nth xs k)) ∧ w' = w :=
  (gword_any A xs c l k w h hl).mono fun _ _ ⟨h1, h2⟩ => ⟨h1, h2.symm⟩

set_option maxHeartbeats 1000000 in
theorem gless_any (A B : Option Addr) (xs : List Int) (n : Nat) (c d l m : Nat) (w : World) (ha : Rd w A c xs) (hb : Rd w B d (wd n)) (hl : xs.length = l) (hx : Wf xs) (hm : val xs = m) (hnm : n ≤ m) (lm : l ≤ 16384) :
    Calls Tryz.prog 285 #[.slice A l c, .slice B (wd n).length d] w fun e w' => ∃ A' c', e = .returned (.slice A' (wd (m - n)).length c') ∧ Own w' w.heap.size A' c' (wd (m - n)) ∧ Ext w w' := by
  subst hl
  have hnl : (wd n).length ≤ xs.length := wd_len_le n _ (by have := V_lt hx xs.length; unfold val at hm; omega)
  have HA := Lib.hid ha
  have HB := Lib.hid hb
  have HW := Lib.hid hx
  have HM := Lib.hid hm
  clear ha hb hx hm
  go_enter Tryz.func285, Tryz.ntmps285
  go_wp2_with (at_make; refine wpList_mk rfl _ _ rfl xs.length _ _ rfl rfl (by omega) (by omega) (by omega) ?_; intro w1 hO hG)
  have HO := Lib.hid hO
  have HG := Lib.hid hG
  clear hO hG
  go_wp2_with fail
  go_loopw [6, 7] (fun bo i wr => ∃ (k : Nat) (us : List Int) (b : Int), k ≤ xs.length ∧ Hid (us.length = xs.length) ∧ Hid (Wf us) ∧ 0 ≤ b ∧ b ≤ 1 ∧ Hid (V us k + V (wd n) k = V xs k + b * pw k) ∧ bo = .int .u64 b ∧ i = .int .i64 k ∧ Hid (Own wr w.heap.size (some ⟨w.heap.size, 0, none⟩) xs.length us) ∧ Hid (Ext w wr)) (fun _ i _ => xs.length - (intOf i).toNat)
  case atStart => exact ⟨0, _, 0, by omega, List.length_replicate, wf_zeros _, by omega, by omega, by show _ = _; simp [V_zero], rfl, rfl, HO, HG⟩
  case round =>
    clear HO HG
    obtain ⟨k, us, b, hk, HUL, HU, hb0, hb1, HV, rfl, rfl, HO, HX⟩ := hrel
    by_cases hkm : k < xs.length
    · obtain ⟨a, rfl, hca⟩ := (HA.out.ext HX.out).at_ k hkm
      have hco := HO.out.cell k (by have := HUL.out; omega)
      have hfo := HO.out.free k
      have bx := nth_wf HW.out k
      have by_ := nth_wf (wf_wd n) k
      have HWD := fun q => Lib.hid (gword_q B (wd n) d _ k (wr.drewN q) ((HB.out.ext HX.out).ext ((Ext.refl wr).drewN q)) rfl)
      have HV2 := sub_round us xs (wd n) k b (by have := HUL.out; omega) bx by_ ⟨hb0, hb1⟩ HV.out
      obtain ⟨x, hx⟩ : ∃ x, x = nth xs k := ⟨_, rfl⟩
      obtain ⟨y, hy⟩ : ∃ y, y = nth (wd n) k := ⟨_, rfl⟩
      rw [← hx] at hca bx HV2
      rw [← hy] at by_ HV2 HWD
      have HWW := Lib.hid HWD
      clear hx hy HWD
      have s1 : IntKind.u64.wrap (y + b) = y + b := IntWalk.u64_in _ (by omega)
      by_cases hlt : x < y + b
      · have HV3 := Lib.hid (show V (us.set k (x + 4294967296 - (y + b))) (k + 1) + V (wd n) (k + 1) = V xs (k + 1) + 1 * pw (k + 1) by
          rw [show (x - b - y) % 4294967296 = x + 4294967296 - (y + b) by omega, show owed (x - b - y) = 1 by unfold owed; rw [if_pos (by omega)]] at HV2
          exact HV2)
        clear HV2
        go_wp2_with fail
        go_quiet ((go_at_call 282; exact Calls.quiet_of_same (HWW.out _).out))
        go_wp2_with fail
        go_roundw
        case rel =>
          exact ⟨k + 1, _, _, by omega, by unfold Hid; rw [List.length_set]; exact HUL.out, wf_set HU.out _ _ (by omega) (by omega), by omega, by omega, HV3.out, rfl, by go_num, ((HO.out.drewN _).set k _).1, (HX.out.drewN _).setCell (Nat.le_refl _) _⟩
        case measure => simp [intOf]; omega
      · have HV3 := Lib.hid (show V (us.set k (x - (y + b))) (k + 1) + V (wd n) (k + 1) = V xs (k + 1) + 0 * pw (k + 1) by
          rw [show (x - b - y) % 4294967296 = x - (y + b) by omega, show owed (x - b - y) = 0 by unfold owed; rw [if_neg (by omega)]] at HV2
          exact HV2)
        clear HV2
        go_wp2_with fail
        go_quiet ((go_at_call 282; exact Calls.quiet_of_same (HWW.out _).out))
        go_wp2_with fail
        go_roundw
        case rel =>
          exact ⟨k + 1, _, _, by omega, by unfold Hid; rw [List.length_set]; exact HUL.out, wf_set HU.out _ _ (by omega) (by omega), by omega, by omega, HV3.out, rfl, by go_num, ((HO.out.drewN _).set k _).1, (HX.out.drewN _).setCell (Nat.le_refl _) _⟩
        case measure => simp [intOf]; omega
    · have hkl : k = xs.length := by omega
      subst hkl
      have HE := Lib.hid (show val us = ((m - n : Nat) : Int) by
        have h1 := HV.out
        rw [V_out (wd n) _ hnl, val_wd] at h1
        have h2 := HM.out
        have h3 := V_lt HU.out xs.length
        have h4 := V_nonneg HU.out xs.length
        have h5 := pw_pos xs.length
        unfold val at h2 ⊢
        rw [HUL.out]
        have hb : b = 0 ∨ b = 1 := by omega
        rcases hb with rfl | rfl <;> omega)
      go_wp2_with fail
      refine (gtrim_any _ us _ _ _ _ HO.out.rd HUL.out HU.out HE.out (by omega)).mono ?_; rintro e w2 ⟨A2, c2, rfl, h2, hx2⟩
      have H2 := Lib.hid (h2.lower HX.out.size)
      have HX2 := Lib.hid (HX.out.trans hx2)
      clear h2 hx2
      go_wp2_with fail
      go_ret
      exact ⟨_, _, rfl, H2.out, HX2.out⟩

set_option maxHeartbeats 1000000 in
theorem gsmall_any (A : Option Addr) (m : Nat) (D : Nat) (c : Nat) (w : World) (ha : Rd w A c (wd m)) (hd0 : 0 < D) (hd1 : D < 4294967296) (lm : (wd m).length ≤ 16384) (Q R : Nat) (hQ : m / D = Q) (hR : m % D = R) :
    Calls Tryz.prog 276 #[.slice A (wd m).length c, .int .u32 D] w fun e w' => ∃ A' c', e = .returned (.tuple #[.slice A' (wd Q).length c', .int .u32 R]) ∧ Own w' w.heap.size A' c' (wd Q) ∧ Ext w w' := by
  have HA := Lib.hid ha
  have HQQ := Lib.hid hQ
  have HRR := Lib.hid hR
  have hRd : R < D := hR ▸ Nat.mod_lt m hd0
  clear ha hQ hR
  go_enter Tryz.func276, Tryz.ntmps276
  go_wp2_with (at_make; refine wpList_mk rfl _ _ rfl (wd m).length _ _ rfl rfl (by omega) (by omega) (by omega) ?_; intro w1 hO hG)
  have HO := Lib.hid hO
  have HG := Lib.hid hG
  clear hO hG
  go_wp2_with fail
  go_loopw [7, 8] (fun ro i wr => ∃ (k : Nat) (us : List Int) (r : Int), k ≤ (wd m).length ∧ Hid (us.length = (wd m).length) ∧ Hid (Wf us) ∧ 0 ≤ r ∧ r < D ∧ Hid ((V us (wd m).length - V us k) * D + r * pw k + V (wd m) k = m) ∧ ro = .int .u64 r ∧ i = .int .i64 ((k : Int) - 1) ∧ Hid (Own wr w.heap.size (some ⟨w.heap.size, 0, none⟩) (wd m).length us) ∧ Hid (Ext w wr)) (fun _ i _ => (intOf i + 1).toNat)
  case atStart => exact ⟨(wd m).length, _, 0, by omega, List.length_replicate, wf_zeros _, by omega, by omega, by show _ = _; have := val_wd m; unfold val at this; rw [Int.sub_self, Int.zero_mul, Int.zero_mul]; omega, rfl, rfl, HO, HG⟩
  case round =>
    clear HO HG
    obtain ⟨k, us, r, hk, HUL, HU, hr0, hr1, HV, rfl, rfl, HO, HX⟩ := hrel
    cases k with
    | zero =>
      have he := small_end us m D _ r HUL.out HU.out hr0 hr1 HV.out
      rw [HQQ.out, HRR.out] at he
      have HE := Lib.hid he.1
      have HM := Lib.hid he.2
      clear he
      go_wp2_with fail
      refine (gtrim_any _ us _ _ _ _ HO.out.rd HUL.out HU.out HE.out (by omega)).mono ?_; rintro e w2 ⟨A2, c2, rfl, h2, hx2⟩
      have H2 := Lib.hid (h2.lower HX.out.size)
      have HX2 := Lib.hid (HX.out.trans hx2)
      clear h2 hx2
      go_wp2_with fail
      go_ret2
      exact ⟨_, _, by rw [HM.out]; rfl, H2.out, HX2.out⟩
    | succ k =>
      have e1 : (((k + 1 : Nat) : Int) - 1) = (k : Int) := by omega
      rw [e1]
      clear e1
      obtain ⟨a, rfl, hca⟩ := (HA.out.ext HX.out).at_ k (by omega)
      have hco := HO.out.cell k (by have := HUL.out; omega)
      have hfo := HO.out.free k
      have bx := nth_wf (wf_wd m) k
      obtain ⟨x, hx⟩ : ∃ x, x = nth (wd m) k := ⟨_, rfl⟩
      rw [← hx] at hca bx
      have Hx := Lib.hid hx
      clear hx
      have hq := quo_lt r x D hr0 hr1 bx
      have HV2 := Lib.hid (small_round us (wd m) k (wd m).length r D m (by have := HUL.out; omega) (by omega) HV.out)
      rw [← Hx.out] at HV2
      have hm0 := Int.emod_nonneg (r * 4294967296 + x) (show (D : Int) ≠ 0 by omega)
      have hm1 := Int.emod_lt_of_pos (r * 4294967296 + x) (show (0 : Int) < D by omega)
      have hdz : ((D : Int) == 0) = false := beq_eq_false_iff_ne.2 (by omega)
      go_wp2_with fail
      go_roundw
      case rel =>
        exact ⟨k, _, _, by omega, by unfold Hid; rw [List.length_set]; exact HUL.out, wf_set HU.out _ _ hq.1 hq.2, hm0, hm1, HV2.out, rfl, rfl, (HO.out.set k _).1, HX.out.setCell (Nat.le_refl _) _⟩
      case measure => simp [intOf]

set_option maxHeartbeats 1000000 in
theorem gbits_any (B : Option Addr) (n t K : Nat) (d : Nat) (w : World) (hb : Rd w B d (wd n)) (hK : (wd n).length = K + 1) (ht : nth (wd n) K = t) (lm : (wd n).length ≤ 16384) :
    Calls Tryz.prog 278 #[.slice B (wd n).length d] w fun e w' => ∃ j : Nat, 0 < j ∧ j ≤ 32 ∧ 2 ^ (j - 1) ≤ t ∧ t < 2 ^ j ∧ e = .returned (.int .i64 ((32 * K + j : Nat) : Int)) ∧ Ext w w' := by
  have hn0 : n ≠ 0 := fun e => by have := wd_len_zero.2 e; omega
  have hl := wd_last n hn0
  rw [show (wd n).length - 1 = K by omega, ht] at hl
  have bt := nth_wf (wf_wd n) K
  rw [ht] at bt
  have ht0 : 0 < t := by omega
  have ht1 : t < 4294967296 := by omega
  have hbe : (((wd n).length : Int) == 0) = false := beq_eq_false_iff_ne.2 (by omega)
  have hi : (((wd n).length : Int) - 1).toNat = K := by omega
  have hKI : ((wd n).length : Int) - 1 = K := by omega
  have HB := Lib.hid hb
  have HT := Lib.hid ht
  have HK := Lib.hid hK
  have HKI := Lib.hid hKI
  clear hb hl ht hK hKI
  go_enter Tryz.func278, Tryz.ntmps278
  go_wp2_with fail
  refine (gtrim_any _ _ _ _ n _ HB.out rfl (wf_wd n) (val_wd n) (by omega)).mono ?_; rintro e w1 ⟨A1, c1, rfl, h1, hx1⟩
  have H1 := Lib.hid h1
  have HX1 := Lib.hid hx1
  obtain ⟨a1, rfl, hc1⟩ := h1.rd.at_ K (by have := HK.out; omega)
  rw [HT.out] at hc1
  have hKl : (K : Int) < (wd n).length := by have := HK.out; omega
  clear h1 hx1
  go_wp2_with fail
  go_loop [4, 5] (fun nn x => ∃ j y : Nat, j ≤ 32 ∧ y < 4294967296 ∧ Hid (y = t / 2 ^ j) ∧ Hid (j = 0 ∨ 2 ^ (j - 1) ≤ t) ∧ nn = .int .i64 ((32 * K + j : Nat) : Int) ∧ x = .int .u32 y) (fun _ x => (intOf x).toNat)
  case atStart => exact ⟨0, t, by omega, ht1, by show _ = _; rw [Nat.pow_zero, Nat.div_one], .inl rfl, by rw [HKI.out]; go_num, rfl⟩
  case round =>
    obtain ⟨j, y, hj, hy, HY, HJ, rfl, rfl⟩ := hrel
    by_cases h0 : 0 < y
    · have hjt : 2 ^ j ≤ t := by
        have h1 := HY.out
        rcases Nat.lt_or_ge t (2 ^ j) with h | h
        · rw [Nat.div_eq_of_lt h] at h1; omega
        · exact h
      have hj2 : j < 32 := by
        rcases Nat.lt_or_ge j 32 with h | h
        · exact h
        · have : 2 ^ 32 ≤ 2 ^ j := Nat.pow_le_pow_right (by omega) h
          omega
      have HY2 := Lib.hid (show y / 2 = t / 2 ^ (j + 1) by rw [HY.out, Nat.div_div_eq_div_mul, Nat.pow_succ])
      have HJT := Lib.hid hjt
      have HC := Lib.hid (show ((32 * K + (j + 1) : Nat) : Int) = 32 * (K : Int) + j + 1 by omega)
      clear hjt
      go_wp2_with fail
      go_round
      case rel => exact ⟨j + 1, y / 2, by omega, by omega, HY2.out, .inr HJT.out, by rw [HC.out], by rw [Int.natCast_ediv]; rfl⟩
      case measure => simp [intOf]; omega
    · have hy0 : y = 0 := by omega
      have HLt := Lib.hid (show t < 2 ^ j by
        have h1 := HY.out
        rw [hy0] at h1
        rcases Nat.lt_or_ge t (2 ^ j) with h | h
        · exact h
        · have := Nat.div_pos h (Nat.pow_pos (n := j) (show 0 < 2 by omega)); omega)
      clear hy0
      go_wp2_with fail
      go_ret
      refine ⟨j, ?_, hj, ?_, HLt.out, rfl, HX1.out⟩
      · rcases Nat.eq_zero_or_pos j with h | h
        · have := HLt.out; rw [h] at this; omega
        · exact h
      · rcases HJ.out with h | h
        · have := HLt.out; rw [h] at this; omega
        · exact h

end Go.Proofs.YtifonmdcicegdaaGreat

/- The reference's Up, Down. -/
namespace Go.Proofs.YtifonmdcicegdaaGreat
open Go Go.RowKit

set_option maxHeartbeats 1000000 in
theorem gup_any (A : Option Addr) (m n : Nat) (c : Nat) (w : World) (ha : Rd w A c (wd m)) (hm : 0 < (wd m).length) (hn : n ≤ 31) (lm : (wd m).length ≤ 8193) :
    Calls Tryz.prog 279 #[.slice A (wd m).length c, .int .i64 n] w fun e w' => ∃ A' c', e = .returned (.slice A' (wd (m * 2 ^ n)).length c') ∧ Own w' w.heap.size A' c' (wd (m * 2 ^ n)) ∧ Ext w w' := by
  have HA := Lib.hid ha
  have HW := Lib.hid (wf_wd m)
  have hn0 : (0 : Int) ≤ n := by omega
  have hn1 : (n : Int) ≤ 31 := by omega
  have hd1 : (n : Int) / 32 = 0 := by omega
  have hd3 : (n : Int) % 32 = n := by omega
  have hbe : (((wd m).length : Int) == 0) = false := beq_eq_false_iff_ne.2 (by omega)
  obtain ⟨xs, hxs⟩ : ∃ xs, xs = wd m := ⟨_, rfl⟩
  have HXS := Lib.hid hxs
  rw [← hxs] at HA HW lm hm hbe ⊢
  clear ha hxs
  go_enter Tryz.func279, Tryz.ntmps279
  go_wp2_with (at_make; refine wpList_mk rfl _ _ rfl (xs.length + 1) _ _ rfl rfl (by omega) (by omega) (by omega) ?_; intro w1 hO hG)
  have HO := Lib.hid hO
  have HG := Lib.hid hG
  clear hO hG
  go_wp2_with fail
  go_loopw [6] (fun i wr => ∃ (k : Nat) (us : List Int), k ≤ xs.length ∧ Hid (us.length = xs.length + 1) ∧ Hid (Wf us) ∧ Hid (V us (k + 1) = V xs k * 2 ^ n) ∧ Hid (nth us k < 2 ^ n) ∧ Hid (∀ j, k + 1 ≤ j → nth us j = 0) ∧ i = .int .i64 k ∧ Hid (Own wr w.heap.size (some ⟨w.heap.size, 0, none⟩) (xs.length + 1) us) ∧ Hid (Ext w wr)) (fun i _ => xs.length - (intOf i).toNat)
  case atStart => exact ⟨0, _, by omega, List.length_replicate, wf_zeros _, by show _ = _; rw [V_zeros, V_zero, Int.zero_mul], by show _ < _; rw [nth_zeros]; exact Int.pow_pos (by omega), fun j _ => nth_zeros _ _, rfl, HO, HG⟩
  case round =>
    clear HO HG
    obtain ⟨k, us, hk, HUL, HU, HV, HT, HZ, rfl, HO, HX⟩ := hrel
    by_cases hkm : k < xs.length
    · obtain ⟨a, rfl, hca⟩ := (HA.out.ext HX.out).at_ k hkm
      have hco := HO.out.cell k (by have := HUL.out; omega)
      have hfo := HO.out.free k
      have hco1 := HO.out.cell (k + 1) (by have := HUL.out; omega)
      rw [HZ.out _ (Nat.le_refl _)] at hco1
      have hfo1 := HO.out.free (k + 1)
      have bx := nth_wf HW.out k
      have bz := nth_wf HU.out k
      obtain ⟨x, hx⟩ : ∃ x, x = nth xs k := ⟨_, rfl⟩
      obtain ⟨z, hz⟩ : ∃ z, z = nth us k := ⟨_, rfl⟩
      rw [← hx] at hca bx
      rw [← hz] at hco bz
      obtain ⟨_, hq2, hp1, hp2, hp3⟩ := up_word x z n hn bx bz.1 (by rw [hz]; exact HT.out)
      have hww : IntKind.u64.wrap (x * 2 ^ n) = x * 2 ^ n := by
        have hp := two_pow_le n hn
        have h1 : x * 2 ^ n < 4294967296 * 2 ^ n := Int.mul_lt_mul_of_pos_right bx.2 (by omega)
        exact IntWalk.u64_in _ ⟨Int.mul_nonneg bx.1 (by omega), by omega⟩
      obtain ⟨lo, hlo⟩ : ∃ lo, lo = x * 2 ^ n % 4294967296 := ⟨_, rfl⟩
      obtain ⟨hi, hhi⟩ : ∃ hi, hi = x * 2 ^ n / 4294967296 := ⟨_, rfl⟩
      have hlb : 0 ≤ lo ∧ lo < 4294967296 := by omega
      rw [hww] at hq2
      rw [← hhi] at hp1 hp2 hq2
      rw [← hlo] at hp3
      have HR := Lib.hid (up_round us xs n k (by have := HUL.out; omega) HV.out)
      rw [← hx, ← hz, ← hlo, ← hhi] at HR
      have g1 : x * 2 ^ n % 4294967296 = lo := hlo.symm
      have g2 : x * 2 ^ n / 4294967296 = hi := hhi.symm
      have HP2 := Lib.hid hp2
      have hpp := (two_pow_le n hn).2
      have hi2 : hi < 4294967296 := by omega
      clear hx hz hlo hhi hp2 hpp hq2
      go_wp2_with fail
      go_roundw
      case rel =>
        refine ⟨k + 1, (us.set k (z + lo)).set (k + 1) hi, by omega, by unfold Hid; rw [List.length_set, List.length_set]; exact HUL.out, wf_set (wf_set HU.out _ _ (by omega) hp3) _ _ hp1 hi2, HR.out, ?_, fun j hj => ?_, by go_num, ((HO.out.set k _).1.set (k + 1) _).1, (HX.out.setCell (Nat.le_refl _) _).setCell (Nat.le_refl _) _⟩
        · unfold Hid; rw [nth_set_self _ _ _ (by rw [List.length_set]; have := HUL.out; omega)]; exact HP2.out
        · rw [nth_set_ne _ _ _ _ (by omega), nth_set_ne _ _ _ _ (by omega)]; exact HZ.out j (by omega)
      case measure => simp [intOf]; omega
    · have hkl : k = xs.length := by omega
      subst hkl
      have HE := Lib.hid (show val us = ((m * 2 ^ n : Nat) : Int) by
        have h1 := HV.out
        rw [show V xs xs.length = val xs from rfl, HXS.out, val_wd] at h1
        unfold val
        rw [HUL.out, HXS.out, h1, Int.natCast_mul, Int.natCast_pow]
        rfl)
      go_wp2_with fail
      refine (gtrim_any _ us _ _ _ _ HO.out.rd HUL.out HU.out HE.out (by omega)).mono ?_; rintro e w2 ⟨A2, c2, rfl, h2, hx2⟩
      have H2 := Lib.hid (h2.lower HX.out.size)
      have HX2 := Lib.hid (HX.out.trans hx2)
      clear h2 hx2
      go_wp2_with fail
      go_ret
      exact ⟨_, _, rfl, H2.out, HX2.out⟩

set_option maxHeartbeats 1000000 in
theorem gdown_any (A : Option Addr) (m n : Nat) (c : Nat) (w : World) (ha : Rd w A c (wd m)) (hn : n ≤ 31) (lm : (wd m).length ≤ 8193) (Q : Nat) (hQ : m / 2 ^ n = Q) :
    Calls Tryz.prog 281 #[.slice A (wd m).length c, .int .i64 n] w fun e w' => ∃ A' c', e = .returned (.slice A' (wd Q).length c') ∧ Own w' w.heap.size A' c' (wd Q) ∧ Ext w w' := by
  have HA := Lib.hid ha
  have HQ := Lib.hid hQ
  have hcap := ha.cap
  have hcapm := ha.capm
  have hn0 : (0 : Int) ≤ n := by omega
  have hn1 : (n : Int) ≤ 31 := by omega
  have hd1 : (n : Int) / 32 = 0 := by omega
  have hd3 : (n : Int) % 32 = n := by omega
  clear hQ
  by_cases hm : (wd m).length = 0
  · have hz : m = 0 := wd_len_zero.1 hm
    have HE := Lib.hid (show wd Q = [] by rw [← HQ.out, hz, Nat.zero_div, wd_zero])
    clear ha hz
    go_enter Tryz.func281, Tryz.ntmps281
    go_wp2_with fail
    go_ret
    exact ⟨none, 0, by rw [HE.out]; rfl, by rw [HE.out]; exact Own.nil _ _, Ext.refl _⟩
  · have hp : 0 < (wd m).length := by omega
    obtain ⟨a, rfl⟩ := ha.some_ hp
    have hne : ¬ wd m = [] := fun e => by rw [e] at hm; exact hm rfl
    clear ha hm
    go_enter Tryz.func281, Tryz.ntmps281
    go_wp2_with (at_make; refine wpList_mk rfl _ _ rfl (wd m).length _ _ rfl rfl (by omega) (by omega) (by omega) ?_; intro w1 hO hG)
    have HO := Lib.hid hO
    have HG := Lib.hid hG
    clear hO hG
    go_wp2_with fail
    go_loopw [7] (fun i wr => ∃ (k : Nat) (us : List Int), k ≤ (wd m).length ∧ Hid (us.length = (wd m).length) ∧ Hid (Wf us) ∧ Hid (V us k * 2 ^ n = V (wd m) k + nth (wd m) k % 2 ^ n * pw k - nth (wd m) 0 % 2 ^ n) ∧ i = .int .i64 k ∧ Hid (Own wr w.heap.size (some ⟨w.heap.size, 0, none⟩) (wd m).length us) ∧ Hid (Ext w wr)) (fun i _ => (wd m).length - (intOf i).toNat)
    case atStart => exact ⟨0, _, by omega, List.length_replicate, wf_zeros _, by show _ = _; rw [V_zero, V_zero, pw_zero]; omega, rfl, HO, HG⟩
    case round =>
      clear HO HG
      obtain ⟨k, us, hk, HUL, HU, HV, rfl, HO, HX⟩ := hrel
      by_cases hkm : k < (wd m).length
      · have hca := HX.out.cell (HA.out.cell k hkm)
        have hco := HO.out.cell k (by have := HUL.out; omega)
        have hfo := HO.out.free k
        have bx := nth_wf (wf_wd m) k
        have by_ := nth_wf (wf_wd m) (k + 1)
        have HD := Lib.hid (dwn_round us (wd m) n k _ hn (wf_wd m) (by have := HUL.out; omega) HV.out)
        have hb := dwn_bd (nth (wd m) k) (nth (wd m) (k + 1)) n
        obtain ⟨x, hx⟩ : ∃ x, x = nth (wd m) k := ⟨_, rfl⟩
        obtain ⟨y, hy⟩ : ∃ y, y = nth (wd m) (k + 1) := ⟨_, rfl⟩
        have HWD := fun q => Lib.hid (gword_q (some a) (wd m) c _ (k + 1) (wr.drewN q) ((HA.out.ext HX.out).ext ((Ext.refl wr).drewN q)) rfl)
        rw [← hx, ← hy] at HD hb
        rw [← hx] at hca bx
        rw [← hy] at by_ HWD
        have HWW := Lib.hid HWD
        have s1 : IntKind.u64.wrap (y * 4294967296 + x) = y * 4294967296 + x := IntWalk.u64_in _ (by omega)
        have s2 : IntKind.u64.wrap (y * 4294967296) = y * 4294967296 := IntWalk.u64_in _ (by omega)
        have s3 : IntKind.i64.wrap ((k : Int) + 1) = ((k + 1 : Nat) : Int) := by rw [IntWalk.i64_in _ (by omega)]; omega
        have HE := Lib.hid (show (y * 4294967296 + x) / 2 ^ n % 4294967296 = dwn x y n by unfold dwn; rw [Int.add_comm])
        have Hy := Lib.hid hy
        clear hx hy HWD
        go_wp2_with fail
        go_quiet ((go_at_call 282; exact Calls.quiet_of_same (HWW.out _).out))
        go_wp2_with fail
        go_roundw
        case rel =>
          rw [HE.out]
          exact ⟨k + 1, _, by omega, by unfold Hid; rw [List.length_set]; exact HUL.out, wf_set HU.out _ _ hb.1 hb.2, by unfold Hid; rw [← Hy.out]; exact HD.out, by go_num, ((HO.out.drewN _).set k _).1, (HX.out.drewN _).setCell (Nat.le_refl _) _⟩
        case measure => simp [intOf]; omega
      · have hkl : k = (wd m).length := by omega
        subst hkl
        have HE := Lib.hid (dwn_end us m n _ hn rfl HUL.out HV.out)
        rw [HQ.out] at HE
        go_wp2_with fail
        refine (gtrim_any _ us _ _ _ _ HO.out.rd HUL.out HU.out HE.out (by omega)).mono ?_; rintro e w2 ⟨A2, c2, rfl, h2, hx2⟩
        have H2 := Lib.hid (h2.lower HX.out.size)
        have HX2 := Lib.hid (HX.out.trans hx2)
        clear h2 hx2
        go_wp2_with fail
        go_ret
        exact ⟨_, _, rfl, H2.out, HX2.out⟩

end Go.Proofs.YtifonmdcicegdaaGreat

