/- Texts of this claim, joined: G6 G7 G8 G9a G10 G11 G12 G13. -/
import Derived.Test.YtakaehdolpmelaaGreatQp
set_option linter.unusedVariables false
set_option linter.unusedSimpArgs false
set_option maxRecDepth 100000
namespace Go.Proofs.YtakaehdolpmelaaGreat
open Go Go.RowKit
def Pair (w : World) (x y : Nat) (e : Ending) (w' : World) : Prop := ∃ A c B d, e = .returned (.tuple #[.slice A (wd x).length c, .slice B (wd y).length d]) ∧ Own w' w.heap.size A c (wd x) ∧ Own w' w.heap.size B d (wd y) ∧ Ext w w'
set_option maxHeartbeats 1000000 in
theorem gover_less (A B : Option Addr) (m n c d : Nat) (w : World) (ha : Rd w A c (wd m)) (hb : Rd w B d (wd n)) (hlt : m < n) (lm : (wd m).length ≤ 8192) (Q R : Nat) (hQ : m / n = Q) (hR : m % n = R) :
    Calls Tryz.prog 186 #[.slice A (wd m).length c, .slice B (wd n).length d] w (Pair w Q R) := by
  have hd : 0 = Q := by rw [← hQ, Nat.div_eq_of_lt hlt]
  have hr : m = R := by rw [← hR, Nat.mod_eq_of_lt hlt]
  subst hd
  subst hr
  have HA := Lib.hid ha
  have HB := Lib.hid hb
  have hc : cmp m n < 0 := cmp_lt_iff.2 hlt
  clear ha hb hQ hR
  go_enter Tryz.func186, Tryz.ntmps186
  go_wp2_with fail
  refine (gcompare_any _ _ (wd m) (wd n) _ _ _ _ m n _ HA.out HB.out rfl rfl (wf_wd m) (wf_wd n) (val_wd m) (val_wd n)).mono ?_; rintro e w1 ⟨rfl, rfl⟩
  go_wp2_with fail
  refine (gtrim_any _ _ _ _ m _ HA.out rfl (wf_wd m) (val_wd m) (by omega)).mono ?_; rintro e w2 ⟨A2, c2, rfl, hO2, hx2⟩
  have HX2 := Lib.hid hx2
  have HO2 := Lib.hid hO2
  clear hx2 hO2
  go_wp2_with fail
  go_ret2
  exact ⟨none, 0, A2, c2, by rw [show (wd 0).length = 0 by rw [wd_zero]; rfl]; rfl, by rw [wd_zero]; exact Own.nil _ _, HO2.out, HX2.out⟩
set_option maxHeartbeats 1000000 in
theorem gover_one (A B : Option Addr) (m n c d : Nat) (w : World) (ha : Rd w A c (wd m)) (hb : Rd w B d (wd n)) (hge : n ≤ m) (hn : (wd n).length = 1) (lm : (wd m).length ≤ 8192) (Q R : Nat) (hQ : m / n = Q) (hR : m % n = R) :
    Calls Tryz.prog 186 #[.slice A (wd m).length c, .slice B (wd n).length d] w (Pair w Q R) := by
  have HA := Lib.hid ha
  have HB := Lib.hid hb
  have hc : ¬ cmp m n < 0 := fun h => by have := cmp_lt_iff.1 h; omega
  have hn0 : n ≠ 0 := fun e => by have := wd_len_zero.2 e; omega
  have hn1 : n < 4294967296 := by have := nat_lt_of_len n 1 (by omega); rw [show pw 1 = 4294967296 from rfl] at this; omega
  have hword : nth (wd n) 0 = n := by rw [wd_pos n hn0, nth_cons_zero]; omega
  have hl1 : (((wd n).length : Int) == 1) = true := by rw [hn]; rfl
  have hp : 0 < (wd n).length := by omega
  obtain ⟨b, rfl, hcb⟩ := hb.at_ 0 hp
  rw [hword, add0] at hcb
  have hRl : R < 4294967296 := by rw [← hR]; exact Nat.lt_trans (Nat.mod_lt _ (by omega)) hn1
  have HN := Lib.hid hn
  have HQ := Lib.hid hQ
  have HR := Lib.hid hR
  clear ha hb hword hn hQ hR
  go_enter Tryz.func186, Tryz.ntmps186
  go_wp2_with fail
  refine (gcompare_any _ _ (wd m) (wd n) _ _ _ _ m n _ HA.out HB.out rfl rfl (wf_wd m) (wf_wd n) (val_wd m) (val_wd n)).mono ?_; rintro e w1 ⟨rfl, rfl⟩
  go_wp2_with fail
  refine (gsmall_any _ m n _ _ HA.out (by omega) hn1 (by omega) Q R HQ.out HR.out).mono ?_; rintro e w2 ⟨A2, c2, rfl, hO2, hx2⟩
  have HX2 := Lib.hid hx2
  have HO2 := Lib.hid hO2
  clear hx2 hO2
  go_wp2_with fail
  refine (gof_any R _ (by omega)).mono ?_; rintro e w3 ⟨A3, c3, rfl, hO3, hx3⟩
  have HX3 := Lib.hid hx3
  have HO3 := Lib.hid hO3
  clear hx3 hO3
  go_wp2_with fail
  go_ret2
  exact ⟨A2, c2, A3, c3, rfl, HO2.out.ext HX3.out, HO3.out.lower HX2.out.size, HX2.out.trans HX3.out⟩
theorem Own.some_ {w : World} {base : Nat} {A : Option Addr} {c : Nat} {xs : List Int} (h : Own w base A c xs) (hp : 0 < xs.length) : ∃ g, A = some ⟨g, 0, none⟩ ∧ base ≤ g ∧ g < w.heap.size := by
  rcases h.cases with ⟨_, _, rfl⟩ | ⟨g, cur, h1, h2, h3, _⟩
  · exact absurd hp (Nat.lt_irrefl 0)
  · exact ⟨g, h1, h2, (Array.getElem?_eq_some_iff.1 h3).1⟩
theorem val_append0 (xs : List Int) : val (xs ++ [0]) = val xs := by
  unfold val
  rw [List.length_append, List.length_singleton, V_succ]
  have h1 : nth (xs ++ [0]) xs.length = 0 := by simp [nth]
  rw [h1, Int.zero_mul, Int.add_zero]
  exact V_congr _ fun j hj => by simp [nth, List.getElem?_append_left hj]
theorem over_begin (M D P L Lq : Nat) (hP : (wd M).length = P) (hL : 1 ≤ L) (hLP : L ≤ P + 1) (hLq : P + 1 - L = Lq) (ht : 2147483648 * pw (L - 1) ≤ (D : Int)) : (M : Int) < (D : Int) * pw Lq := by
  have h1 := wd_lt_pw M
  rw [hP] at h1
  have h2 : pw P = pw (L - 1) * pw Lq := by rw [← pw_add]; congr 1; omega
  have h3 : pw (L - 1) * pw Lq ≤ (D : Int) * pw Lq := Int.mul_le_mul_of_nonneg_right (by have := pw_pos (L - 1); omega) (Int.le_of_lt (pw_pos _))
  omega
theorem bits_norm (t j : Nat) (h0 : 0 < j) (h1 : j ≤ 32) (h2 : 2 ^ (j - 1) ≤ t) (h3 : t < 2 ^ j) : 2147483648 ≤ t * 2 ^ (32 - j) ∧ t * 2 ^ (32 - j) < 4294967296 := by
  have e1 : 2 ^ (j - 1) * 2 ^ (32 - j) = 2147483648 := by rw [← Nat.pow_add, show j - 1 + (32 - j) = 31 by omega]
  have e2 : 2 ^ j * 2 ^ (32 - j) = 4294967296 := by rw [← Nat.pow_add, show j + (32 - j) = 32 by omega]
  constructor
  · rw [← e1]; exact Nat.mul_le_mul_right _ h2
  · rw [← e2]; exact Nat.mul_lt_mul_of_pos_right h3 (Nat.pow_pos (by omega))
set_option maxHeartbeats 4000000 in
theorem gover_long (A B : Option Addr) (m n c d : Nat) (w : World) (ha : Rd w A c (wd m)) (hb : Rd w B d (wd n)) (hge : n ≤ m) (hn : 2 ≤ (wd n).length) (lm : (wd m).length ≤ 8192) (Q R : Nat) (hQ : m / n = Q) (hR : m % n = R) :
    Calls Tryz.prog 186 #[.slice A (wd m).length c, .slice B (wd n).length d] w (Pair w Q R) := by
  have HA := Lib.hid ha
  have HB := Lib.hid hb
  have hc : ¬ cmp m n < 0 := fun h => by have := cmp_lt_iff.1 h; omega
  have hn0 : n ≠ 0 := fun e => by have := wd_len_zero.2 e; omega
  have hl1 : (((wd n).length : Int) == 1) = false := beq_eq_false_iff_ne.2 (by omega)
  have hlm := wd_len_mono hge
  obtain ⟨K, hK⟩ : ∃ K, (wd n).length = K + 1 := ⟨(wd n).length - 1, by omega⟩
  obtain ⟨t, ht⟩ := Int.eq_ofNat_of_zero_le (nth_wf (wf_wd n) K).1
  have HT := Lib.hid ht
  have HK := Lib.hid hK
  have HQ := Lib.hid hQ
  have HR := Lib.hid hR
  clear ha hb hK ht hQ hR
  go_enter Tryz.func186, Tryz.ntmps186
  go_wp2_with fail
  refine (gcompare_any _ _ (wd m) (wd n) _ _ _ _ m n _ HA.out HB.out rfl rfl (wf_wd m) (wf_wd n) (val_wd m) (val_wd n)).mono ?_; rintro e w1 ⟨rfl, rfl⟩
  go_wp2_with fail
  refine (gbits_any _ n t K _ _ HB.out HK.out HT.out (by omega)).mono ?_; rintro e w2 ⟨j, hj0, hj1, hj2, hj3, rfl, hx2⟩
  have hbn := bits_norm t j hj0 hj1 hj2 hj3
  obtain ⟨s, hs⟩ : ∃ s, s = 32 - j := ⟨_, rfl⟩
  rw [← hs] at hbn
  have hnw := norm_words n s (K + 1) hn0 HK.out (by rw [show K + 1 - 1 = K from rfl, HT.out]; exact hbn.1) (by rw [show K + 1 - 1 = K from rfl, HT.out]; exact hbn.2)
  have hs31 : s ≤ 31 := by omega
  have es : (32 : Int) * ((wd n).length : Int) - ((32 * K + j : Nat) : Int) = (s : Int) := by have := HK.out; omega
  obtain ⟨D, hD⟩ : ∃ D, D = n * 2 ^ s := ⟨_, rfl⟩
  rw [← hD] at hnw
  have HD := Lib.hid hD
  have HNW := Lib.hid hnw
  have HX2 := Lib.hid hx2
  obtain ⟨bb, hbb⟩ : ∃ bb : Nat, bb = 32 * K + j := ⟨_, rfl⟩
  rw [← hbb] at es ⊢
  have hbb1 : bb ≤ 32 * 8192 := by have := HK.out; omega
  clear hnw hD hx2 hj2 hj3 hbn hs hbb hj0 hj1
  go_wp2_with fail
  try rw [es]
  refine (gup_any _ n s _ _ (HB.out.ext HX2.out) (by omega) hs31 (by omega)).mono ?_
  rw [← HD.out]
  rintro e w3 ⟨g1, cv, rfl, hO3, hx3⟩
  have HX3 := Lib.hid (HX2.out.trans hx3)
  have HOv := Lib.hid (hO3.lower HX2.out.size)
  have HOv' := Lib.hid hO3
  clear hx3 hO3
  go_wp2_with fail
  refine (gup_any _ m s _ _ (HA.out.ext HX3.out) (by omega) hs31 (by omega)).mono ?_
  obtain ⟨M, hM⟩ : ∃ M, M = m * 2 ^ s := ⟨_, rfl⟩
  rw [← hM]
  have HMM := Lib.hid hM
  clear hM
  rintro e w4 ⟨A4, c4, rfl, hO4, hx4⟩
  have HX4 := Lib.hid (HX3.out.trans hx4)
  have HO4 := Lib.hid hO4
  have HOv := Lib.hid (HOv.out.ext hx4)
  have HVB := Lib.hid (show ∀ a, g1 = some a → a.block < w3.heap.size from fun a e => by subst e; exact HOv'.out.block.2)
  have hx34 := hx4.size
  clear hx4 hO4
  have hMl : (wd M).length ≤ 8193 := by
    have h1 := wd_len_mul m (2 ^ s)
    have h2 : (wd (2 ^ s)).length ≤ 1 := wd_len_le _ 1 (by
      have : 2 ^ s < 2 ^ 32 := Nat.pow_lt_pow_right (by omega) (by omega)
      rw [show pw 1 = 4294967296 from rfl]
      omega)
    rw [← HMM.out] at h1
    omega
  have hml : (wd n).length ≤ (wd M).length := by
    have h1 : n ≤ M := by
      rw [HMM.out]
      exact Nat.le_trans hge (Nat.le_mul_of_pos_right _ (Nat.pow_pos (by omega)))
    exact wd_len_mono h1
  obtain ⟨P, hP⟩ : ∃ P, (wd M).length = P := ⟨_, rfl⟩
  rw [hP] at hMl hml ⊢
  have HP := Lib.hid hP
  clear hP
  have hdl : (wd D).length = K + 1 := HNW.out.2.1
  have hKP : K + 1 ≤ P := by have := HK.out; omega
  have hK1 : 1 ≤ K := by have := HK.out; omega
  obtain ⟨L, hL⟩ : ∃ L, L = K + 1 := ⟨_, rfl⟩
  rw [← hL] at hdl hKP
  rw [hdl]
  have HL := Lib.hid hL
  have HDL := Lib.hid hdl
  have hL2 : 2 ≤ L := by omega
  clear hL hdl
  obtain ⟨Lq, hLq⟩ : ∃ Lq, P + 1 - L = Lq := ⟨_, rfl⟩
  have hle : L ≤ P + 1 := by omega
  go_wp2_with (first | (at_make; refine wpList_mk rfl _ _ rfl Lq _ _ rfl rfl (by rw [← hLq]; omega) (by rw [← hLq]; omega) (by omega) ?_; intro w6 hO6 hG6) | (at_builtin; refine wpList_app rfl _ _ rfl w3.heap.size A4 c4 (wd M) P HP.out rfl (HO4.out.ext ((Ext.refl w4).alloc _)) _ _ [0] 1 rfl rfl (Own.lit w4 _ [0] rfl (by decide)).rd (by omega) (by have := HX4.out.size; have := hx34; simp; omega) ?_; intro A5 c5 w5 hO5 hg5))
  obtain ⟨g2, rfl, hg2, hg2'⟩ := hO5.some_ (by simp)
  have HX5 := Lib.hid (show Ext w w5 from ((HX4.out.alloc _).grown hg5 (fun k hk => by
    cases A4 with
    | none => cases hk
    | some a => cases hk; exact Nat.le_trans HX3.out.size HO4.out.block.1)))
  have HOv := Lib.hid (show Own w5 w.heap.size g1 cv (wd D) from (HOv.out.ext ((Ext.refl w4).alloc _)).kept hg5 (fun a ha e => by
    have h1 := HVB.out a ha
    cases A4 with
    | none => cases e
    | some a4 => injection e with e; have e' : a.block = a4.block := e; have h2 := HO4.out.block.1; omega))
  have HAp : Hid (∀ b, g1 = some b → b.block ≠ g2) := fun b hb e => by have := HVB.out b hb; omega
  have HOu := Lib.hid (hO5.lower HX3.out.size)
  have HB2 := Lib.hid (show w.heap.size ≤ g2 from Nat.le_trans HX3.out.size hg2)
  have HUL := Lib.hid (show (wd M ++ [0]).length = P + 1 by rw [List.length_append, HP.out]; rfl)
  have HUW := Lib.hid (show Wf (wd M ++ [0]) from fun x hx => by
    rcases List.mem_append.1 hx with h | h
    · exact wf_wd M x h
    · rw [List.mem_singleton.1 h]; omega)
  have HUV := Lib.hid (show val (wd M ++ [0]) = (M : Int) by rw [val_append0, val_wd])
  obtain ⟨us0, hus⟩ : ∃ us0, us0 = wd M ++ [0] := ⟨_, rfl⟩
  rw [← hus] at HOu HUL HUW HUV
  clear hus hO5 hg5 hg2 hg2' HO4 HVB HOv' hx34
  have HOq := Lib.hid hO6
  have HAq := Lib.hid (show g2 ≠ w5.heap.size from fun e => by have := HOu.out.block.2; simp only at this; omega)
  have HAr : Hid (∀ b, g1 = some b → b.block ≠ w5.heap.size) := fun b hb e => by subst hb; have := HOv.out.block.2; omega
  have HX6 := Lib.hid (HX5.out.trans hG6)
  have HQB := Lib.hid HX5.out.size
  have HOu := Lib.hid (HOu.out.ext hG6)
  have HOv := Lib.hid (HOv.out.ext hG6)
  have HBeg := Lib.hid (over_begin M D P L Lq HP.out (by omega) hle hLq (by have := HNW.out.1; rw [HL.out]; exact this))
  have HLQ := Lib.hid hLq
  clear hO6 hG6 hLq HX5
  generalize hgq : w5.heap.size = gq at *
  clear hgq HX3 HX4 HT
  have HM := Lib.hid (show (D : Int) < pw L from by have := wd_lt_pw D; rw [HDL.out] at this; exact this)
  have hc5 : P + 1 ≤ c5 := by have := HOu.out.rd.cap; rw [HUL.out] at this; exact this
  have hc5m : c5 ≤ 9223372036854775807 := HOu.out.rd.capm
  have hB0 : 0 < L := by omega
  go_wp2_with fail
  go_loopw [12] (fun i wr => ∃ (k : Nat) (us qs : List Int), k ≤ Lq ∧ Hid (us.length = P + 1) ∧ Hid (qs.length = Lq) ∧ Hid (Wf us) ∧ Hid (Wf qs) ∧ Hid ((D : Int) * val qs + val us = (M : Int)) ∧ Hid (val us < (D : Int) * pw k) ∧ Hid (∀ j, j < k → nth qs j = 0) ∧ i = .int .i64 ((k : Int) - 1) ∧ Hid (Own wr w.heap.size (some ⟨g2, 0, none⟩) c5 us) ∧ Hid (Own wr w.heap.size (some ⟨gq, 0, none⟩) Lq qs) ∧ Hid (Own wr w.heap.size g1 cv (wd D)) ∧ Hid (Ext w wr)) (fun i _ => (intOf i + 1).toNat)
  case atStart => exact ⟨Lq, us0, List.replicate Lq 0, by omega, HUL.out, List.length_replicate, HUW.out, wf_zeros _, by show _ = _; rw [show val (List.replicate Lq 0) = 0 from V_zeros _ _, Int.mul_zero, Int.zero_add]; exact HUV.out, by show _ < _; rw [HUV.out]; exact HBeg.out, fun j _ => nth_zeros _ _, rfl, HOu.out, HOq.out.lower HQB.out, HOv.out, HX6.out⟩
  case round =>
    clear HOu HOq HOv HX6 HUL HUW HUV HBeg
    obtain ⟨k, us, qs, hk, HUL, HQL, HW, HQW, HE, HB', HZ, rfl, HOu, HOq, HOv, HX⟩ := hrel
    cases k with
    | zero =>
      obtain ⟨vq, hvq⟩ := Int.eq_ofNat_of_zero_le HQW.out.val_nonneg
      obtain ⟨vu, hvu⟩ := Int.eq_ofNat_of_zero_le HW.out.val_nonneg
      have hend := div_end m n s vq vu (by omega) (by have := HE.out; rw [hvq, hvu, HD.out, HMM.out] at this; exact this) (by have := HB'.out; rw [hvu, pw_zero, HD.out] at this; omega)
      have hll : (wd vu).length ≤ 8193 := by
        have h1 : vu ≤ D := by have := HB'.out; rw [hvu, pw_zero] at this; omega
        have h2 := wd_len_mono h1
        rw [HDL.out] at h2
        omega
      have HVQ := Lib.hid hvq
      have HVU := Lib.hid hvu
      obtain rfl : vq = Q := hend.1.trans HQ.out
      have HRR := Lib.hid (hend.2.trans HR.out)
      clear hvq hvu hend
      go_wp2_with fail
      refine (gtrim_any (some ⟨gq, 0, none⟩) qs Lq Lq vq _ HOq.out.rd HQL.out HQW.out HVQ.out (by have := HLQ.out; omega)).mono ?_; rintro e w7 ⟨A7, c7, rfl, h7, hx7⟩
      have HO7 := Lib.hid h7
      have HX7 := Lib.hid hx7
      clear h7 hx7
      go_wp2_with fail
      refine (gtrim_any (some ⟨g2, 0, none⟩) us c5 (P + 1) vu _ (HOu.out.ext HX7.out).rd HUL.out HW.out HVU.out (by omega)).mono ?_; rintro e w8 ⟨A8, c8, rfl, h8, hx8⟩
      have HO8 := Lib.hid h8
      have HX8 := Lib.hid hx8
      clear h8 hx8
      go_wp2_with fail
      refine (gdown_any _ vu s _ _ HO8.out.rd hs31 hll R HRR.out).mono ?_; rintro e w9 ⟨A9, c9, rfl, h9, hx9⟩
      have HO9 := Lib.hid h9
      have HX9 := Lib.hid hx9
      clear h9 hx9
      go_wp2_with fail
      go_ret2
      exact ⟨A7, c7, A9, c9, rfl, (HO7.out.ext (HX8.out.trans HX9.out)).lower HX.out.size, HO9.out.lower (HX.out.trans (HX7.out.trans HX8.out)).size, HX.out.trans (HX7.out.trans (HX8.out.trans HX9.out))⟩
    | succ k =>
      have e1 : (((k + 1 : Nat) : Int) - 1) = (k : Int) := by omega
      rw [e1]
      clear e1
      have hkL : k + (L + 1) ≤ P + 1 := by have := HLQ.out; omega
      have hgu := part_lt us k L D HW.out (by rw [HUL.out]; exact hkL) HB'.out
      obtain ⟨mm, hmm⟩ := Int.eq_ofNat_of_zero_le (Vo_bd HW.out k (L + 1)).1
      rw [hmm] at hgu
      have HMV := Lib.hid hmm
      have HGU := Lib.hid (show mm < D * 4294967296 by omega)
      clear hgu hmm
      go_wp2_with fail
      rw [show k + L + 1 - k = L + 1 by omega]
      have hdg := gdigit_any g1 us g2 k c5 (c5 - k) cv K w.heap.size mm D wr HOu.out HOv.out.rd (by rw [HUL.out]; have := HL.out; omega) HW.out (by rw [show K + 2 = L + 1 by have := HL.out; omega]; exact HMV.out) (by rw [HDL.out]; exact HL.out) HGU.out (by rw [HDL.out]; have := HL.out; have := HK.out; omega) (by have := HL.out; omega) (by omega) HAp.out L HL.out
      refine hdg.mono ?_
      clear hdg
      rintro e wo ⟨us1, x, rfl, hx1, rfl, hul1, hw1, hv1, hs1, ho1, hg1⟩
      have HOq2 := Lib.hid (HOq.out.kept hg1 (fun a ha e => by cases ha; injection e with e; exact HAq.out e.symm))
      have HOv2 := Lib.hid (HOv.out.kept hg1 (fun a ha e => by injection e with e; exact HAp.out a ha e))
      have HX2 := Lib.hid (HX.out.grown hg1 (fun k hk => by cases hk; exact HB2.out))
      have HOu2 := Lib.hid ho1
      clear hg1 ho1 HOu HOq HOv HX
      have hco := HOq2.out.cell k (by rw [HQL.out]; omega)
      have hfo := HOq2.out.free k
      rw [HZ.out k (by omega)] at hco
      rw [show K + 2 = L + 1 by have := HL.out; omega] at hv1 hs1
      have hpo := part_off us us1 k L D ((mm / D : Nat) : Int) HW.out (by rw [HUL.out]; exact hkL) hul1 HM.out HB'.out hs1 (by rw [hv1, HMV.out]; have := Nat.div_add_mod mm D; rw [← Int.natCast_mul, Nat.mul_comm]; omega) (by rw [hv1]; have := Nat.mod_lt mm (show 0 < D by have := HGU.out; omega); omega)
      obtain ⟨x, hx⟩ : ∃ x, mm / D = x := ⟨_, rfl⟩
      rw [hx] at hpo hx1 ⊢
      have HUL2 := Lib.hid (hul1.trans HUL.out)
      have HW2 := Lib.hid hw1
      have HB2' := Lib.hid hpo.2
      have HE2 := Lib.hid (q_round qs k x D _ _ _ (by rw [HQL.out]; omega) (HZ.out k (by omega)) HE.out hpo.1)
      clear hpo hul1 hw1 hv1 hs1 hx
      go_wp2_with fail
      go_roundw
      case rel => exact ⟨k, us1, qs.set k (x : Int), by omega, HUL2.out, by unfold Hid; rw [List.length_set]; exact HQL.out, HW2.out, wf_set HQW.out _ _ (by omega) (by omega), HE2.out, HB2'.out, fun j hj => by rw [nth_set_ne _ _ _ _ (by omega)]; exact HZ.out j (by omega), rfl, (HOu2.out.kept (HOq2.out.set k _).2 (fun a ha e => by cases ha; injection e with e; exact HAq.out e)), (HOq2.out.set k _).1, (HOv2.out.kept (HOq2.out.set k _).2 (fun a ha e => by injection e with e; exact HAr.out a ha e)), HX2.out.setCell HQB.out _⟩
      case measure => simp [intOf]
theorem gover_any (A B : Option Addr) (m n c d : Nat) (w : World) (ha : Rd w A c (wd m)) (hb : Rd w B d (wd n)) (hn : n ≠ 0) (lm : (wd m).length ≤ 8192) (Q R : Nat) (hQ : m / n = Q) (hR : m % n = R) :
    Calls Tryz.prog 186 #[.slice A (wd m).length c, .slice B (wd n).length d] w (Pair w Q R) := by
  rcases Nat.lt_or_ge m n with h | h
  · exact gover_less A B m n c d w ha hb h lm Q R hQ hR
  · have h0 : (wd n).length ≠ 0 := fun e => hn (wd_len_zero.1 e)
    rcases Nat.lt_or_ge 1 (wd n).length with h1 | h1
    · exact gover_long A B m n c d w ha hb h h1 lm Q R hQ hR
    · exact gover_one A B m n c d w ha hb h (by omega) lm Q R hQ hR
set_option maxHeartbeats 2000000 in
theorem gcommon_any (A B : Option Addr) (m n c d : Nat) (w : World) (ha : Rd w A c (wd m)) (hb : Rd w B d (wd n)) (lm : (wd m).length ≤ 8192) (ln : (wd n).length ≤ 8192) :
    Calls Tryz.prog 185 #[.slice A (wd m).length c, .slice B (wd n).length d] w fun e w' => ∃ A c, e = .returned (.slice A (wd (Nat.gcd m n)).length c) ∧ Own w' w.heap.size A c (wd (Nat.gcd m n)) ∧ Ext w w' := by
  have HA := Lib.hid ha
  have HB := Lib.hid hb
  clear ha hb
  go_enter Tryz.func185, Tryz.ntmps185
  go_wp2_with fail
  go_loopg [0, 1] n (fun q x y wr => ∃ (p : Nat) (P Q : Option Addr) (cp cq : Nat), x = .slice P (wd p).length cp ∧ y = .slice Q (wd q).length cq ∧ Hid (Nat.gcd p q = Nat.gcd m n) ∧ (wd p).length ≤ 8192 ∧ (wd q).length ≤ 8192 ∧ Hid (Rd wr P cp (wd p)) ∧ Hid (Rd wr Q cq (wd q)) ∧ Hid (Ext w wr))
  case atStart => exact ⟨m, A, B, c, d, rfl, rfl, rfl, lm, ln, HA.out, HB.out, Ext.refl _⟩
  case round =>
    clear HA HB
    obtain ⟨p, P, Q, cp, cq, rfl, rfl, hg, lp, lq, HP, HQ, HX⟩ := hrel
    obtain ⟨q, rfl⟩ : ∃ q, q = gk := ⟨_, rfl⟩
    have hgc := Lib.hid (gcd_step p q)
    by_cases h0 : (wd q).length = 0
    · have hq0 : q = 0 := wd_len_zero.1 h0
      have HE := Lib.hid (show p = Nat.gcd m n by rw [← hg.out, hq0, Nat.gcd_zero_right])
      have hbe : ¬ (0 : Int) < ((wd q).length : Int) := by omega
      clear hq0 h0
      go_wp2_with fail
      refine (gtrim_any _ _ _ _ p _ HP.out rfl (wf_wd p) (val_wd p) (by omega)).mono ?_; rintro e w5 ⟨A5, c5, rfl, h5, hx5⟩
      have H5 := Lib.hid (h5.lower HX.out.size)
      have HX5 := Lib.hid (HX.out.trans hx5)
      clear h5 hx5
      go_wp2_with fail
      go_ret
      exact ⟨A5, c5, by rw [← HE.out]; rfl, by rw [← HE.out]; exact H5.out, HX5.out⟩
    · have hq0 : q ≠ 0 := fun e => h0 (wd_len_zero.2 e)
      have hbe : (0 : Int) < ((wd q).length : Int) := by omega
      have hml : p % q < q := Nat.mod_lt p (by omega)
      have hml2 := wd_len_mono (show p % q ≤ q by omega)
      obtain ⟨s, hs⟩ : ∃ s, p / q = s := ⟨_, rfl⟩
      obtain ⟨r, hr⟩ : ∃ r, p % q = r := ⟨_, rfl⟩
      have HV := Lib.hid (gover_any P Q p q cp cq wr HP.out HQ.out hq0 lp s r hs hr)
      rw [hr] at hml hml2 hgc
      clear hs hr h0
      go_wp2_with fail
      refine HV.out.mono ?_; rintro e w3 ⟨A3, c3, B3, d3, rfl, h1, h2, h4⟩
      have HQ3 := Lib.hid (HQ.out.ext h4)
      have HR3 := Lib.hid h2.rd
      have HX3 := Lib.hid (HX.out.trans h4)
      clear h1 h2 h4
      go_wp2_with fail
      go_roundg r
      case measure => exact hml
      case rel => exact ⟨q, Q, B3, cq, d3, rfl, rfl, hgc.out.trans hg.out, lq, by omega, HQ3.out, HR3.out, HX3.out⟩
set_option maxHeartbeats 1000000 in
theorem gdivMod_any (A B : Option Addr) (m n c d : Nat) (w : World) (ha : Rd w A c (wd m)) (hb : Rd w B d (wd n)) (hn : n ≠ 0) (lm : (wd m).length ≤ 8192) (ln : (wd n).length ≤ 8192) (Q R : Nat) (hQ : m / n = Q) (hR : m % n = R) :
    Calls Tryz.prog 204 #[.slice A (wd m).length c, .slice B (wd n).length d] w fun e w' => ∃ A c B d, e = .returned (.tuple #[.slice A (wd Q).length c, .slice B (wd R).length d, .int .i64 0]) ∧ Own w' w.heap.size A c (wd Q) ∧ Own w' w.heap.size B d (wd R) ∧ Ext w w' := by
  have HA := Lib.hid ha
  have HB := Lib.hid hb
  have h0 : (((wd n).length : Int) == 0) = false := beq_eq_false_iff_ne.2 (fun e => hn (wd_len_zero.1 (by omega)))
  have HV := Lib.hid (gover_any A B m n c d w ha hb hn lm Q R hQ hR)
  clear ha hb hQ hR
  go_enter Tryz.func204, Tryz.ntmps204
  go_wp2_with fail
  refine (gboth_ok _ _ m n _ _ _ HA.out HB.out lm ln).mono ?_; rintro e w1 ⟨rfl, rfl⟩
  go_wp2_with fail
  refine HV.out.mono ?_; rintro e w3 ⟨A3, c3, B3, d3, rfl, h1, h2, h4⟩
  have H1 := Lib.hid h1
  have H2 := Lib.hid h2
  have H4 := Lib.hid h4
  clear h1 h2 h4
  go_wp2_with fail
  go_ret3
  exact ⟨A3, c3, B3, d3, rfl, H1.out, H2.out, H4.out⟩
set_option maxHeartbeats 1000000 in
theorem ggcd_any (A B : Option Addr) (m n c d : Nat) (w : World) (ha : Rd w A c (wd m)) (hb : Rd w B d (wd n)) (lm : (wd m).length ≤ 8192) (ln : (wd n).length ≤ 8192) (lg : (wd (Nat.gcd m n)).length ≤ 8192) :
    Calls Tryz.prog 153 #[.slice A (wd m).length c, .slice B (wd n).length d] w (One w (Nat.gcd m n)) := by
  have HA := Lib.hid ha
  have HB := Lib.hid hb
  clear ha hb
  go_enter Tryz.func153, Tryz.ntmps153
  go_wp2_with fail
  refine (gboth_ok _ _ m n _ _ _ HA.out HB.out lm ln).mono ?_; rintro e w1 ⟨rfl, rfl⟩
  go_wp2_with fail
  refine (gcommon_any _ _ m n _ _ _ HA.out HB.out lm ln).mono ?_; rintro e w1 ⟨A1, c1, rfl, h1, hx1⟩
  have H1 := Lib.hid h1
  have HX1 := Lib.hid hx1
  clear h1 hx1
  go_wp2_with fail
  refine (gtold_ok _ _ _ _ lg).mono ?_; rintro e w2 ⟨rfl, rfl⟩
  go_wp2_with fail
  go_ret2
  exact ⟨A1, c1, rfl, H1.out, HX1.out⟩
theorem tell_zero : tell 0 = (⟨false, [], wd 1⟩, 0) := by
  unfold tell
  rw [if_neg (lng_of (by rw [show (0 : Rat).num.natAbs = 0 from rfl, wd_zero]; decide) (by rw [show (0 : Rat).den = 1 from rfl, wd_one]; decide)), enc_zero, wd_one]
theorem gone_any (w : World) :
    Calls Tryz.prog 155 #[] w fun e w' => ∃ A c, e = .returned (.slice A (wd 1).length c) ∧ Own w' w.heap.size A c (wd 1) ∧ Ext w w' := by
  rw [wd_one]
  have HO := Lib.hid (Own.lit w #[.int .u32 1] [1] rfl (by decide))
  go_enter Tryz.func155, Tryz.ntmps155
  go_wp2_with fail
  go_ret
  exact ⟨_, _, rfl, HO.out, (Ext.refl w).alloc _⟩
set_option maxHeartbeats 400000 in
theorem gover3_any (A B : Option Addr) (m n : Nat) (c d : Nat) (w : World) (ha : Rd w A c (wd m)) (hb : Rd w B d (wd n)) (hn : n ≠ 0) (lm : (wd m).length ≤ 8192) (ln : (wd n).length ≤ 8192) (Q : Nat) (hQ : m / n = Q) :
    Calls Tryz.prog 173 #[.slice A (wd m).length c, .slice B (wd n).length d] w fun e w' => ∃ A' c', e = .returned (.slice A' (wd Q).length c') ∧ Own w' w.heap.size A' c' (wd Q) ∧ Ext w w' := by
  have H := Lib.hid (gdivMod_any A B m n c d w ha hb hn lm ln Q _ hQ rfl)
  clear ha hb
  go_enter Tryz.func173, Tryz.ntmps173
  go_wp2_with fail
  refine H.out.mono ?_; rintro e w1 ⟨A1, c1, A2, c2, rfl, h1, _, hx1⟩
  have H1 := Lib.hid h1
  have HX1 := Lib.hid hx1
  clear h1 hx1
  go_wp2_with fail
  go_ret
  exact ⟨_, _, rfl, H1.out, HX1.out⟩
set_option maxHeartbeats 1000000 in
theorem gof3_any (b : Bool) (A B : Option Addr) (m n : Nat) (c d : Nat) (w : World) (ha : Rd w A c (wd m)) (hb : Rd w B d (wd n)) (hn : n ≠ 0) (lm : (wd m).length ≤ 8192) (ln : (wd n).length ≤ 8192) :
    Calls Tryz.prog 136 #[.bool b, .slice A (wd m).length c, .slice B (wd n).length d] w (RatP w (tell (mkRat (sg b m) n))) := by
  have HA := Lib.hid ha
  have HB := Lib.hid hb
  clear ha hb
  by_cases h0 : (wd m).length = 0
  · have hm0 : m = 0 := wd_len_zero.1 h0
    have HT := Lib.hid (show tell (mkRat (sg b m) n) = (⟨false, [], wd 1⟩, 0) by rw [hm0, sg_zero, Rat.zero_mkRat, tell_zero])
    have hbe : (((wd m).length : Int) == 0) = true := beq_iff_eq.2 (by omega)
    clear hm0 h0
    go_enter Tryz.func136, Tryz.ntmps136
    go_wp2_with fail
    refine (gone_any _).mono ?_; rintro e w1 ⟨A1, c1, rfl, h1, hx1⟩
    have HO1 : Hid (Own w1 (w.heap.size + 1) A1 c1 (wd 1)) := h1.lower (by simp)
    have HX1 := Lib.hid hx1
    have HZ1 := Lib.hid (show w.heap.size < w1.heap.size by have := hx1.size; simp at this; omega)
    obtain ⟨hc, hf⟩ := bcell hx1
    have HXw := Lib.hid (((Ext.refl w).alloc _).trans HX1.out)
    have hz := HZ1.out
    clear h1 hx1
    go_wp2_with fail
    exact bodyPost_ret (v := .tuple #[.agg #[.bool false, .slice none 0 0, .slice A1 (wd 1).length c1], .int .i64 0]) (by simp [results, Tryz.results136, go_sem, hc]) rfl (RatP.mk (xs := []) HT.out rfl (Own.nil _ _) (by refine Own.lower ?_ (Nat.le_succ _); repeat (first | (with_reducible exact HO1.out) | refine Own.setBelow ?_ (Nat.lt_succ_self _) _)) (fun _ _ h => by cases h) (by repeat (first | exact HXw.out | refine Ext.setCell ?_ (Nat.le_refl _) _)))
  have hg0 : 0 < Nat.gcd m n := Nat.gcd_pos_of_pos_right m (by omega)
  have hgl := wd_len_mono (Nat.gcd_le_right m (show 0 < n by omega))
  have hm0 : m ≠ 0 := fun e => h0 (wd_len_zero.2 e)
  have HE := Lib.hid (enc_mk b m n hn)
  have hbe : (((wd m).length : Int) == 0) = false := beq_eq_false_iff_ne.2 (by omega)
  obtain ⟨g, hg⟩ : ∃ g, g = Nat.gcd m n := ⟨_, rfl⟩
  rw [← hg] at hg0 hgl HE
  have HG := Lib.hid hg
  obtain ⟨m', hm'⟩ : ∃ x, m / g = x := ⟨_, rfl⟩
  obtain ⟨n', hn'⟩ : ∃ x, n / g = x := ⟨_, rfl⟩
  rw [hm', hn'] at HE
  have HM' := Lib.hid hm'
  have HN' := Lib.hid hn'
  have hml := wd_len_mono (show m' ≤ m by rw [← hm']; exact Nat.div_le_self _ _)
  have hnl := wd_len_mono (show n' ≤ n by rw [← hn']; exact Nat.div_le_self _ _)
  have el : (wd (mkRat (sg b m) n).num.natAbs) = wd m' := congrArg Fr.num HE.out
  have ed : (wd (mkRat (sg b m) n).den) = wd n' := congrArg Fr.den HE.out
  have HEL := Lib.hid el
  have HED := Lib.hid ed
  have HGG := Lib.hid (show ∀ wx, Rd wx A c (wd m) → Rd wx B d (wd n) → Calls Tryz.prog 153 #[.slice A (wd m).length c, .slice B (wd n).length d] wx (One wx g) from fun wx h1 h2 => by
    have := ggcd_any A B m n c d wx h1 h2 lm ln (by rw [← HG.out]; omega)
    rw [← HG.out] at this
    exact this)
  clear hg hm' hn' h0 el ed
  go_enter Tryz.func136, Tryz.ntmps136
  go_wp2_with fail
  refine (HGG.out _ (HA.out.ext ((Ext.refl w).alloc _)) (HB.out.ext ((Ext.refl w).alloc _))).mono ?_
  rintro e w1 ⟨A1, c1, rfl, h1, hx1⟩
  have H1 := Lib.hid h1
  have HX1 := Lib.hid hx1
  clear h1 hx1
  go_wp2_with fail
  refine (gover3_any A A1 m g _ _ _ (HA.out.ext (((Ext.refl w).alloc _).trans HX1.out)) H1.out.rd (by omega) lm (by omega) m' HM'.out).mono ?_
  rintro e w2 ⟨A2, c2, rfl, h2, hx2⟩
  have H2 := Lib.hid h2
  have HX2 := Lib.hid (HX1.out.trans hx2)
  have H1 := Lib.hid (H1.out.ext hx2)
  clear h2 hx2
  go_wp2_with fail
  refine (gover3_any B A1 n g _ _ _ (HB.out.ext (((Ext.refl w).alloc _).trans HX2.out)) H1.out.rd (by omega) ln (by omega) n' HN'.out).mono ?_
  rintro e w3 ⟨A3, c3, rfl, h3, hx3⟩
  have HAp := Lib.hid (H2.out.apart h3 (Nat.le_refl _))
  have H3 := Lib.hid (h3.lower (show w.heap.size + 1 ≤ w2.heap.size by have := HX2.out.size; simp at this; omega))
  have H2 := Lib.hid ((H2.out.ext hx3).lower (show w.heap.size + 1 ≤ w1.heap.size by have := HX1.out.size; simp at this; omega))
  have HX3 := Lib.hid (HX2.out.trans hx3)
  have hz : w.heap.size < w3.heap.size := by have := HX3.out.size; simp at this; omega
  obtain ⟨hc, hf⟩ := bcell HX3.out
  have HXw := Lib.hid (((Ext.refl w).alloc _).trans HX3.out)
  clear h3 hx3 H1
  by_cases l1 : 2048 < (wd m').length
  · have HT := Lib.hid (show tell (mkRat (sg b m) n) = (Fr.zero, 3) by unfold tell lng; rw [HEL.out, if_pos (by simp; omega)])
    go_wp2_with fail
    exact bodyPost_ret (v := .tuple #[.agg #[.bool false, .slice none 0 0, .slice none 0 0], .int .i64 3]) (by simp [results, Tryz.results136, go_sem, hc, World.cell?_alloc_lt, hz]) rfl (RatP.nil HT.out rfl (by repeat (first | exact HXw.out | refine Ext.setCell ?_ (by simp; try omega) _ | refine Ext.alloc ?_ _)))
  · by_cases l2 : 2048 < (wd n').length
    · have HT := Lib.hid (show tell (mkRat (sg b m) n) = (Fr.zero, 3) by unfold tell lng; rw [HED.out, if_pos (by simp; omega)])
      go_wp2_with fail
      exact bodyPost_ret (v := .tuple #[.agg #[.bool false, .slice none 0 0, .slice none 0 0], .int .i64 3]) (by simp [results, Tryz.results136, go_sem, hc, World.cell?_alloc_lt, hz]) rfl (RatP.nil HT.out rfl (by repeat (first | exact HXw.out | refine Ext.setCell ?_ (by simp; try omega) _ | refine Ext.alloc ?_ _)))
    · have HT := Lib.hid (show tell (mkRat (sg b m) n) = (⟨b, wd m', wd n'⟩, 0) by unfold tell lng; rw [HEL.out, HED.out, if_neg (by simp; omega), HE.out, decide_eq_true hm0, Bool.and_true])
      go_wp2_with fail
      exact bodyPost_ret (v := .tuple #[.agg #[.bool b, .slice A2 (wd m').length c2, .slice A3 (wd n').length c3], .int .i64 0]) (by simp [results, Tryz.results136, go_sem, hc, World.cell?_alloc_lt, hz]) rfl (RatP.mk HT.out rfl (by refine Own.lower ?_ (Nat.le_succ _); repeat (first | (with_reducible exact H2.out) | refine Own.setBelow ?_ (Nat.lt_succ_self _) _ | refine Own.ext ?_ ((Ext.refl _).alloc _))) (by refine Own.lower ?_ (Nat.le_succ _); repeat (first | (with_reducible exact H3.out) | refine Own.setBelow ?_ (Nat.lt_succ_self _) _ | refine Own.ext ?_ ((Ext.refl _).alloc _))) HAp.out (by repeat (first | exact HXw.out | refine Ext.setCell ?_ (by simp; try omega) _ | refine Ext.alloc ?_ _)))
set_option maxHeartbeats 1000000 in
theorem gtrimmed_any (A : Option Addr) (xs : List Int) (c l : Nat) (b : Bool) (w : World) (h : Rd w A c xs) (hl : xs.length = l) (hb : b = decide (¬ (xs ≠ [] ∧ nth xs (xs.length - 1) = 0))) :
    Calls Tryz.prog 152 #[.slice A l c] w fun e w' => e = .returned (.bool b) ∧ w = w' := by
  subst hl
  have hlm := h.lim
  have HA := Lib.hid h
  clear h
  by_cases h0 : xs.length = 0
  · have hnil := List.eq_nil_of_length_eq_zero h0
    obtain rfl : b = true := by rw [hb]; exact decide_eq_true (fun h => h.1 hnil)
    have he : ((xs.length : Int) == 0) = true := beq_iff_eq.2 (by omega)
    clear hb hnil h0
    go_enter Tryz.func152, Tryz.ntmps152
    go_wp2
    go_ret
    exact ⟨rfl, rfl⟩
  · obtain ⟨k, hk⟩ := Nat.exists_eq_succ_of_ne_zero h0
    obtain ⟨a, rfl, hcell⟩ := HA.out.at_ k (by omega)
    have hne : xs ≠ [] := fun e => h0 (by rw [e]; rfl)
    have he : ((xs.length : Int) == 0) = false := beq_eq_false_iff_ne.2 (by omega)
    have hi : ((xs.length : Int) - 1).toNat = k := by omega
    have hkl : (k : Int) < xs.length := by omega
    by_cases hz : nth xs k = 0
    · obtain rfl : b = false := by rw [hb]; exact decide_eq_false (fun h => h ⟨hne, by rw [hk]; exact hz⟩)
      rw [hz] at hcell
      clear hz hk h0 hb
      go_enter Tryz.func152, Tryz.ntmps152
      go_wp2
      go_ret
      exact ⟨rfl, rfl⟩
    · obtain rfl : b = true := by rw [hb]; exact decide_eq_true (fun h => hz (by have := h.2; rw [hk] at this; exact this))
      have hz' : (nth xs k != 0) = true := bne_iff_ne.2 hz
      clear hz hk h0 hb
      go_enter Tryz.func152, Tryz.ntmps152
      go_wp2
      go_ret
      exact ⟨rfl, rfl⟩
theorem gadd_round (us xs ys : List Int) (k : Nat) (t : Int) (hk : k < us.length) (hv : V us k + t * pw k = V xs k + V ys k) :
    V (us.set k ((nth xs k + nth ys k + t) % 4294967296)) (k + 1) + (nth xs k + nth ys k + t) / 4294967296 * pw (k + 1) = V xs (k + 1) + V ys (k + 1) := by
  have h := add_round us xs ys k t hk hv
  rw [show t + nth xs k + nth ys k = nth xs k + nth ys k + t by omega] at h
  exact h
theorem gadd_end (us : List Int) (p q L : Nat) (t : Int) (hp : (wd p).length ≤ L) (hq : (wd q).length ≤ L) (hul : us.length = L + 1) (hw : Wf us) (ht : 0 ≤ t) (hv : V us (L + 1) + t * pw (L + 1) = V (wd p) (L + 1) + V (wd q) (L + 1)) :
    val us = ((p + q : Nat) : Int) := by
  have e1 := val_wd p
  have e2 := val_wd q
  rw [← V_out _ (L + 1) (by omega)] at e1 e2
  have b1 := wd_lt_pw (p + q)
  have h1 : pw (wd (p + q)).length ≤ pw (L + 1) := pw_mono (by have := wd_len_add p q; omega)
  have h2 := V_nonneg hw (L + 1)
  have h3 := pw_pos (L + 1)
  have ht0 : t = 0 := by
    rcases Int.lt_or_le 0 t with h | h
    · exfalso
      have h4 : 1 * pw (L + 1) ≤ t * pw (L + 1) := Int.mul_le_mul_of_nonneg_right (by omega) (Int.le_of_lt h3)
      omega
    · omega
  unfold val
  rw [hul]
  rw [ht0, Int.zero_mul] at hv
  omega
set_option maxHeartbeats 1000000 in
theorem gplus_any (A B : Option Addr) (m n : Nat) (c d : Nat) (w : World) (ha : Rd w A c (wd m)) (hb : Rd w B d (wd n)) (lm : (wd m).length ≤ 8192) (ln : (wd n).length ≤ 8192) :
    Calls Tryz.prog 181 #[.slice A (wd m).length c, .slice B (wd n).length d] w fun e w' => ∃ A' c', e = .returned (.slice A' (wd (m + n)).length c') ∧ Own w' w.heap.size A' c' (wd (m + n)) ∧ Ext w w' := by
  have HA := Lib.hid ha
  have HB := Lib.hid hb
  clear ha hb
  obtain ⟨L, hL⟩ : ∃ L : Nat, L = max (wd m).length (wd n).length := ⟨_, rfl⟩
  have hmax : Max.max ((wd m).length : Int) ((wd n).length : Int) = (L : Int) := by omega
  have l1 : (wd m).length ≤ L := by omega
  have l2 : (wd n).length ≤ L := by omega
  have l3 : L ≤ 8192 := by omega
  clear hL
  go_enter Tryz.func181, Tryz.ntmps181
  go_wp2_with (at_make; refine wpList_mk rfl _ _ rfl (L + 1) _ _ rfl rfl (by omega) (by omega) (by omega) ?_; intro w1 hO hG)
  have HO := Lib.hid hO
  have HG := Lib.hid hG
  clear hO hG
  go_loopw [7, 8] (fun cy i wr => ∃ (k : Nat) (us : List Int) (t : Int), k ≤ L + 1 ∧ us.length = L + 1 ∧ Hid (Wf us) ∧ 0 ≤ t ∧ t ≤ 1 ∧ Hid (V us k + t * pw k = V (wd m) k + V (wd n) k) ∧ cy = .int .u64 t ∧ i = .int .i64 k ∧ Hid (Own wr w.heap.size (some ⟨w.heap.size, 0, none⟩) (L + 1) us) ∧ Hid (Ext w wr)) (fun _ i _ => L + 1 - (intOf i).toNat)
  case atStart => exact ⟨0, _, 0, by omega, List.length_replicate, wf_zeros _, by omega, by omega, by show _ = _; simp [V_zero], rfl, rfl, HO.out, HG.out⟩
  case round =>
    clear HO HG
    obtain ⟨k, us, t, hk, hul, hw, ht0, ht1, hv, rfl, rfl, HO, HX⟩ := hrel
    have HUL := Lib.hid hul
    clear hul
    by_cases hkm : k ≤ L
    · have HW1 := Lib.hid (gword_q A (wd m) c (wd m).length k wr (HA.out.ext HX.out) rfl)
      have HW2 := Lib.hid (gword_q B (wd n) d (wd n).length k wr (HB.out.ext HX.out) rfl)
      have hco := HO.out.cell k (by have := HUL.out; omega)
      have hfo := HO.out.free k
      have ba := nth_wf (wf_wd m) k
      have bb := nth_wf (wf_wd n) k
      have HV := Lib.hid (gadd_round us (wd m) (wd n) k t (by have := HUL.out; omega) hv.out)
      obtain ⟨x, hx⟩ : ∃ x, x = nth (wd m) k := ⟨_, rfl⟩
      obtain ⟨y, hy⟩ : ∃ y, y = nth (wd n) k := ⟨_, rfl⟩
      rw [← hx] at ba HV HW1
      rw [← hy] at bb HV HW2
      clear hx hy
      go_wp2_with fail
      refine HW1.out.mono ?_; rintro e w' ⟨rfl, rfl⟩
      go_wp2_with fail
      refine HW2.out.mono ?_; rintro e w' ⟨rfl, rfl⟩
      go_wp2_with fail
      go_roundw
      case rel => exact ⟨k + 1, _, _, by omega, by rw [List.length_set]; exact HUL.out, wf_set hw.out _ _ (by omega) (by omega), by omega, by omega, HV.out, rfl, by go_num, (HO.out.set k _).1, HX.out.setCell (Nat.le_refl _) _⟩
      case measure => simp [intOf]; omega
    · obtain rfl : k = L + 1 := by omega
      have HE := Lib.hid (gadd_end us m n L t l1 l2 HUL.out hw.out ht0 hv.out)
      go_wp2_with fail
      refine (gtrim_any _ us _ (L + 1) (m + n) _ HO.out.rd HUL.out hw.out HE.out (by omega)).mono ?_; rintro e w5 ⟨A5, c5, rfl, h5, hx5⟩
      have H5 := Lib.hid (h5.lower HX.out.size)
      have HX5 := Lib.hid (HX.out.trans hx5)
      clear h5 hx5
      go_wp2_with fail
      go_ret
      exact ⟨A5, c5, rfl, H5.out, HX5.out⟩
set_option maxHeartbeats 1000000 in
theorem gadd_any (A B : Option Addr) (m n : Nat) (c d : Nat) (w : World) (ha : Rd w A c (wd m)) (hb : Rd w B d (wd n)) (lm : (wd m).length ≤ 8191) (ln : (wd n).length ≤ 8191) :
    Calls Tryz.prog 196 #[.slice A (wd m).length c, .slice B (wd n).length d] w (One w (m + n)) := by
  have HA := Lib.hid ha
  have HB := Lib.hid hb
  have hls : (wd (m + n)).length ≤ 8192 := by have := wd_len_add m n; omega
  clear ha hb
  obtain ⟨p, hp⟩ : ∃ p, p = m + n := ⟨_, rfl⟩
  have HPL := Lib.hid (gplus_any A B m n c d w HA.out HB.out (by omega) (by omega))
  rw [← hp] at hls HPL ⊢
  clear hp
  go_enter Tryz.func196, Tryz.ntmps196
  go_wp2_with fail
  refine (gboth_ok _ _ m n _ _ _ HA.out HB.out (by omega) (by omega)).mono ?_; rintro e w1 ⟨rfl, rfl⟩
  go_wp2_with fail
  refine HPL.out.mono ?_; rintro e w1 ⟨A1, c1, rfl, h1, hx1⟩
  have H1 := Lib.hid h1
  have HX1 := Lib.hid hx1
  clear h1 hx1
  go_wp2_with fail
  refine (gtold_ok _ _ _ _ hls).mono ?_; rintro e w2 ⟨rfl, rfl⟩
  go_wp2_with fail
  go_ret2
  exact ⟨A1, c1, rfl, H1.out, HX1.out⟩
set_option maxHeartbeats 1000000 in
theorem gsub_any (A B : Option Addr) (m n : Nat) (c d : Nat) (w : World) (ha : Rd w A c (wd m)) (hb : Rd w B d (wd n)) (hnm : n ≤ m) (lm : (wd m).length ≤ 8192) :
    Calls Tryz.prog 197 #[.slice A (wd m).length c, .slice B (wd n).length d] w (One w (m - n)) := by
  have HA := Lib.hid ha
  have HB := Lib.hid hb
  have ln := wd_len_mono hnm
  have hls := wd_len_mono (Nat.sub_le m n)
  have hc : ¬ cmp m n < 0 := fun h => by have := cmp_lt_iff.1 h; omega
  clear ha hb
  obtain ⟨p, hp⟩ : ∃ p, p = m - n := ⟨_, rfl⟩
  have HPL := Lib.hid (gless_any A B (wd m) n c d (wd m).length m w HA.out HB.out rfl (wf_wd m) (val_wd m) hnm (by omega))
  rw [← hp] at hls HPL ⊢
  clear hp
  go_enter Tryz.func197, Tryz.ntmps197
  go_wp2_with fail
  refine (gboth_ok _ _ m n _ _ _ HA.out HB.out (by omega) (by omega)).mono ?_; rintro e w1 ⟨rfl, rfl⟩
  go_wp2_with fail
  refine (gcompare_any _ _ (wd m) (wd n) _ _ _ _ m n _ HA.out HB.out rfl rfl (wf_wd m) (wf_wd n) (val_wd m) (val_wd n)).mono ?_; rintro e w1 ⟨rfl, rfl⟩
  go_wp2_with fail
  refine HPL.out.mono ?_; rintro e w1 ⟨A1, c1, rfl, h1, hx1⟩
  have H1 := Lib.hid h1
  have HX1 := Lib.hid hx1
  clear h1 hx1
  go_wp2_with fail
  refine (gtold_ok _ _ _ _ (by omega)).mono ?_; rintro e w2 ⟨rfl, rfl⟩
  go_wp2_with fail
  go_ret2
  exact ⟨A1, c1, rfl, H1.out, HX1.out⟩
set_option maxHeartbeats 1000000 in
theorem gmul_any (A B : Option Addr) (m n : Nat) (c d : Nat) (w : World) (ha : Rd w A c (wd m)) (hb : Rd w B d (wd n)) (ls : (wd m).length + (wd n).length ≤ 8192) :
    Calls Tryz.prog 198 #[.slice A (wd m).length c, .slice B (wd n).length d] w (One w (m * n)) := by
  have HA := Lib.hid ha
  have HB := Lib.hid hb
  have hls := wd_len_mul m n
  clear ha hb
  obtain ⟨p, hp⟩ : ∃ p, p = m * n := ⟨_, rfl⟩
  have HPL := Lib.hid (gtimes_any A B m n c d w HA.out HB.out (by omega))
  rw [← hp] at hls HPL ⊢
  clear hp
  go_enter Tryz.func198, Tryz.ntmps198
  go_wp2_with fail
  refine (gboth_ok _ _ m n _ _ _ HA.out HB.out (by omega) (by omega)).mono ?_; rintro e w1 ⟨rfl, rfl⟩
  go_wp2_with fail
  all_goals
    refine HPL.out.mono ?_; rintro e w1 ⟨A1, c1, rfl, h1, hx1⟩
    have H1 := Lib.hid h1
    have HX1 := Lib.hid hx1
    clear h1 hx1
    go_wp2_with fail
    refine (gtold_ok _ _ _ _ (by omega)).mono ?_; rintro e w2 ⟨rfl, rfl⟩
    go_wp2_with fail
    go_ret2
    exact ⟨A1, c1, rfl, H1.out, HX1.out⟩
set_option maxHeartbeats 400000 in
theorem gtimes3_any (A B : Option Addr) (m n : Nat) (c d : Nat) (w : World) (ha : Rd w A c (wd m)) (hb : Rd w B d (wd n)) (ls : (wd m).length + (wd n).length ≤ 8192) :
    Calls Tryz.prog 166 #[.slice A (wd m).length c, .slice B (wd n).length d] w fun e w' => ∃ A' c', e = .returned (.slice A' (wd (m * n)).length c') ∧ Own w' w.heap.size A' c' (wd (m * n)) ∧ Ext w w' := by
  have H := Lib.hid (gmul_any A B m n c d w ha hb ls)
  clear ha hb
  go_enter Tryz.func166, Tryz.ntmps166
  go_wp2_with fail
  refine H.out.mono ?_; rintro e w1 ⟨A1, c1, rfl, h1, hx1⟩
  have H1 := Lib.hid h1
  have HX1 := Lib.hid hx1
  clear h1 hx1
  go_wp2_with fail
  go_ret
  exact ⟨_, _, rfl, H1.out, HX1.out⟩
set_option maxHeartbeats 1000000 in
theorem gsame_any (A B : Option Addr) (xs ys : List Int) (c d l : Nat) (w : World) (ha : Rd w A c xs) (hb : Rd w B d ys) (hl : xs.length = l) (n : Nat) (hn : ys.length = n) (b : Bool) (hbb : decide (xs = ys) = b) :
    Calls Tryz.prog 154 #[.slice A l c, .slice B n d] w fun e w' => e = .returned (.bool b) ∧ Quiet w w' := by
  have HL := Lib.hid hl
  have HN := Lib.hid hn
  have HA := Lib.hid ha
  have HB := Lib.hid hb
  have HBB := Lib.hid hbb
  have hll := ha.lim
  rw [hl] at hll
  clear ha hb hl hn hbb
  by_cases hne : l = n
  · subst hne
    have hbn : ((l : Int) != (l : Int)) = false := by simp
    go_enter Tryz.func154, Tryz.ntmps154
    go_wp2_with fail
    go_loopw [5] (fun i wr => ∃ k : Nat, k ≤ l ∧ i = .int .i64 k ∧ Hid (∀ j, j < k → nth xs j = nth ys j) ∧ Hid (Quiet w wr)) (fun i _ => l - (intOf i).toNat)
    case atStart => exact ⟨0, by omega, rfl, fun j hj => by omega, Quiet.refl w⟩
    case round =>
      obtain ⟨k, hk, rfl, HE, HQ⟩ := hrel
      by_cases hkl : k < l
      · obtain ⟨a, rfl, hca⟩ := (HA.out.ext HQ.out.ext).at_ k (by rw [HL.out]; exact hkl)
        obtain ⟨b', rfl, hcb⟩ := (HB.out.ext HQ.out.ext).at_ k (by rw [HN.out]; exact hkl)
        by_cases he : nth xs k = nth ys k
        · have HE2 := Lib.hid (show ∀ j, j < k + 1 → nth xs j = nth ys j from fun j hj => by
            by_cases e : j = k
            · rw [e]; exact he
            · exact HE.out j (by omega))
          have hne : (nth xs k != nth ys k) = false := bne_eq_false_iff_eq.2 he
          clear he
          go_wp2_with fail
          go_quiet (fail)
          go_wp2_with fail
          go_roundw
          case rel => exact ⟨k + 1, by omega, by go_num, HE2.out, HQ.out.drewN _⟩
          case measure => simp [intOf]; omega
        · have hne : (nth xs k != nth ys k) = true := bne_iff_ne.2 he
          have HF := Lib.hid (show b = false by rw [← HBB.out]; exact decide_eq_false (fun e => he (by rw [e])))
          clear he
          go_wp2_with fail
          go_quiet (fail)
          go_wp2_with fail
          go_ret
          exact ⟨by rw [HF.out]; rfl, HQ.out.drewN _⟩
      · have hkk : k = l := by omega
        have HF := Lib.hid (show b = true by rw [← HBB.out]; exact decide_eq_true (nth_ext (HL.out.trans HN.out.symm) (fun j hj => HE.out j (by have := HL.out; omega))))
        go_wp2_with fail
        go_ret
        exact ⟨by rw [HF.out]; rfl, HQ.out⟩
  · have hbn : ((l : Int) != (n : Int)) = true := bne_iff_ne.2 (by omega)
    have HF := Lib.hid (show b = false by rw [← HBB.out]; exact decide_eq_false (fun e => hne (by rw [← HL.out, ← HN.out, e])))
    go_enter Tryz.func154, Tryz.ntmps154
    go_wp2_with fail
    go_ret
    exact ⟨by rw [HF.out]; rfl, Quiet.refl w⟩
theorem sg_add_same (s : Bool) (X Y : Nat) : sg s (X + Y) = sg s X + sg s Y := by unfold sg; cases s <;> simp <;> omega
theorem sg_add_less (s t : Bool) (X Y : Nat) (h : s ≠ t) (hl : X < Y) : sg t (Y - X) = sg s X + sg t Y := by unfold sg; cases s <;> cases t <;> simp at h ⊢ <;> omega
theorem sg_add_more (s t : Bool) (X Y : Nat) (h : s ≠ t) (hl : Y ≤ X) : sg (s && decide (0 < X - Y)) (X - Y) = sg s X + sg t Y := by
  by_cases h0 : 0 < X - Y
  · rw [decide_eq_true h0]; unfold sg; cases s <;> cases t <;> simp at h ⊢ <;> omega
  · rw [decide_eq_false h0]; unfold sg; cases s <;> cases t <;> simp at h ⊢ <;> omega
def SgP (w : World) (z : Int) (e : Ending) (w' : World) : Prop := ∃ (v : Bool) (D : Nat) (A : Option Addr) (c : Nat), sg v D = z ∧ e = .returned (.tuple #[.bool v, .slice A (wd D).length c]) ∧ Own w' w.heap.size A c (wd D) ∧ Ext w w'
set_option maxHeartbeats 1000000 in
theorem gsigned_any (s t : Bool) (A B : Option Addr) (X Y : Nat) (c d : Nat) (w : World) (ha : Rd w A c (wd X)) (hb : Rd w B d (wd Y)) (lX : (wd X).length ≤ 8191) (lY : (wd Y).length ≤ 8191) :
    Calls Tryz.prog 165 #[.bool s, .slice A (wd X).length c, .bool t, .slice B (wd Y).length d] w (SgP w (sg s X + sg t Y)) := by
  have HA := Lib.hid ha
  have HB := Lib.hid hb
  clear ha hb
  by_cases hst : s = t
  · subst hst
    have hb1 : (s == s) = true := beq_self_eq_true s
    have HZ := Lib.hid (sg_add_same s X Y)
    obtain ⟨D, hD⟩ : ∃ D, D = X + Y := ⟨_, rfl⟩
    have HC := Lib.hid (gadd_any A B X Y c d w HA.out HB.out lX lY)
    rw [← hD] at HZ HC
    clear hD
    go_enter Tryz.func165, Tryz.ntmps165
    go_wp2_with fail
    refine HC.out.mono ?_; rintro e w1 ⟨A1, c1, rfl, h1, hx1⟩
    have H1 := Lib.hid h1
    have HX1 := Lib.hid hx1
    clear h1 hx1
    go_wp2_with fail
    go_ret2
    exact ⟨s, D, A1, c1, HZ.out, rfl, H1.out, HX1.out⟩
  · have hb1 : (s == t) = false := beq_eq_false_iff_ne.2 hst
    rcases Nat.lt_or_ge X Y with hl | hl
    · have hc : cmp X Y < 0 := cmp_lt_iff.2 hl
      have HZ := Lib.hid (sg_add_less s t X Y hst hl)
      obtain ⟨D, hD⟩ : ∃ D, D = Y - X := ⟨_, rfl⟩
      have HC := Lib.hid (gsub_any B A Y X d c w HB.out HA.out (by omega) (by omega))
      rw [← hD] at HZ HC
      clear hD
      go_enter Tryz.func165, Tryz.ntmps165
      go_wp2_with fail
      refine (gcompare_any _ _ (wd X) (wd Y) _ _ _ _ X Y _ HA.out HB.out rfl rfl (wf_wd X) (wf_wd Y) (val_wd X) (val_wd Y)).mono ?_; rintro e w1 ⟨rfl, rfl⟩
      go_wp2_with fail
      refine HC.out.mono ?_; rintro e w1 ⟨A1, c1, rfl, h1, hx1⟩
      have H1 := Lib.hid h1
      have HX1 := Lib.hid hx1
      clear h1 hx1
      go_wp2_with fail
      go_ret2
      exact ⟨t, D, A1, c1, HZ.out, rfl, H1.out, HX1.out⟩
    · have hc : ¬ cmp X Y < 0 := fun h => by have := cmp_lt_iff.1 h; omega
      have HZ := Lib.hid (sg_add_more s t X Y hst hl)
      obtain ⟨D, hD⟩ : ∃ D, D = X - Y := ⟨_, rfl⟩
      have HC := Lib.hid (gsub_any A B X Y c d w HA.out HB.out hl (by omega))
      rw [← hD] at HZ HC
      have HDL := Lib.hid (show decide (0 < D) = decide (0 < (wd D).length) by
        have := @wd_len_zero D
        apply decide_eq_decide.2
        omega)
      clear hD
      cases s with
      | false =>
        go_enter Tryz.func165, Tryz.ntmps165
        go_wp2_with fail
        refine (gcompare_any _ _ (wd X) (wd Y) _ _ _ _ X Y _ HA.out HB.out rfl rfl (wf_wd X) (wf_wd Y) (val_wd X) (val_wd Y)).mono ?_; rintro e w1 ⟨rfl, rfl⟩
        go_wp2_with fail
        refine HC.out.mono ?_; rintro e w1 ⟨A1, c1, rfl, h1, hx1⟩
        have H1 := Lib.hid h1
        have HX1 := Lib.hid hx1
        clear h1 hx1
        go_wp2_with fail
        go_ret2
        exact ⟨false, D, A1, c1, HZ.out, rfl, H1.out, HX1.out⟩
      | true =>
        go_enter Tryz.func165, Tryz.ntmps165
        go_wp2_with fail
        refine (gcompare_any _ _ (wd X) (wd Y) _ _ _ _ X Y _ HA.out HB.out rfl rfl (wf_wd X) (wf_wd Y) (val_wd X) (val_wd Y)).mono ?_; rintro e w1 ⟨rfl, rfl⟩
        go_wp2_with fail
        refine HC.out.mono ?_; rintro e w1 ⟨A1, c1, rfl, h1, hx1⟩
        have H1 := Lib.hid h1
        have HX1 := Lib.hid hx1
        clear h1 hx1
        go_wp2_with fail
        go_ret2
        exact ⟨true && decide (0 < D), D, A1, c1, HZ.out, by rw [HDL.out, Bool.true_and]; rfl, H1.out, HX1.out⟩
theorem gplus_made (p q : Rat) : mkRat (sg (decide (p.num < 0)) (p.num.natAbs * q.den) + sg (decide (q.num < 0)) (q.num.natAbs * p.den)) (p.den * q.den) = p + q := by
  have h : ∀ (x : Rat) (k : Nat), sg (decide (x.num < 0)) (x.num.natAbs * k) = x.num * k := fun x k => by
    have h1 := sg_num x
    unfold sg at h1 ⊢
    split
    · rename_i hs; rw [if_pos hs] at h1; rw [Int.natCast_mul, ← Int.neg_mul, h1]
    · rename_i hs; rw [if_neg hs] at h1; rw [Int.natCast_mul, h1]
  rw [h, h, Rat.add_def']
set_option maxRecDepth 4000 in
set_option maxHeartbeats 2000000 in
theorem gadd_gen (s t : Bool) (A B C D : Option Addr) (a b a' b' : Nat) (c1 c2 c3 c4 : Nat) (w : World) (r : Rat) (ha : Rd w A c1 (wd a)) (hb : Rd w B c2 (wd b)) (hc : Rd w C c3 (wd a')) (hd : Rd w D c4 (wd b')) (hb0 : b ≠ 0) (hb0' : b' ≠ 0)
    (la : (wd a).length ≤ 2048) (lb : (wd b).length ≤ 2048) (la' : (wd a').length ≤ 2048) (lb' : (wd b').length ≤ 2048)
    (hr : mkRat (sg s (a * b') + sg t (a' * b)) (b * b') = r) :
    Calls Tryz.prog 140 #[.agg #[.bool s, .slice A (wd a).length c1, .slice B (wd b).length c2], .agg #[.bool t, .slice C (wd a').length c3, .slice D (wd b').length c4]] w (RatP w (tell r)) := by
  have lX := wd_len_mul a b'
  have lY := wd_len_mul a' b
  have lZ := wd_len_mul b b'
  have hZ0 : b * b' ≠ 0 := Nat.mul_ne_zero hb0 hb0'
  obtain ⟨X, hX⟩ : ∃ X, X = a * b' := ⟨_, rfl⟩
  obtain ⟨Y, hY⟩ : ∃ Y, Y = a' * b := ⟨_, rfl⟩
  obtain ⟨Z, hZ⟩ : ∃ Z, Z = b * b' := ⟨_, rfl⟩
  have HT1 := Lib.hid (fun wx x1 x2 => gtimes3_any A D a b' c1 c4 wx x1 x2 (by omega))
  have HT2 := Lib.hid (fun wx x1 x2 => gtimes3_any C B a' b c3 c2 wx x1 x2 (by omega))
  have HT3 := Lib.hid (fun wx x1 x2 => gtimes3_any B D b b' c2 c4 wx x1 x2 (by omega))
  rw [← hX] at lX HT1
  rw [← hY] at lY HT2
  rw [← hZ] at lZ hZ0 HT3
  rw [← hX, ← hY, ← hZ] at hr
  have HR := Lib.hid hr
  have HA := Lib.hid ha
  have HB := Lib.hid hb
  have HC := Lib.hid hc
  have HD := Lib.hid hd
  clear hX hY hZ hr ha hb hc hd hb0 hb0'
  obtain ⟨tt, htt⟩ : ∃ tt, tt = tell r := ⟨_, rfl⟩
  have HT := Lib.hid htt.symm
  clear htt
  go_enter Tryz.func140, Tryz.ntmps140
  go_wp2_with fail
  have HX := Lib.hid ((((Ext.refl w).alloc (.cells #[.bool s, .slice A (wd a).length c1, .slice B (wd b).length c2] 26)).alloc (.cells #[.bool t, .slice C (wd a').length c3, .slice D (wd b').length c4] 26)).alloc (.cells #[.bool false, .slice none 0 0, .slice none 0 0] 26))
  obtain ⟨W, hW⟩ : ∃ W, W = (((w.alloc (.cells #[.bool s, .slice A (wd a).length c1, .slice B (wd b).length c2] 26)).alloc (.cells #[.bool t, .slice C (wd a').length c3, .slice D (wd b').length c4] 26)).alloc (.cells #[.bool false, .slice none 0 0, .slice none 0 0] 26)) := ⟨_, rfl⟩
  have F0 : Six W w.heap.size (.bool s) (.slice A (wd a).length c1) (.slice B (wd b).length c2) (.bool t) (.slice C (wd a').length c3) (.slice D (wd b').length c4) := by rw [hW]; refine ⟨?_, ?_, ?_, ?_, ?_, ?_⟩ <;> simp [go_sem]
  have R0 : W.cell? ⟨w.heap.size + 2, 0, none⟩ = some (.bool false) ∧ W.cell? ⟨w.heap.size + 2, 1, none⟩ = some (.slice none 0 0) ∧ W.cell? ⟨w.heap.size + 2, 2, none⟩ = some (.slice none 0 0) := by rw [hW]; refine ⟨?_, ?_, ?_⟩ <;> simp [go_sem]
  have Z0 : W.heap.size = w.heap.size + 3 := by rw [hW]; simp
  have RF : ∀ o, W.frozen? ⟨w.heap.size + 2, o, none⟩ = false := by intro o; rw [hW]; simp [go_sem]
  rw [← hW] at HX
  have HR0 := Lib.hid R0
  have HRF := Lib.hid RF
  have HZ0 := Lib.hid Z0
  try rw [← hW]
  clear hW R0 RF Z0
  go_region_held3 (fun w' => w'.cell? ⟨w.heap.size, 0, none⟩ = some (.bool s) ∧ w'.cell? ⟨w.heap.size, 1, none⟩ = some (.slice A (wd a).length c1) ∧ w'.cell? ⟨w.heap.size, 2, none⟩ = some (.slice B (wd b).length c2) ∧ w'.cell? ⟨w.heap.size + 1, 0, none⟩ = some (.bool t) ∧ w'.cell? ⟨w.heap.size + 1, 1, none⟩ = some (.slice C (wd a').length c3) ∧ w'.cell? ⟨w.heap.size + 1, 2, none⟩ = some (.slice D (wd b').length c4)) (repeat (first | (with_reducible exact F0) | (with_reducible exact F1) | (with_reducible exact F2) | (with_reducible exact F3) | (with_reducible refine six_drew ?_)))
    (first
      | (go_at_call 166; with_reducible refine (HT1.out _ (HA.out.ext HX.out.drew) (HD.out.ext HX.out.drew)).mono ?_; rintro e w1 ⟨A1, d1, rfl, k1, hx1⟩; have K1 := Lib.hid k1; have HX1 := Lib.hid hx1; have F1 := six_ext hx1 (six_drew F0); clear k1 hx1)
      | (go_at_call 166; with_reducible refine (HT2.out _ (HC.out.ext (HX.out.drew.trans HX1.out)) (HB.out.ext (HX.out.drew.trans HX1.out))).mono ?_; rintro e w2 ⟨A2, d2, rfl, k2, hx2⟩; have K2 := Lib.hid k2; have HX2 := Lib.hid hx2; have F2 := six_ext hx2 F1; clear k2 hx2)
      | (go_at_call 165; (with_reducible refine (gsigned_any s t A1 A2 X Y d1 d2 w2 (K1.out.rd.ext HX2.out) K2.out.rd (by omega) (by omega)).mono ?_); rintro e w3 ⟨v, N, A3, d3, hz, rfl, k3, hx3⟩; have HZV := Lib.hid hz; have K3 := Lib.hid k3; have HX3 := Lib.hid hx3; have F3 := six_ext hx3 F2; clear hz k3 hx3))
  all_goals
    have HXa := Lib.hid (show Ext W w3 from (((Ext.refl W).drew.trans HX1.out).trans HX2.out).trans HX3.out)
    have hNl : (wd N).length ≤ 8192 := by
      have h1 : N ≤ X + Y := by
        have := HZV.out
        unfold sg at this
        split at this <;> split at this <;> (try split at this) <;> omega
      have h2 := wd_len_mono h1
      have h3 := wd_len_add X Y
      omega
    clear F0 F1 F2
    obtain ⟨u0, u1, u2, v0, v1, v2⟩ := id F3
    go_wp2_with fail
    refine (HT3.out _ (HB.out.ext (HX.out.trans HXa.out)) (HD.out.ext (HX.out.trans HXa.out))).mono ?_
    rintro e w4 ⟨A4, d4, rfl, k4, hx4⟩
    have K4 := Lib.hid k4
    have HX4 := Lib.hid (HXa.out.trans hx4)
    have KN := Lib.hid (K3.out.ext hx4)
    clear k4 hx4 F3
    go_wp2_with fail
    refine (gof3_any v A3 A4 N Z d3 d4 _ KN.out.rd K4.out.rd hZ0 hNl (by omega)).mono ?_
    rw [HZV.out, HR.out, HT.out]
    rintro e w5 ⟨A5, d5, B5, e5, rfl, k5, k6, k7, hx5⟩
    have K5 := Lib.hid (k5.lower (show w.heap.size + 3 ≤ w4.heap.size by have := HX4.out.size; have := HZ0.out; omega))
    have K6 := Lib.hid (k6.lower (show w.heap.size + 3 ≤ w4.heap.size by have := HX4.out.size; have := HZ0.out; omega))
    have K7 := Lib.hid k7
    have HX5 := Lib.hid (HX4.out.trans hx5)
    have HXw := Lib.hid (HX.out.trans HX5.out)
    have r0 := HX5.out.cell HR0.out.1
    have r1 := HX5.out.cell HR0.out.2.1
    have r2 := HX5.out.cell HR0.out.2.2
    have f0 := (HX5.out.frozen HR0.out.1).trans (HRF.out 0)
    have f1 := (HX5.out.frozen HR0.out.2.1).trans (HRF.out 1)
    have f2 := (HX5.out.frozen HR0.out.2.2).trans (HRF.out 2)
    clear k5 k6 k7 hx5 u0 u1 u2 v0 v1 v2
    go_wp2_with fail
    exact bodyPost_ret (v := .tuple #[.agg #[.bool tt.1.neg, .slice A5 tt.1.num.length d5, .slice B5 tt.1.den.length e5], .int .i64 tt.2]) (by simp [results, Tryz.results140, go_sem, r0, r1, r2]) rfl (RatP.mk HT.out rfl (by refine Own.lower ?_ (show w.heap.size ≤ w.heap.size + 3 by omega); repeat (first | (with_reducible exact K5.out) | refine Own.setBelow ?_ (by simp; try omega) _)) (by refine Own.lower ?_ (show w.heap.size ≤ w.heap.size + 3 by omega); repeat (first | (with_reducible exact K6.out) | refine Own.setBelow ?_ (by simp; try omega) _)) K7.out (by repeat (first | (with_reducible exact HXw.out) | refine Ext.setCell ?_ (by simp; try omega) _)))
end Go.Proofs.YtakaehdolpmelaaGreat
