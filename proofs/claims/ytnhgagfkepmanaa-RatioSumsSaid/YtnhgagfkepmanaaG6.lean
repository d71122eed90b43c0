/- The reference's Over. -/
import Derived.Test.YtnhgagfkepmanaaG5
namespace Go.Proofs.Ytnhgagfkepmanaa
open Go Go.RowKit

/-- what Over leaves: two rows that are new -/
def Pair (w : World) (x y : Nat) (e : Ending) (w' : World) : Prop := ∃ A c B d, e = .returned (.tuple #[.slice A (wd x).length c, .slice B (wd y).length d]) ∧ Own w' w.heap.size A c (wd x) ∧ Own w' w.heap.size B d (wd y) ∧ Ext w w'

set_option maxHeartbeats 1000000 in
theorem gover_less (A B : Option Addr) (m n c d : Nat) (w : World) (ha : Rd w A c (wd m)) (hb : Rd w B d (wd n)) (hlt : m < n) (lm : (wd m).length ≤ 8192) (Q R : Nat) (hQ : m / n = Q) (hR : m % n = R) :
    Calls Try.prog 79 #[.slice A (wd m).length c, .slice B (wd n).length d] w (Pair w Q R) := by
  have hd : 0 = Q := by rw [← hQ, Nat.div_eq_of_lt hlt]
  have hr : m = R := by rw [← hR, Nat.mod_eq_of_lt hlt]
  subst hd
  subst hr
  have HA := Lib.hid ha
  have HB := Lib.hid hb
  have hc : cmp m n < 0 := cmp_lt_iff.2 hlt
  clear ha hb hQ hR
  go_enter Try.func79, Try.ntmps79
  go_wp2_with fail
  refine (gcompare_any _ _ (wd m) (wd n) _ _ _ _ m n _ HA.out HB.out rfl rfl (wf_wd m) (wf_wd n) (val_wd m) (val_wd n)).mono ?_; rintro e w1 ⟨rfl, rfl⟩
  go_wp2_with fail
  refine (gtrim_any _ _ _ _ m _ HA.out rfl (wf_wd m) (val_wd m) (by omega)).mono ?_; rintro e w2 ⟨A2, c2, rfl, hO2, hx2⟩
  have HX2 := Lib.hid hx2
  have HO2 := Lib.hid hO2
  clear hx2 hO2
  go_wp2_with fail
  go_ret2
  exact ⟨none, 0, A2, c2, by rw [show (wd 0).length = 0 by rw [wd_zero]; rfl]; rfl, by rw [wd_zero]; exact Own.nil _ _, HO2.out, HX2.out⟩

set_option maxHeartbeats 1000000 in
theorem gover_one (A B : Option Addr) (m n c d : Nat) (w : World) (ha : Rd w A c (wd m)) (hb : Rd w B d (wd n)) (hge : n ≤ m) (hn : (wd n).length = 1) (lm : (wd m).length ≤ 8192) (Q R : Nat) (hQ : m / n = Q) (hR : m % n = R) :
    Calls Try.prog 79 #[.slice A (wd m).length c, .slice B (wd n).length d] w (Pair w Q R) := by
  have HA := Lib.hid ha
  have HB := Lib.hid hb
  have hc : ¬ cmp m n < 0 := fun h => by have := cmp_lt_iff.1 h; omega
  have hn0 : n ≠ 0 := fun e => by have := wd_len_zero.2 e; omega
  have hn1 : n < 4294967296 := by have := nat_lt_of_len n 1 (by omega); rw [show pw 1 = 4294967296 from rfl] at this; omega
  have hword : nth (wd n) 0 = n := by rw [wd_pos n hn0, nth_cons_zero]; omega
  have hl1 : (((wd n).length : Int) == 1) = true := by rw [hn]; rfl
  have hp : 0 < (wd n).length := by omega
  obtain ⟨b, rfl, hcb⟩ := hb.at_ 0 hp
  rw [hword, add0] at hcb
  have hRl : R < 4294967296 := by rw [← hR]; exact Nat.lt_trans (Nat.mod_lt _ (by omega)) hn1
  have HN := Lib.hid hn
  have HQ := Lib.hid hQ
  have HR := Lib.hid hR
  clear ha hb hword hn hQ hR
  go_enter Try.func79, Try.ntmps79
  go_wp2_with fail
  refine (gcompare_any _ _ (wd m) (wd n) _ _ _ _ m n _ HA.out HB.out rfl rfl (wf_wd m) (wf_wd n) (val_wd m) (val_wd n)).mono ?_; rintro e w1 ⟨rfl, rfl⟩
  go_wp2_with fail
  refine (gsmall_any _ m n _ _ HA.out (by omega) hn1 (by omega) Q R HQ.out HR.out).mono ?_; rintro e w2 ⟨A2, c2, rfl, hO2, hx2⟩
  have HX2 := Lib.hid hx2
  have HO2 := Lib.hid hO2
  clear hx2 hO2
  go_wp2_with fail
  refine (gof_any R _ (by omega)).mono ?_; rintro e w3 ⟨A3, c3, rfl, hO3, hx3⟩
  have HX3 := Lib.hid hx3
  have HO3 := Lib.hid hO3
  clear hx3 hO3
  go_wp2_with fail
  go_ret2
  exact ⟨A2, c2, A3, c3, rfl, HO2.out.ext HX3.out, HO3.out.lower HX2.out.size, HX2.out.trans HX3.out⟩

theorem Own.some_ {w : World} {base : Nat} {A : Option Addr} {c : Nat} {xs : List Int} (h : Own w base A c xs) (hp : 0 < xs.length) : ∃ g, A = some ⟨g, 0, none⟩ ∧ base ≤ g ∧ g < w.heap.size := by
  rcases h.cases with ⟨_, _, rfl⟩ | ⟨g, cur, h1, h2, h3, _⟩
  · exact absurd hp (Nat.lt_irrefl 0)
  · exact ⟨g, h1, h2, (Array.getElem?_eq_some_iff.1 h3).1⟩
theorem val_append0 (xs : List Int) : val (xs ++ [0]) = val xs := by
  unfold val
  rw [List.length_append, List.length_singleton, V_succ]
  have h1 : nth (xs ++ [0]) xs.length = 0 := by simp [nth]
  rw [h1, Int.zero_mul, Int.add_zero]
  exact V_congr _ fun j hj => by simp [nth, List.getElem?_append_left hj]

theorem over_begin (M D P L Lq : Nat) (hP : (wd M).length = P) (hL : 1 ≤ L) (hLP : L ≤ P + 1) (hLq : P + 1 - L = Lq) (ht : 2147483648 * pw (L - 1) ≤ (D : Int)) : (M : Int) < (D : Int) * pw Lq := by
  have h1 := wd_lt_pw M
  rw [hP] at h1
  have h2 : pw P = pw (L - 1) * pw Lq := by rw [← pw_add]; congr 1; omega
  have h3 : pw (L - 1) * pw Lq ≤ (D : Int) * pw Lq := Int.mul_le_mul_of_nonneg_right (by have := pw_pos (L - 1); omega) (Int.le_of_lt (pw_pos _))
  omega

theorem bits_norm (t j : Nat) (h0 : 0 < j) (h1 : j ≤ 32) (h2 : 2 ^ (j - 1) ≤ t) (h3 : t < 2 ^ j) : 2147483648 ≤ t * 2 ^ (32 - j) ∧ t * 2 ^ (32 - j) < 4294967296 := by
  have e1 : 2 ^ (j - 1) * 2 ^ (32 - j) = 2147483648 := by rw [← Nat.pow_add, show j - 1 + (32 - j) = 31 by omega]
  have e2 : 2 ^ j * 2 ^ (32 - j) = 4294967296 := by rw [← Nat.pow_add, show j + (32 - j) = 32 by omega]
  constructor
  · rw [← e1]; exact Nat.mul_le_mul_right _ h2
  · rw [← e2]; exact Nat.mul_lt_mul_of_pos_right h3 (Nat.pow_pos (by omega))

set_option maxHeartbeats 4000000 in
theorem gover_long (A B : Option Addr) (m n c d : Nat) (w : World) (ha : Rd w A c (wd m)) (hb : Rd w B d (wd n)) (hge : n ≤ m) (hn : 2 ≤ (wd n).length) (lm : (wd m).length ≤ 8192) (Q R : Nat) (hQ : m / n = Q) (hR : m % n = R) :
    Calls Try.prog 79 #[.slice A (wd m).length c, .slice B (wd n).length d] w (Pair w Q R) := by
  have HA := Lib.hid ha
  have HB := Lib.hid hb
  have hc : ¬ cmp m n < 0 := fun h => by have := cmp_lt_iff.1 h; omega
  have hn0 : n ≠ 0 := fun e => by have := wd_len_zero.2 e; omega
  have hl1 : (((wd n).length : Int) == 1) = false := beq_eq_false_iff_ne.2 (by omega)
  have hlm := wd_len_mono hge
  obtain ⟨K, hK⟩ : ∃ K, (wd n).length = K + 1 := ⟨(wd n).length - 1, by omega⟩
  obtain ⟨t, ht⟩ := Int.eq_ofNat_of_zero_le (nth_wf (wf_wd n) K).1
  have HT := Lib.hid ht
  have HK := Lib.hid hK
  have HQ := Lib.hid hQ
  have HR := Lib.hid hR
  clear ha hb hK ht hQ hR
  go_enter Try.func79, Try.ntmps79
  go_wp2_with fail
  refine (gcompare_any _ _ (wd m) (wd n) _ _ _ _ m n _ HA.out HB.out rfl rfl (wf_wd m) (wf_wd n) (val_wd m) (val_wd n)).mono ?_; rintro e w1 ⟨rfl, rfl⟩
  go_wp2_with fail
  refine (gbits_any _ n t K _ _ HB.out HK.out HT.out (by omega)).mono ?_; rintro e w2 ⟨j, hj0, hj1, hj2, hj3, rfl, hx2⟩
  have hbn := bits_norm t j hj0 hj1 hj2 hj3
  obtain ⟨s, hs⟩ : ∃ s, s = 32 - j := ⟨_, rfl⟩
  rw [← hs] at hbn
  have hnw := norm_words n s (K + 1) hn0 HK.out (by rw [show K + 1 - 1 = K from rfl, HT.out]; exact hbn.1) (by rw [show K + 1 - 1 = K from rfl, HT.out]; exact hbn.2)
  have hs31 : s ≤ 31 := by omega
  have es : (32 : Int) * ((wd n).length : Int) - ((32 * K + j : Nat) : Int) = (s : Int) := by have := HK.out; omega
  obtain ⟨D, hD⟩ : ∃ D, D = n * 2 ^ s := ⟨_, rfl⟩
  rw [← hD] at hnw
  have HD := Lib.hid hD
  have HNW := Lib.hid hnw
  have HX2 := Lib.hid hx2
  obtain ⟨bb, hbb⟩ : ∃ bb : Nat, bb = 32 * K + j := ⟨_, rfl⟩
  rw [← hbb] at es ⊢
  have hbb1 : bb ≤ 32 * 8192 := by have := HK.out; omega
  clear hnw hD hx2 hj2 hj3 hbn hs hbb hj0 hj1
  go_wp2_with fail
  try rw [es]
  refine (gup_any _ n s _ _ (HB.out.ext HX2.out) (by omega) hs31 (by omega)).mono ?_
  rw [← HD.out]
  rintro e w3 ⟨g1, cv, rfl, hO3, hx3⟩
  have HX3 := Lib.hid (HX2.out.trans hx3)
  have HOv := Lib.hid (hO3.lower HX2.out.size)
  have HOv' := Lib.hid hO3
  clear hx3 hO3
  go_wp2_with fail
  refine (gup_any _ m s _ _ (HA.out.ext HX3.out) (by omega) hs31 (by omega)).mono ?_
  obtain ⟨M, hM⟩ : ∃ M, M = m * 2 ^ s := ⟨_, rfl⟩
  rw [← hM]
  have HMM := Lib.hid hM
  clear hM
  rintro e w4 ⟨A4, c4, rfl, hO4, hx4⟩
  have HX4 := Lib.hid (HX3.out.trans hx4)
  have HO4 := Lib.hid hO4
  have HOv := Lib.hid (HOv.out.ext hx4)
  have HVB := Lib.hid (show ∀ a, g1 = some a → a.block < w3.heap.size from fun a e => by subst e; exact HOv'.out.block.2)
  have hx34 := hx4.size
  clear hx4 hO4
  have hMl : (wd M).length ≤ 8193 := by
    have h1 := wd_len_mul m (2 ^ s)
    have h2 : (wd (2 ^ s)).length ≤ 1 := wd_len_le _ 1 (by
      have : 2 ^ s < 2 ^ 32 := Nat.pow_lt_pow_right (by omega) (by omega)
      rw [show pw 1 = 4294967296 from rfl]
      omega)
    rw [← HMM.out] at h1
    omega
  have hml : (wd n).length ≤ (wd M).length := by
    have h1 : n ≤ M := by
      rw [HMM.out]
      exact Nat.le_trans hge (Nat.le_mul_of_pos_right _ (Nat.pow_pos (by omega)))
    exact wd_len_mono h1
  obtain ⟨P, hP⟩ : ∃ P, (wd M).length = P := ⟨_, rfl⟩
  rw [hP] at hMl hml ⊢
  have HP := Lib.hid hP
  clear hP
  have hdl : (wd D).length = K + 1 := HNW.out.2.1
  have hKP : K + 1 ≤ P := by have := HK.out; omega
  have hK1 : 1 ≤ K := by have := HK.out; omega
  obtain ⟨L, hL⟩ : ∃ L, L = K + 1 := ⟨_, rfl⟩
  rw [← hL] at hdl hKP
  rw [hdl]
  have HL := Lib.hid hL
  have HDL := Lib.hid hdl
  have hL2 : 2 ≤ L := by omega
  clear hL hdl
  obtain ⟨Lq, hLq⟩ : ∃ Lq, P + 1 - L = Lq := ⟨_, rfl⟩
  have hle : L ≤ P + 1 := by omega
  go_wp2_with (first | (at_make; refine wpList_mk rfl _ _ rfl Lq _ _ rfl rfl (by rw [← hLq]; omega) (by rw [← hLq]; omega) (by omega) ?_; intro w6 hO6 hG6) | (at_builtin; refine wpList_app rfl _ _ rfl w3.heap.size A4 c4 (wd M) P HP.out rfl (HO4.out.ext ((Ext.refl w4).alloc _)) _ _ [0] 1 rfl rfl (Own.lit w4 _ [0] rfl (by decide)).rd (by omega) (by have := HX4.out.size; have := hx34; simp; omega) ?_; intro A5 c5 w5 hO5 hg5))
  obtain ⟨g2, rfl, hg2, hg2'⟩ := hO5.some_ (by simp)
  have HX5 := Lib.hid (show Ext w w5 from ((HX4.out.alloc _).grown hg5 (fun k hk => by
    cases A4 with
    | none => cases hk
    | some a => cases hk; exact Nat.le_trans HX3.out.size HO4.out.block.1)))
  have HOv := Lib.hid (show Own w5 w.heap.size g1 cv (wd D) from (HOv.out.ext ((Ext.refl w4).alloc _)).kept hg5 (fun a ha e => by
    have h1 := HVB.out a ha
    cases A4 with
    | none => cases e
    | some a4 => injection e with e; have e' : a.block = a4.block := e; have h2 := HO4.out.block.1; omega))
  have HAp : Hid (∀ b, g1 = some b → b.block ≠ g2) := fun b hb e => by have := HVB.out b hb; omega
  have HOu := Lib.hid (hO5.lower HX3.out.size)
  have HB2 := Lib.hid (show w.heap.size ≤ g2 from Nat.le_trans HX3.out.size hg2)
  have HUL := Lib.hid (show (wd M ++ [0]).length = P + 1 by rw [List.length_append, HP.out]; rfl)
  have HUW := Lib.hid (show Wf (wd M ++ [0]) from fun x hx => by
    rcases List.mem_append.1 hx with h | h
    · exact wf_wd M x h
    · rw [List.mem_singleton.1 h]; omega)
  have HUV := Lib.hid (show val (wd M ++ [0]) = (M : Int) by rw [val_append0, val_wd])
  obtain ⟨us0, hus⟩ : ∃ us0, us0 = wd M ++ [0] := ⟨_, rfl⟩
  rw [← hus] at HOu HUL HUW HUV
  clear hus hO5 hg5 hg2 hg2' HO4 HVB HOv' hx34
  have HOq := Lib.hid hO6
  have HAq := Lib.hid (show g2 ≠ w5.heap.size from fun e => by have := HOu.out.block.2; simp only at this; omega)
  have HAr : Hid (∀ b, g1 = some b → b.block ≠ w5.heap.size) := fun b hb e => by subst hb; have := HOv.out.block.2; omega
  have HX6 := Lib.hid (HX5.out.trans hG6)
  have HQB := Lib.hid HX5.out.size
  have HOu := Lib.hid (HOu.out.ext hG6)
  have HOv := Lib.hid (HOv.out.ext hG6)
  have HBeg := Lib.hid (over_begin M D P L Lq HP.out (by omega) hle hLq (by have := HNW.out.1; rw [HL.out]; exact this))
  have HLQ := Lib.hid hLq
  clear hO6 hG6 hLq HX5
  generalize hgq : w5.heap.size = gq at *
  clear hgq HX3 HX4 HT
  have HM := Lib.hid (show (D : Int) < pw L from by have := wd_lt_pw D; rw [HDL.out] at this; exact this)
  have hc5 : P + 1 ≤ c5 := by have := HOu.out.rd.cap; rw [HUL.out] at this; exact this
  have hc5m : c5 ≤ 9223372036854775807 := HOu.out.rd.capm
  have hB0 : 0 < L := by omega
  go_wp2_with fail
  go_loopw [12] (fun i wr => ∃ (k : Nat) (us qs : List Int), k ≤ Lq ∧ Hid (us.length = P + 1) ∧ Hid (qs.length = Lq) ∧ Hid (Wf us) ∧ Hid (Wf qs) ∧ Hid ((D : Int) * val qs + val us = (M : Int)) ∧ Hid (val us < (D : Int) * pw k) ∧ Hid (∀ j, j < k → nth qs j = 0) ∧ i = .int .i64 ((k : Int) - 1) ∧ Hid (Own wr w.heap.size (some ⟨g2, 0, none⟩) c5 us) ∧ Hid (Own wr w.heap.size (some ⟨gq, 0, none⟩) Lq qs) ∧ Hid (Own wr w.heap.size g1 cv (wd D)) ∧ Hid (Ext w wr)) (fun i _ => (intOf i + 1).toNat)
  case atStart => exact ⟨Lq, us0, List.replicate Lq 0, by omega, HUL.out, List.length_replicate, HUW.out, wf_zeros _, by show _ = _; rw [show val (List.replicate Lq 0) = 0 from V_zeros _ _, Int.mul_zero, Int.zero_add]; exact HUV.out, by show _ < _; rw [HUV.out]; exact HBeg.out, fun j _ => nth_zeros _ _, rfl, HOu.out, HOq.out.lower HQB.out, HOv.out, HX6.out⟩
  case round =>
    clear HOu HOq HOv HX6 HUL HUW HUV HBeg
    obtain ⟨k, us, qs, hk, HUL, HQL, HW, HQW, HE, HB', HZ, rfl, HOu, HOq, HOv, HX⟩ := hrel
    cases k with
    | zero =>
      obtain ⟨vq, hvq⟩ := Int.eq_ofNat_of_zero_le HQW.out.val_nonneg
      obtain ⟨vu, hvu⟩ := Int.eq_ofNat_of_zero_le HW.out.val_nonneg
      have hend := div_end m n s vq vu (by omega) (by have := HE.out; rw [hvq, hvu, HD.out, HMM.out] at this; exact this) (by have := HB'.out; rw [hvu, pw_zero, HD.out] at this; omega)
      have hll : (wd vu).length ≤ 8193 := by
        have h1 : vu ≤ D := by have := HB'.out; rw [hvu, pw_zero] at this; omega
        have h2 := wd_len_mono h1
        rw [HDL.out] at h2
        omega
      have HVQ := Lib.hid hvq
      have HVU := Lib.hid hvu
      obtain rfl : vq = Q := hend.1.trans HQ.out
      have HRR := Lib.hid (hend.2.trans HR.out)
      clear hvq hvu hend
      go_wp2_with fail
      refine (gtrim_any (some ⟨gq, 0, none⟩) qs Lq Lq vq _ HOq.out.rd HQL.out HQW.out HVQ.out (by have := HLQ.out; omega)).mono ?_; rintro e w7 ⟨A7, c7, rfl, h7, hx7⟩
      have HO7 := Lib.hid h7
      have HX7 := Lib.hid hx7
      clear h7 hx7
      go_wp2_with fail
      refine (gtrim_any (some ⟨g2, 0, none⟩) us c5 (P + 1) vu _ (HOu.out.ext HX7.out).rd HUL.out HW.out HVU.out (by omega)).mono ?_; rintro e w8 ⟨A8, c8, rfl, h8, hx8⟩
      have HO8 := Lib.hid h8
      have HX8 := Lib.hid hx8
      clear h8 hx8
      go_wp2_with fail
      refine (gdown_any _ vu s _ _ HO8.out.rd hs31 hll R HRR.out).mono ?_; rintro e w9 ⟨A9, c9, rfl, h9, hx9⟩
      have HO9 := Lib.hid h9
      have HX9 := Lib.hid hx9
      clear h9 hx9
      go_wp2_with fail
      go_ret2
      exact ⟨A7, c7, A9, c9, rfl, (HO7.out.ext (HX8.out.trans HX9.out)).lower HX.out.size, HO9.out.lower (HX.out.trans (HX7.out.trans HX8.out)).size, HX.out.trans (HX7.out.trans (HX8.out.trans HX9.out))⟩
    | succ k =>
      have e1 : (((k + 1 : Nat) : Int) - 1) = (k : Int) := by omega
      rw [e1]
      clear e1
      have hkL : k + (L + 1) ≤ P + 1 := by have := HLQ.out; omega
      have hgu := part_lt us k L D HW.out (by rw [HUL.out]; exact hkL) HB'.out
      obtain ⟨mm, hmm⟩ := Int.eq_ofNat_of_zero_le (Vo_bd HW.out k (L + 1)).1
      rw [hmm] at hgu
      have HMV := Lib.hid hmm
      have HGU := Lib.hid (show mm < D * 4294967296 by omega)
      clear hgu hmm
      go_wp2_with fail
      rw [show k + L + 1 - k = L + 1 by omega]
      have hdg := gdigit_any g1 us g2 k c5 (c5 - k) cv K w.heap.size mm D wr HOu.out HOv.out.rd (by rw [HUL.out]; have := HL.out; omega) HW.out (by rw [show K + 2 = L + 1 by have := HL.out; omega]; exact HMV.out) (by rw [HDL.out]; exact HL.out) HGU.out (by rw [HDL.out]; have := HL.out; have := HK.out; omega) (by have := HL.out; omega) (by omega) HAp.out L HL.out
      refine hdg.mono ?_
      clear hdg
      rintro e wo ⟨us1, x, rfl, hx1, rfl, hul1, hw1, hv1, hs1, ho1, hg1⟩
      have HOq2 := Lib.hid (HOq.out.kept hg1 (fun a ha e => by cases ha; injection e with e; exact HAq.out e.symm))
      have HOv2 := Lib.hid (HOv.out.kept hg1 (fun a ha e => by injection e with e; exact HAp.out a ha e))
      have HX2 := Lib.hid (HX.out.grown hg1 (fun k hk => by cases hk; exact HB2.out))
      have HOu2 := Lib.hid ho1
      clear hg1 ho1 HOu HOq HOv HX
      have hco := HOq2.out.cell k (by rw [HQL.out]; omega)
      have hfo := HOq2.out.free k
      rw [HZ.out k (by omega)] at hco
      rw [show K + 2 = L + 1 by have := HL.out; omega] at hv1 hs1
      have hpo := part_off us us1 k L D ((mm / D : Nat) : Int) HW.out (by rw [HUL.out]; exact hkL) hul1 HM.out HB'.out hs1 (by rw [hv1, HMV.out]; have := Nat.div_add_mod mm D; rw [← Int.natCast_mul, Nat.mul_comm]; omega) (by rw [hv1]; have := Nat.mod_lt mm (show 0 < D by have := HGU.out; omega); omega)
      obtain ⟨x, hx⟩ : ∃ x, mm / D = x := ⟨_, rfl⟩
      rw [hx] at hpo hx1 ⊢
      have HUL2 := Lib.hid (hul1.trans HUL.out)
      have HW2 := Lib.hid hw1
      have HB2' := Lib.hid hpo.2
      have HE2 := Lib.hid (q_round qs k x D _ _ _ (by rw [HQL.out]; omega) (HZ.out k (by omega)) HE.out hpo.1)
      clear hpo hul1 hw1 hv1 hs1 hx
      go_wp2_with fail
      go_roundw
      case rel => exact ⟨k, us1, qs.set k (x : Int), by omega, HUL2.out, by unfold Hid; rw [List.length_set]; exact HQL.out, HW2.out, wf_set HQW.out _ _ (by omega) (by omega), HE2.out, HB2'.out, fun j hj => by rw [nth_set_ne _ _ _ _ (by omega)]; exact HZ.out j (by omega), rfl, (HOu2.out.kept (HOq2.out.set k _).2 (fun a ha e => by cases ha; injection e with e; exact HAq.out e)), (HOq2.out.set k _).1, (HOv2.out.kept (HOq2.out.set k _).2 (fun a ha e => by injection e with e; exact HAr.out a ha e)), HX2.out.setCell HQB.out _⟩
      case measure => simp [intOf]

theorem gover_any (A B : Option Addr) (m n c d : Nat) (w : World) (ha : Rd w A c (wd m)) (hb : Rd w B d (wd n)) (hn : n ≠ 0) (lm : (wd m).length ≤ 8192) (Q R : Nat) (hQ : m / n = Q) (hR : m % n = R) :
    Calls Try.prog 79 #[.slice A (wd m).length c, .slice B (wd n).length d] w (Pair w Q R) := by
  rcases Nat.lt_or_ge m n with h | h
  · exact gover_less A B m n c d w ha hb h lm Q R hQ hR
  · have h0 : (wd n).length ≠ 0 := fun e => hn (wd_len_zero.1 e)
    rcases Nat.lt_or_ge 1 (wd n).length with h1 | h1
    · exact gover_long A B m n c d w ha hb h h1 lm Q R hQ hR
    · exact gover_one A B m n c d w ha hb h (by omega) lm Q R hQ hR

end Go.Proofs.Ytnhgagfkepmanaa
