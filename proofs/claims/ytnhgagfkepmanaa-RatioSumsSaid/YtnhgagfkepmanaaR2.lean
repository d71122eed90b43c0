/- whole.Check, ratio.size, ratio.Small, ratio.Make. -/
import Derived.Test.YtnhgagfkepmanaaR1
namespace Go.Proofs.Ytnhgagfkepmanaa
open Go Go.RowKit

/-- whole.Check's answer -/
def wchk (s : Bool) (xs : List Int) : Int := if 2048 < xs.length then 3 else if xs ≠ [] ∧ nth xs (xs.length - 1) = 0 then 11 else if xs = [] ∧ s = true then 11 else 0

set_option maxHeartbeats 1000000 in
theorem wcheck_any (s : Bool) (A : Option Addr) (xs : List Int) (c : Nat) (w : World) (h : Rd w A c xs) :
    Calls Try.prog 20 #[.agg #[.bool s, .slice A xs.length c]] w fun e w' => e = .returned (.int .i64 (wchk s xs)) ∧ Ext w w' := by
  have hl := h.lim
  have HA := Lib.hid h
  have HX := Lib.hid ((Ext.refl w).alloc (.cells #[.bool s, .slice A xs.length c] 24))
  clear h
  by_cases h1 : 2048 < xs.length
  · have HE := Lib.hid (show wchk s xs = 3 from if_pos h1)
    rw [HE.out]
    go_enter Try.func20, Try.ntmps20
    go_wp2
    go_ret
    exact ⟨rfl, HX.out⟩
  · by_cases h0 : xs.length = 0
    · have hnil := List.eq_nil_of_length_eq_zero h0
      have HE := Lib.hid (show wchk s xs = if s = true then 11 else 0 by
        unfold wchk; rw [if_neg h1, if_neg (fun h => h.1 hnil)]; simp [hnil])
      rw [HE.out]
      have hb : ((xs.length : Int) == 0) = true := beq_iff_eq.2 (by omega)
      have hp : ¬ (0 < xs.length) := by omega
      clear h0 hnil HE
      cases s
      all_goals
        go_enter Try.func20, Try.ntmps20
        go_wp2
        go_ret
        exact ⟨rfl, HX.out⟩
    · obtain ⟨k, hk⟩ := Nat.exists_eq_succ_of_ne_zero h0
      obtain ⟨a, rfl, hcell⟩ := (HA.out.ext HX.out).at_ k (by omega)
      have hne : xs ≠ [] := fun e => h0 (by rw [e]; rfl)
      have hb : ((xs.length : Int) == 0) = false := beq_eq_false_iff_ne.2 (by omega)
      have hp : 0 < xs.length := by omega
      have hi : ((xs.length : Int) - 1).toNat = k := by omega
      have hkl : (k : Int) < xs.length := by omega
      by_cases hz : nth xs k = 0
      · have HE := Lib.hid (show wchk s xs = 11 by unfold wchk; rw [if_neg h1, if_pos ⟨hne, by rw [hk]; exact hz⟩])
        rw [HE.out]
        rw [hz] at hcell
        clear hz hk h0 HE
        go_enter Try.func20, Try.ntmps20
        go_wp2
        go_ret
        exact ⟨rfl, HX.out⟩
      · have HE := Lib.hid (show wchk s xs = 0 by
          unfold wchk; rw [if_neg h1, if_neg, if_neg (fun h => hne h.1)]; rintro ⟨_, h2⟩; rw [hk] at h2; exact hz h2)
        rw [HE.out]
        have hz' : (nth xs k == 0) = false := by simpa using hz
        clear hz hk h0 HE
        go_enter Try.func20, Try.ntmps20
        go_wp2
        go_ret
        exact ⟨rfl, HX.out⟩

set_option maxHeartbeats 1000000 in
theorem size_any (x : Int) (w : World) (h0 : -9223372036854775808 ≤ x) (h1 : x ≤ 9223372036854775807) :
    Calls Try.prog 24 #[.int .i64 x] w fun e w' => ∃ A' c', e = .returned (.slice A' (wd x.natAbs).length c') ∧ Own w' w.heap.size A' c' (wd x.natAbs) ∧ Ext w w' := by
  obtain ⟨m, hm⟩ : ∃ m, m = x.natAbs := ⟨_, rfl⟩
  rw [← hm]
  have H := Lib.hid (of_any m w (by omega))
  by_cases hx : x < 0
  · have HE := Lib.hid (show IntKind.u64.wrap (-IntKind.u64.wrap x) = (m : Int) by rw [IntKind.wrap_u64, IntKind.wrap_u64]; omega)
    clear hm
    go_enter Try.func24, Try.ntmps24
    go_wp2_with fail
    rw [HE.out]
    refine H.out.mono ?_; rintro e w1 ⟨A1, c1, rfl, h1, hx1⟩
    have H1 := Lib.hid h1
    have HX1 := Lib.hid hx1
    clear h1 hx1
    go_wp2_with fail
    go_ret
    exact ⟨_, _, rfl, H1.out, HX1.out⟩
  · obtain rfl : x = (m : Int) := by omega
    clear hm
    go_enter Try.func24, Try.ntmps24
    go_wp2_with fail
    refine H.out.mono ?_; rintro e w1 ⟨A1, c1, rfl, h1, hx1⟩
    have H1 := Lib.hid h1
    have HX1 := Lib.hid hx1
    clear h1 hx1
    go_wp2_with fail
    go_ret
    exact ⟨_, _, rfl, H1.out, HX1.out⟩

/-- Small's answer -/
def fsmall (n d : Int) : Fr × Int := if d = 0 then (Fr.zero, 7) else tell (mkRat (sg (decide (n < 0) != decide (d < 0)) n.natAbs) d.natAbs)
theorem wd_len_64 (x : Int) (h0 : -9223372036854775808 ≤ x) (h1 : x ≤ 9223372036854775807) : (wd x.natAbs).length ≤ 2 := wd_two' _ (by omega)

set_option maxHeartbeats 1000000 in
theorem small_frac (n d : Int) (w : World) (h0 : -9223372036854775808 ≤ n) (h1 : n ≤ 9223372036854775807) (k0 : -9223372036854775808 ≤ d) (k1 : d ≤ 9223372036854775807) :
    Calls Try.prog 9 #[.int .i64 n, .int .i64 d] w (RatP w (fsmall n d)) := by
  by_cases hd : d = 0
  · have HT := Lib.hid (show fsmall n d = (Fr.zero, 7) from if_pos hd)
    subst hd
    go_enter Try.func9, Try.ntmps9
    go_wp2_with fail
    exact bodyPost_ret (v := .tuple #[.agg #[.bool false, .slice none 0 0, .slice none 0 0], .int .i64 7]) (by simp [results, Try.results9, go_sem]) rfl (RatP.nil HT.out rfl (by repeat (first | exact Ext.refl w | refine Ext.setCell ?_ (Nat.le_refl _) _ | refine Ext.alloc ?_ _)))
  · have hdb : (d == 0) = false := beq_eq_false_iff_ne.2 hd
    have Hn := Lib.hid (wd_len_64 n h0 h1)
    have Hd := Lib.hid (wd_len_64 d k0 k1)
    have Hz := Lib.hid (show d.natAbs ≠ 0 by omega)
    obtain ⟨t, ht⟩ : ∃ t, t = tell (mkRat (sg (decide (n < 0) != decide (d < 0)) n.natAbs) d.natAbs) := ⟨_, rfl⟩
    have HT := Lib.hid (show fsmall n d = t by rw [ht]; exact if_neg hd)
    have HL := fun (wx : World) (b : Bool) (A B : Option Addr) (c e : Nat) (ha : Rd wx A c (wd n.natAbs)) (hb : Rd wx B e (wd d.natAbs)) (hbb : b = (decide (n < 0) != decide (d < 0))) => Lib.hid (show Calls Try.prog 21 #[.bool b, .slice A (wd n.natAbs).length c, .slice B (wd d.natAbs).length e] wx (RatP wx t) by
      subst hbb; rw [ht]; exact lowest_any _ A B _ _ c e wx ha hb Hz.out (by have := Hn.out; omega) (by have := Hd.out; omega))
    have HLL := Lib.hid HL
    clear HL ht hd
    go_enter Try.func9, Try.ntmps9
    go_wp2_with fail
    refine (size_any n _ h0 h1).mono ?_; rintro e w1 ⟨A1, c1, rfl, h1', hx1⟩
    have H1 := Lib.hid h1'
    have HX1 := Lib.hid hx1
    clear h1' hx1
    go_wp2_with fail
    refine (size_any d _ k0 k1).mono ?_; rintro e w2 ⟨A2, c2, rfl, h2, hx2⟩
    have H2 := Lib.hid h2
    have H1 := Lib.hid (H1.out.ext hx2)
    have HX2 := Lib.hid (HX1.out.trans hx2)
    clear h2 hx2
    go_wp2_with fail
    refine (HLL.out _ _ _ _ _ _ H1.out.rd H2.out.rd rfl).out.mono ?_; rintro e w3 ⟨A3, c3, B3, d3, rfl, h3, h4, h5, hx3⟩
    have H3 := Lib.hid (h3.lower (show w.heap.size + 1 ≤ w2.heap.size by have := HX2.out.size; simp at this; omega))
    have H4 := Lib.hid (h4.lower (show w.heap.size + 1 ≤ w2.heap.size by have := HX2.out.size; simp at this; omega))
    have HAp := Lib.hid h5
    have HX3 := Lib.hid (HX2.out.trans hx3)
    have HXw := Lib.hid (((Ext.refl w).alloc _).trans HX3.out)
    have hz3 : w.heap.size < w3.heap.size := by have := HX3.out.size; simp at this; omega
    clear h3 h4 h5 hx3
    obtain ⟨hc, hf⟩ := bcell HX3.out
    go_wp2_with fail
    exact bodyPost_ret (v := .tuple #[.agg #[.bool t.1.neg, .slice A3 t.1.num.length c3, .slice B3 t.1.den.length d3], .int .i64 t.2]) (by simp [results, Try.results9, go_sem, hc]) rfl (RatP.mk HT.out rfl (by refine Own.lower ?_ (Nat.le_succ _); repeat (first | exact H3.out | refine Own.setBelow ?_ (Nat.lt_succ_self _) _)) (by refine Own.lower ?_ (Nat.le_succ _); repeat (first | exact H4.out | refine Own.setBelow ?_ (Nat.lt_succ_self _) _)) HAp.out (by repeat (first | exact HXw.out | refine Ext.setCell ?_ (Nat.le_refl _) _)))

end Go.Proofs.Ytnhgagfkepmanaa
