/- The reference of ratio: trimmed, whole, size, Small, Make. -/
import Derived.Test.YtnhgagfkepmanaaG8
namespace Go.Proofs.Ytnhgagfkepmanaa
open Go Go.RowKit

set_option maxHeartbeats 1000000 in
theorem gtrimmed_any (A : Option Addr) (xs : List Int) (c l : Nat) (b : Bool) (w : World) (h : Rd w A c xs) (hl : xs.length = l) (hb : b = decide (¬ (xs ≠ [] ∧ nth xs (xs.length - 1) = 0))) :
    Calls Try.prog 40 #[.slice A l c] w fun e w' => e = .returned (.bool b) ∧ w = w' := by
  subst hl
  have hlm := h.lim
  have HA := Lib.hid h
  clear h
  by_cases h0 : xs.length = 0
  · have hnil := List.eq_nil_of_length_eq_zero h0
    obtain rfl : b = true := by rw [hb]; exact decide_eq_true (fun h => h.1 hnil)
    have he : ((xs.length : Int) == 0) = true := beq_iff_eq.2 (by omega)
    clear hb hnil h0
    go_enter Try.func40, Try.ntmps40
    go_wp2
    go_ret
    exact ⟨rfl, rfl⟩
  · obtain ⟨k, hk⟩ := Nat.exists_eq_succ_of_ne_zero h0
    obtain ⟨a, rfl, hcell⟩ := HA.out.at_ k (by omega)
    have hne : xs ≠ [] := fun e => h0 (by rw [e]; rfl)
    have he : ((xs.length : Int) == 0) = false := beq_eq_false_iff_ne.2 (by omega)
    have hi : ((xs.length : Int) - 1).toNat = k := by omega
    have hkl : (k : Int) < xs.length := by omega
    by_cases hz : nth xs k = 0
    · obtain rfl : b = false := by rw [hb]; exact decide_eq_false (fun h => h ⟨hne, by rw [hk]; exact hz⟩)
      rw [hz] at hcell
      clear hz hk h0 hb
      go_enter Try.func40, Try.ntmps40
      go_wp2
      go_ret
      exact ⟨rfl, rfl⟩
    · obtain rfl : b = true := by rw [hb]; exact decide_eq_true (fun h => hz (by have := h.2; rw [hk] at this; exact this))
      have hz' : (nth xs k != 0) = true := bne_iff_ne.2 hz
      clear hz hk h0 hb
      go_enter Try.func40, Try.ntmps40
      go_wp2
      go_ret
      exact ⟨rfl, rfl⟩

set_option maxHeartbeats 1000000 in
theorem gwhole_any (s : Bool) (A : Option Addr) (xs : List Int) (c : Nat) (w : World) (h : Rd w A c xs) :
    Calls Try.prog 22 #[.agg #[.bool s, .slice A xs.length c]] w fun e w' => e = .returned (.int .i64 (wchk s xs)) ∧ Ext w w' := by
  have hl := h.lim
  have HA := Lib.hid h
  have HX := Lib.hid ((Ext.refl w).alloc (.cells #[.bool s, .slice A xs.length c] 24))
  clear h
  by_cases h1 : 2048 < xs.length
  · have HE := Lib.hid (show wchk s xs = 3 from if_pos h1)
    rw [HE.out]
    go_enter Try.func22, Try.ntmps22
    go_wp2
    go_ret
    exact ⟨rfl, HX.out⟩
  · have HT := fun b hb => Lib.hid (gtrimmed_any A xs c xs.length b _ (HA.out.ext HX.out) rfl hb)
    have HTT := Lib.hid HT
    by_cases h2 : xs ≠ [] ∧ nth xs (xs.length - 1) = 0
    · have HE := Lib.hid (show wchk s xs = 11 by unfold wchk; rw [if_neg h1, if_pos h2])
      have HF := HTT.out false (by rw [decide_eq_false (fun h => h h2)])
      rw [HE.out]
      clear HT h2
      go_enter Try.func22, Try.ntmps22
      go_wp2_with fail
      refine HF.out.mono ?_; rintro e w1 ⟨rfl, rfl⟩
      go_wp2_with fail
      go_ret
      exact ⟨rfl, HX.out⟩
    · have HF := HTT.out true (by rw [decide_eq_true h2])
      by_cases h0 : xs.length = 0
      · have hnil := List.eq_nil_of_length_eq_zero h0
        have HE := Lib.hid (show wchk s xs = if s = true then 11 else 0 by
          unfold wchk; rw [if_neg h1, if_neg h2]; simp [hnil])
        rw [HE.out]
        have hb : ((xs.length : Int) == 0) = true := beq_iff_eq.2 (by omega)
        clear HT h2 h0 hnil HE
        cases s
        all_goals
          go_enter Try.func22, Try.ntmps22
          go_wp2_with fail
          refine HF.out.mono ?_; rintro e w1 ⟨rfl, rfl⟩
          go_wp2_with fail
          go_ret
          exact ⟨rfl, HX.out⟩
      · have hne : xs ≠ [] := fun e => h0 (by rw [e]; rfl)
        have HE := Lib.hid (show wchk s xs = 0 by
          unfold wchk; rw [if_neg h1, if_neg h2, if_neg (fun h => hne h.1)])
        rw [HE.out]
        have hb : ((xs.length : Int) == 0) = false := beq_eq_false_iff_ne.2 (by omega)
        clear HT h2 h0 hne HE
        go_enter Try.func22, Try.ntmps22
        go_wp2_with fail
        refine HF.out.mono ?_; rintro e w1 ⟨rfl, rfl⟩
        go_wp2_with fail
        go_ret
        exact ⟨rfl, HX.out⟩

set_option maxHeartbeats 1000000 in
theorem gsize3_any (x : Int) (w : World) (h0 : -9223372036854775808 ≤ x) (h1 : x ≤ 9223372036854775807) :
    Calls Try.prog 25 #[.int .i64 x] w fun e w' => ∃ A' c', e = .returned (.slice A' (wd x.natAbs).length c') ∧ Own w' w.heap.size A' c' (wd x.natAbs) ∧ Ext w w' := by
  obtain ⟨m, hm⟩ : ∃ m, m = x.natAbs := ⟨_, rfl⟩
  rw [← hm]
  have H := Lib.hid (gof_any m w (by omega))
  by_cases hx : x < 0
  · have HE := Lib.hid (show IntKind.u64.wrap (-IntKind.u64.wrap x) = (m : Int) by rw [IntKind.wrap_u64, IntKind.wrap_u64]; omega)
    clear hm
    go_enter Try.func25, Try.ntmps25
    go_wp2_with fail
    rw [HE.out]
    refine H.out.mono ?_; rintro e w1 ⟨A1, c1, rfl, h1, hx1⟩
    have H1 := Lib.hid h1
    have HX1 := Lib.hid hx1
    clear h1 hx1
    go_wp2_with fail
    go_ret
    exact ⟨_, _, rfl, H1.out, HX1.out⟩
  · obtain rfl : x = (m : Int) := by omega
    clear hm
    go_enter Try.func25, Try.ntmps25
    go_wp2_with fail
    refine H.out.mono ?_; rintro e w1 ⟨A1, c1, rfl, h1, hx1⟩
    have H1 := Lib.hid h1
    have HX1 := Lib.hid hx1
    clear h1 hx1
    go_wp2_with fail
    go_ret
    exact ⟨_, _, rfl, H1.out, HX1.out⟩

set_option maxHeartbeats 1000000 in
theorem gsmall3_any (n d : Int) (w : World) (h0 : -9223372036854775808 ≤ n) (h1 : n ≤ 9223372036854775807) (k0 : -9223372036854775808 ≤ d) (k1 : d ≤ 9223372036854775807) :
    Calls Try.prog 10 #[.int .i64 n, .int .i64 d] w (RatP w (fsmall n d)) := by
  by_cases hd : d = 0
  · have HT := Lib.hid (show fsmall n d = (Fr.zero, 7) from if_pos hd)
    subst hd
    go_enter Try.func10, Try.ntmps10
    go_wp2_with fail
    exact bodyPost_ret (v := .tuple #[.agg #[.bool false, .slice none 0 0, .slice none 0 0], .int .i64 7]) (by simp [results, Try.results10, go_sem]) rfl (RatP.nil HT.out rfl (by repeat (first | exact Ext.refl w | refine Ext.setCell ?_ (Nat.le_refl _) _ | refine Ext.alloc ?_ _)))
  · have hdb : (d == 0) = false := beq_eq_false_iff_ne.2 hd
    have Hn := Lib.hid (wd_len_64 n h0 h1)
    have Hd := Lib.hid (wd_len_64 d k0 k1)
    have Hz := Lib.hid (show d.natAbs ≠ 0 by omega)
    obtain ⟨t, ht⟩ : ∃ t, t = tell (mkRat (sg (decide (n < 0) != decide (d < 0)) n.natAbs) d.natAbs) := ⟨_, rfl⟩
    have HT := Lib.hid (show fsmall n d = t by rw [ht]; exact if_neg hd)
    have HL := fun (wx : World) (b : Bool) (A B : Option Addr) (c e : Nat) (ha : Rd wx A c (wd n.natAbs)) (hb : Rd wx B e (wd d.natAbs)) (hbb : b = (decide (n < 0) != decide (d < 0))) => Lib.hid (show Calls Try.prog 23 #[.bool b, .slice A (wd n.natAbs).length c, .slice B (wd d.natAbs).length e] wx (RatP wx t) by
      subst hbb; rw [ht]; exact gof3_any _ A B _ _ c e wx ha hb Hz.out (by have := Hn.out; omega) (by have := Hd.out; omega))
    have HLL := Lib.hid HL
    clear HL ht hd
    go_enter Try.func10, Try.ntmps10
    go_wp2_with fail
    refine (gsize3_any n _ h0 h1).mono ?_; rintro e w1 ⟨A1, c1, rfl, h1', hx1⟩
    have H1 := Lib.hid h1'
    have HX1 := Lib.hid hx1
    clear h1' hx1
    go_wp2_with fail
    refine (gsize3_any d _ k0 k1).mono ?_; rintro e w2 ⟨A2, c2, rfl, h2, hx2⟩
    have H2 := Lib.hid h2
    have H1 := Lib.hid (H1.out.ext hx2)
    have HX2 := Lib.hid (HX1.out.trans hx2)
    clear h2 hx2
    go_wp2_with fail
    refine (HLL.out _ _ _ _ _ _ H1.out.rd H2.out.rd rfl).out.mono ?_; rintro e w3 ⟨A3, c3, B3, d3, rfl, h3, h4, h5, hx3⟩
    have H3 := Lib.hid (h3.lower (show w.heap.size + 1 ≤ w2.heap.size by have := HX2.out.size; simp at this; omega))
    have H4 := Lib.hid (h4.lower (show w.heap.size + 1 ≤ w2.heap.size by have := HX2.out.size; simp at this; omega))
    have HAp := Lib.hid h5
    have HX3 := Lib.hid (HX2.out.trans hx3)
    have HXw := Lib.hid (((Ext.refl w).alloc _).trans HX3.out)
    have hz3 : w.heap.size < w3.heap.size := by have := HX3.out.size; simp at this; omega
    clear h3 h4 h5 hx3
    obtain ⟨hc, hf⟩ := bcell HX3.out
    go_wp2_with fail
    exact bodyPost_ret (v := .tuple #[.agg #[.bool t.1.neg, .slice A3 t.1.num.length c3, .slice B3 t.1.den.length d3], .int .i64 t.2]) (by simp [results, Try.results10, go_sem, hc]) rfl (RatP.mk HT.out rfl (by refine Own.lower ?_ (Nat.le_succ _); repeat (first | exact H3.out | refine Own.setBelow ?_ (Nat.lt_succ_self _) _)) (by refine Own.lower ?_ (Nat.le_succ _); repeat (first | exact H4.out | refine Own.setBelow ?_ (Nat.lt_succ_self _) _)) HAp.out (by repeat (first | exact HXw.out | refine Ext.setCell ?_ (Nat.le_refl _) _)))

set_option maxHeartbeats 1000000 in
theorem gmake3_any (s1 s2 : Bool) (A B : Option Addr) (xs ys : List Int) (c d : Nat) (w : World) (ha : Rd w A c xs) (hb : Rd w B d ys) (hx : Wf xs) (hy : Wf ys) :
    Calls Try.prog 8 #[.agg #[.bool s1, .slice A xs.length c], .agg #[.bool s2, .slice B ys.length d]] w (RatP w (fmake s1 xs s2 ys)) := by
  have HA := Lib.hid ha
  have HB := Lib.hid hb
  have hly := hb.lim
  have HW := fun (wx : World) (hx : Ext w wx) => Lib.hid (gwhole_any s1 A xs c wx (HA.out.ext hx))
  have HW' := fun (wx : World) (hx : Ext w wx) => Lib.hid (gwhole_any s2 B ys d wx (HB.out.ext hx))
  have KW := Lib.hid HW
  have KW' := Lib.hid HW'
  clear HW HW' ha hb
  by_cases h1 : wchk s1 xs = 0
  · by_cases h2 : wchk s2 ys = 0
    · by_cases h3 : ys = []
      · have HT := Lib.hid (show fmake s1 xs s2 ys = (Fr.zero, 7) by unfold fmake; rw [if_neg (by omega), if_neg (by omega), if_pos h3])
        have hb : ((ys.length : Int) == 0) = true := by rw [h3]; rfl
        have H1 := Lib.hid h1
        have H2 := Lib.hid h2
        clear h1 h2 h3
        go_enter Try.func8, Try.ntmps8
        go_wp2_with fail
        refine (KW.out _ (by repeat (first | exact Ext.refl w | refine Ext.alloc ?_ _))).out.mono ?_; rintro e w1 ⟨rfl, hx1⟩
        rw [H1.out]
        have HX1 := Lib.hid hx1
        obtain ⟨hc1, hf1⟩ := bcell hx1
        have hz1 : w.heap.size + 2 < w1.heap.size := by have := hx1.size; simp at this; omega
        clear hx1
        go_wp2_with fail
        refine (KW'.out _ (((((Ext.refl w).alloc _).alloc _).alloc _).trans HX1.out)).out.mono ?_; rintro e w2 ⟨rfl, hx2⟩
        rw [H2.out]
        have HX2 := Lib.hid (HX1.out.trans hx2)
        clear hc1 hf1 hz1
        obtain ⟨hc, hf⟩ := bcell HX2.out
        have hz2 : w.heap.size + 2 < w2.heap.size := by have := HX2.out.size; simp at this; omega
        have HXw := Lib.hid (((((Ext.refl w).alloc _).alloc _).alloc _).trans HX2.out)
        clear hx2
        go_wp2_with fail
        exact bodyPost_ret (v := .tuple #[.agg #[.bool false, .slice none 0 0, .slice none 0 0], .int .i64 7]) (by simp [results, Try.results8, go_sem, hc]) rfl (RatP.nil HT.out rfl (by repeat (first | exact HXw.out | refine Ext.setCell ?_ (by simp; try omega) _)))
      · obtain ⟨ex, lx⟩ := wchk_ok hx h1
        obtain ⟨ey, ly⟩ := wchk_ok hy h2
        have hb : ((ys.length : Int) == 0) = false := beq_eq_false_iff_ne.2 (fun e => h3 (List.eq_nil_of_length_eq_zero (by omega)))
        have hn0 : (val ys).toNat ≠ 0 := fun e => h3 (by rw [ey, e, wd_zero])
        obtain ⟨t, ht⟩ : ∃ t, t = tell (mkRat (sg (s1 != s2) (val xs).toNat) (val ys).toNat) := ⟨_, rfl⟩
        have HT := Lib.hid (show fmake s1 xs s2 ys = t by unfold fmake; rw [if_neg (by omega), if_neg (by omega), if_neg h3, ht])
        have HL := fun (wx : World) (b : Bool) (ha : Rd wx A c xs) (hb : Rd wx B d ys) (hbb : b = (s1 != s2)) => Lib.hid (show Calls Try.prog 23 #[.bool b, .slice A xs.length c, .slice B ys.length d] wx (RatP wx t) by
          subst hbb
          rw [ht]
          have := gof3_any (s1 != s2) A B (val xs).toNat (val ys).toNat c d wx (ex ▸ ha) (ey ▸ hb) hn0 (by rw [← ex]; omega) (by rw [← ey]; omega)
          rw [← ex, ← ey] at this
          exact this)
        have HLL := Lib.hid HL
        have H1 := Lib.hid h1
        have H2 := Lib.hid h2
        clear h1 h2 h3 HL ht ex ey lx ly hn0
        go_enter Try.func8, Try.ntmps8
        go_wp2_with fail
        refine (KW.out _ (by repeat (first | exact Ext.refl w | refine Ext.alloc ?_ _))).out.mono ?_; rintro e w1 ⟨rfl, hx1⟩
        rw [H1.out]
        have HX1 := Lib.hid hx1
        obtain ⟨hc1, hf1⟩ := bcell hx1
        have hz1 : w.heap.size + 2 < w1.heap.size := by have := hx1.size; simp at this; omega
        clear hx1
        go_wp2_with fail
        refine (KW'.out _ (((((Ext.refl w).alloc _).alloc _).alloc _).trans HX1.out)).out.mono ?_; rintro e w2 ⟨rfl, hx2⟩
        rw [H2.out]
        have HX2 := Lib.hid (HX1.out.trans hx2)
        clear hc1 hf1 hz1
        obtain ⟨hc2, hf2⟩ := bcell HX2.out
        have hz2 : w.heap.size + 2 < w2.heap.size := by have := HX2.out.size; simp at this; omega
        have HXw2 := Lib.hid (((((Ext.refl w).alloc _).alloc _).alloc _).trans HX2.out)
        clear hx2
        go_wp2_with fail
        refine (HLL.out _ _ (HA.out.ext HXw2.out) (HB.out.ext HXw2.out) rfl).out.mono ?_; rintro e w3 ⟨A3, c3, B3, d3, rfl, h3, h4, h5, hx3⟩
        have H3 := Lib.hid (h3.lower (show w.heap.size + 3 ≤ w2.heap.size by omega))
        have H4 := Lib.hid (h4.lower (show w.heap.size + 3 ≤ w2.heap.size by omega))
        have HAp := Lib.hid h5
        have HX3 := Lib.hid (HX2.out.trans hx3)
        have HXw := Lib.hid (HXw2.out.trans hx3)
        have hz3 : w.heap.size + 2 < w3.heap.size := by have := hx3.size; omega
        clear h3 h4 h5 hx3 hc2 hf2 hz2
        obtain ⟨hc, hf⟩ := bcell HX3.out
        go_wp2_with fail
        exact bodyPost_ret (v := .tuple #[.agg #[.bool t.1.neg, .slice A3 t.1.num.length c3, .slice B3 t.1.den.length d3], .int .i64 t.2]) (by simp [results, Try.results8, go_sem, hc]) rfl (RatP.mk HT.out rfl (by refine Own.lower ?_ (show w.heap.size ≤ w.heap.size + 3 by omega); repeat (first | exact H3.out | refine Own.setBelow ?_ (by simp; try omega) _)) (by refine Own.lower ?_ (show w.heap.size ≤ w.heap.size + 3 by omega); repeat (first | exact H4.out | refine Own.setBelow ?_ (by simp; try omega) _)) HAp.out (by repeat (first | exact HXw.out | refine Ext.setCell ?_ (by simp; try omega) _)))
    · have HT := Lib.hid (show fmake s1 xs s2 ys = (Fr.zero, wchk s2 ys) by unfold fmake; rw [if_neg (by omega), if_pos h2])
      have hne : (wchk s2 ys != 0) = true := bne_iff_ne.2 h2
      have H1 := Lib.hid h1
      clear h1 h2
      go_enter Try.func8, Try.ntmps8
      go_wp2_with fail
      refine (KW.out _ (by repeat (first | exact Ext.refl w | refine Ext.alloc ?_ _))).out.mono ?_; rintro e w1 ⟨rfl, hx1⟩
      rw [H1.out]
      have HX1 := Lib.hid hx1
      obtain ⟨hc1, hf1⟩ := bcell hx1
      have hz1 : w.heap.size + 2 < w1.heap.size := by have := hx1.size; simp at this; omega
      clear hx1
      go_wp2_with fail
      refine (KW'.out _ (((((Ext.refl w).alloc _).alloc _).alloc _).trans HX1.out)).out.mono ?_; rintro e w2 ⟨rfl, hx2⟩
      have HX2 := Lib.hid (HX1.out.trans hx2)
      clear hc1 hf1 hz1
      obtain ⟨hc, hf⟩ := bcell HX2.out
      have hz2 : w.heap.size + 2 < w2.heap.size := by have := HX2.out.size; simp at this; omega
      have HXw := Lib.hid (((((Ext.refl w).alloc _).alloc _).alloc _).trans HX2.out)
      clear hx2
      go_wp2_with fail
      exact bodyPost_ret (v := .tuple #[.agg #[.bool false, .slice none 0 0, .slice none 0 0], .int .i64 (wchk s2 ys)]) (by simp [results, Try.results8, go_sem, hc]) rfl (RatP.nil HT.out rfl (by repeat (first | exact HXw.out | refine Ext.setCell ?_ (by simp; try omega) _)))
  · have HT := Lib.hid (show fmake s1 xs s2 ys = (Fr.zero, wchk s1 xs) from if_pos h1)
    have hne : (wchk s1 xs != 0) = true := bne_iff_ne.2 h1
    clear h1
    go_enter Try.func8, Try.ntmps8
    go_wp2_with fail
    refine (KW.out _ (by repeat (first | exact Ext.refl w | refine Ext.alloc ?_ _))).out.mono ?_; rintro e w1 ⟨rfl, hx1⟩
    have HXw := Lib.hid (((((Ext.refl w).alloc _).alloc _).alloc _).trans hx1)
    obtain ⟨hc, hf⟩ := bcell hx1
    have hz1 : w.heap.size + 2 < w1.heap.size := by have := hx1.size; simp at this; omega
    clear hx1
    go_wp2_with fail
    exact bodyPost_ret (v := .tuple #[.agg #[.bool false, .slice none 0 0, .slice none 0 0], .int .i64 (wchk s1 xs)]) (by simp [results, Try.results8, go_sem, hc]) rfl (RatP.nil HT.out rfl (by repeat (first | exact HXw.out | refine Ext.setCell ?_ (by simp; try omega) _)))

end Go.Proofs.Ytnhgagfkepmanaa
