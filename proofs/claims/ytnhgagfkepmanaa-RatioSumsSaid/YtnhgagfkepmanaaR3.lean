/- ratio.Make. -/
import Derived.Test.YtnhgagfkepmanaaR2
namespace Go.Proofs.Ytnhgagfkepmanaa
open Go Go.RowKit

/-- Make's answer -/
def fmake (s1 : Bool) (xs : List Int) (s2 : Bool) (ys : List Int) : Fr × Int :=
  if wchk s1 xs ≠ 0 then (Fr.zero, wchk s1 xs) else if wchk s2 ys ≠ 0 then (Fr.zero, wchk s2 ys) else if ys = [] then (Fr.zero, 7)
  else tell (mkRat (sg (s1 != s2) (val xs).toNat) (val ys).toNat)
theorem wchk_ok {s : Bool} {xs : List Int} (hw : Wf xs) (h : wchk s xs = 0) : xs = wd (val xs).toNat ∧ xs.length ≤ 2048 := by
  unfold wchk at h
  by_cases h1 : 2048 < xs.length
  · rw [if_pos h1] at h; omega
  · rw [if_neg h1] at h
    refine ⟨(wd_val hw fun hne => ?_).symm, by omega⟩
    by_cases h2 : xs ≠ [] ∧ nth xs (xs.length - 1) = 0
    · rw [if_pos h2] at h; omega
    · exact fun e => h2 ⟨hne, e⟩

set_option maxHeartbeats 1000000 in
theorem make_any (s1 s2 : Bool) (A B : Option Addr) (xs ys : List Int) (c d : Nat) (w : World) (ha : Rd w A c xs) (hb : Rd w B d ys) (hx : Wf xs) (hy : Wf ys) :
    Calls Try.prog 7 #[.agg #[.bool s1, .slice A xs.length c], .agg #[.bool s2, .slice B ys.length d]] w (RatP w (fmake s1 xs s2 ys)) := by
  have HA := Lib.hid ha
  have HB := Lib.hid hb
  have hly := hb.lim
  have HW := fun (wx : World) (hx : Ext w wx) => Lib.hid (wcheck_any s1 A xs c wx (HA.out.ext hx))
  have HW' := fun (wx : World) (hx : Ext w wx) => Lib.hid (wcheck_any s2 B ys d wx (HB.out.ext hx))
  have KW := Lib.hid HW
  have KW' := Lib.hid HW'
  clear HW HW' ha hb
  by_cases h1 : wchk s1 xs = 0
  · by_cases h2 : wchk s2 ys = 0
    · by_cases h3 : ys = []
      · have HT := Lib.hid (show fmake s1 xs s2 ys = (Fr.zero, 7) by unfold fmake; rw [if_neg (by omega), if_neg (by omega), if_pos h3])
        have hb : ((ys.length : Int) == 0) = true := by rw [h3]; rfl
        have H1 := Lib.hid h1
        have H2 := Lib.hid h2
        clear h1 h2 h3
        go_enter Try.func7, Try.ntmps7
        go_wp2_with fail
        refine (KW.out _ (by repeat (first | exact Ext.refl w | refine Ext.alloc ?_ _))).out.mono ?_; rintro e w1 ⟨rfl, hx1⟩
        rw [H1.out]
        have HX1 := Lib.hid hx1
        obtain ⟨hc1, hf1⟩ := bcell hx1
        have hz1 : w.heap.size + 2 < w1.heap.size := by have := hx1.size; simp at this; omega
        clear hx1
        go_wp2_with fail
        refine (KW'.out _ (((((Ext.refl w).alloc _).alloc _).alloc _).trans HX1.out)).out.mono ?_; rintro e w2 ⟨rfl, hx2⟩
        rw [H2.out]
        have HX2 := Lib.hid (HX1.out.trans hx2)
        clear hc1 hf1 hz1
        obtain ⟨hc, hf⟩ := bcell HX2.out
        have hz2 : w.heap.size + 2 < w2.heap.size := by have := HX2.out.size; simp at this; omega
        have HXw := Lib.hid (((((Ext.refl w).alloc _).alloc _).alloc _).trans HX2.out)
        clear hx2
        go_wp2_with fail
        exact bodyPost_ret (v := .tuple #[.agg #[.bool false, .slice none 0 0, .slice none 0 0], .int .i64 7]) (by simp [results, Try.results7, go_sem, hc]) rfl (RatP.nil HT.out rfl (by repeat (first | exact HXw.out | refine Ext.setCell ?_ (by simp; try omega) _)))
      · obtain ⟨ex, lx⟩ := wchk_ok hx h1
        obtain ⟨ey, ly⟩ := wchk_ok hy h2
        have hb : ((ys.length : Int) == 0) = false := beq_eq_false_iff_ne.2 (fun e => h3 (List.eq_nil_of_length_eq_zero (by omega)))
        have hn0 : (val ys).toNat ≠ 0 := fun e => h3 (by rw [ey, e, wd_zero])
        obtain ⟨t, ht⟩ : ∃ t, t = tell (mkRat (sg (s1 != s2) (val xs).toNat) (val ys).toNat) := ⟨_, rfl⟩
        have HT := Lib.hid (show fmake s1 xs s2 ys = t by unfold fmake; rw [if_neg (by omega), if_neg (by omega), if_neg h3, ht])
        have HL := fun (wx : World) (b : Bool) (ha : Rd wx A c xs) (hb : Rd wx B d ys) (hbb : b = (s1 != s2)) => Lib.hid (show Calls Try.prog 21 #[.bool b, .slice A xs.length c, .slice B ys.length d] wx (RatP wx t) by
          subst hbb
          rw [ht]
          have := lowest_any (s1 != s2) A B (val xs).toNat (val ys).toNat c d wx (ex ▸ ha) (ey ▸ hb) hn0 (by rw [← ex]; omega) (by rw [← ey]; omega)
          rw [← ex, ← ey] at this
          exact this)
        have HLL := Lib.hid HL
        have H1 := Lib.hid h1
        have H2 := Lib.hid h2
        clear h1 h2 h3 HL ht ex ey lx ly hn0
        go_enter Try.func7, Try.ntmps7
        go_wp2_with fail
        refine (KW.out _ (by repeat (first | exact Ext.refl w | refine Ext.alloc ?_ _))).out.mono ?_; rintro e w1 ⟨rfl, hx1⟩
        rw [H1.out]
        have HX1 := Lib.hid hx1
        obtain ⟨hc1, hf1⟩ := bcell hx1
        have hz1 : w.heap.size + 2 < w1.heap.size := by have := hx1.size; simp at this; omega
        clear hx1
        go_wp2_with fail
        refine (KW'.out _ (((((Ext.refl w).alloc _).alloc _).alloc _).trans HX1.out)).out.mono ?_; rintro e w2 ⟨rfl, hx2⟩
        rw [H2.out]
        have HX2 := Lib.hid (HX1.out.trans hx2)
        clear hc1 hf1 hz1
        obtain ⟨hc2, hf2⟩ := bcell HX2.out
        have hz2 : w.heap.size + 2 < w2.heap.size := by have := HX2.out.size; simp at this; omega
        have HXw2 := Lib.hid (((((Ext.refl w).alloc _).alloc _).alloc _).trans HX2.out)
        clear hx2
        go_wp2_with fail
        refine (HLL.out _ _ (HA.out.ext HXw2.out) (HB.out.ext HXw2.out) rfl).out.mono ?_; rintro e w3 ⟨A3, c3, B3, d3, rfl, h3, h4, h5, hx3⟩
        have H3 := Lib.hid (h3.lower (show w.heap.size + 3 ≤ w2.heap.size by omega))
        have H4 := Lib.hid (h4.lower (show w.heap.size + 3 ≤ w2.heap.size by omega))
        have HAp := Lib.hid h5
        have HX3 := Lib.hid (HX2.out.trans hx3)
        have HXw := Lib.hid (HXw2.out.trans hx3)
        have hz3 : w.heap.size + 2 < w3.heap.size := by have := hx3.size; omega
        clear h3 h4 h5 hx3 hc2 hf2 hz2
        obtain ⟨hc, hf⟩ := bcell HX3.out
        go_wp2_with fail
        exact bodyPost_ret (v := .tuple #[.agg #[.bool t.1.neg, .slice A3 t.1.num.length c3, .slice B3 t.1.den.length d3], .int .i64 t.2]) (by simp [results, Try.results7, go_sem, hc]) rfl (RatP.mk HT.out rfl (by refine Own.lower ?_ (show w.heap.size ≤ w.heap.size + 3 by omega); repeat (first | exact H3.out | refine Own.setBelow ?_ (by simp; try omega) _)) (by refine Own.lower ?_ (show w.heap.size ≤ w.heap.size + 3 by omega); repeat (first | exact H4.out | refine Own.setBelow ?_ (by simp; try omega) _)) HAp.out (by repeat (first | exact HXw.out | refine Ext.setCell ?_ (by simp; try omega) _)))
    · have HT := Lib.hid (show fmake s1 xs s2 ys = (Fr.zero, wchk s2 ys) by unfold fmake; rw [if_neg (by omega), if_pos h2])
      have hne : (wchk s2 ys != 0) = true := bne_iff_ne.2 h2
      have H1 := Lib.hid h1
      clear h1 h2
      go_enter Try.func7, Try.ntmps7
      go_wp2_with fail
      refine (KW.out _ (by repeat (first | exact Ext.refl w | refine Ext.alloc ?_ _))).out.mono ?_; rintro e w1 ⟨rfl, hx1⟩
      rw [H1.out]
      have HX1 := Lib.hid hx1
      obtain ⟨hc1, hf1⟩ := bcell hx1
      have hz1 : w.heap.size + 2 < w1.heap.size := by have := hx1.size; simp at this; omega
      clear hx1
      go_wp2_with fail
      refine (KW'.out _ (((((Ext.refl w).alloc _).alloc _).alloc _).trans HX1.out)).out.mono ?_; rintro e w2 ⟨rfl, hx2⟩
      have HX2 := Lib.hid (HX1.out.trans hx2)
      clear hc1 hf1 hz1
      obtain ⟨hc, hf⟩ := bcell HX2.out
      have hz2 : w.heap.size + 2 < w2.heap.size := by have := HX2.out.size; simp at this; omega
      have HXw := Lib.hid (((((Ext.refl w).alloc _).alloc _).alloc _).trans HX2.out)
      clear hx2
      go_wp2_with fail
      exact bodyPost_ret (v := .tuple #[.agg #[.bool false, .slice none 0 0, .slice none 0 0], .int .i64 (wchk s2 ys)]) (by simp [results, Try.results7, go_sem, hc]) rfl (RatP.nil HT.out rfl (by repeat (first | exact HXw.out | refine Ext.setCell ?_ (by simp; try omega) _)))
  · have HT := Lib.hid (show fmake s1 xs s2 ys = (Fr.zero, wchk s1 xs) from if_pos h1)
    have hne : (wchk s1 xs != 0) = true := bne_iff_ne.2 h1
    clear h1
    go_enter Try.func7, Try.ntmps7
    go_wp2_with fail
    refine (KW.out _ (by repeat (first | exact Ext.refl w | refine Ext.alloc ?_ _))).out.mono ?_; rintro e w1 ⟨rfl, hx1⟩
    have HXw := Lib.hid (((((Ext.refl w).alloc _).alloc _).alloc _).trans hx1)
    obtain ⟨hc, hf⟩ := bcell hx1
    have hz1 : w.heap.size + 2 < w1.heap.size := by have := hx1.size; simp at this; omega
    clear hx1
    go_wp2_with fail
    exact bodyPost_ret (v := .tuple #[.agg #[.bool false, .slice none 0 0, .slice none 0 0], .int .i64 (wchk s1 xs)]) (by simp [results, Try.results7, go_sem, hc]) rfl (RatP.nil HT.out rfl (by repeat (first | exact HXw.out | refine Ext.setCell ?_ (by simp; try omega) _)))

end Go.Proofs.Ytnhgagfkepmanaa
