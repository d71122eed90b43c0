/- The reference of ratio: one, times, over, Of. -/
import Derived.Test.YtnhgagfkepmanaaG7
import Derived.Test.YtnhgagfkepmanaaR3
namespace Go.Proofs.Ytnhgagfkepmanaa
open Go Go.RowKit

theorem tell_zero : tell 0 = (⟨false, [], wd 1⟩, 0) := by
  unfold tell
  rw [if_neg (lng_of (by rw [show (0 : Rat).num.natAbs = 0 from rfl, wd_zero]; decide) (by rw [show (0 : Rat).den = 1 from rfl, wd_one]; decide)), enc_zero, wd_one]

theorem gone_any (w : World) :
    Calls Try.prog 33 #[] w fun e w' => ∃ A c, e = .returned (.slice A (wd 1).length c) ∧ Own w' w.heap.size A c (wd 1) ∧ Ext w w' := by
  rw [wd_one]
  have HO := Lib.hid (Own.lit w #[.int .u32 1] [1] rfl (by decide))
  go_enter Try.func33, Try.ntmps33
  go_wp2_with fail
  go_ret
  exact ⟨_, _, rfl, HO.out, (Ext.refl w).alloc _⟩

set_option maxHeartbeats 400000 in
theorem gover3_any (A B : Option Addr) (m n : Nat) (c d : Nat) (w : World) (ha : Rd w A c (wd m)) (hb : Rd w B d (wd n)) (hn : n ≠ 0) (lm : (wd m).length ≤ 8192) (ln : (wd n).length ≤ 8192) (Q : Nat) (hQ : m / n = Q) :
    Calls Try.prog 42 #[.slice A (wd m).length c, .slice B (wd n).length d] w fun e w' => ∃ A' c', e = .returned (.slice A' (wd Q).length c') ∧ Own w' w.heap.size A' c' (wd Q) ∧ Ext w w' := by
  have H := Lib.hid (gdivMod_any A B m n c d w ha hb hn lm ln Q _ hQ rfl)
  clear ha hb
  go_enter Try.func42, Try.ntmps42
  go_wp2_with fail
  refine H.out.mono ?_; rintro e w1 ⟨A1, c1, A2, c2, rfl, h1, _, hx1⟩
  have H1 := Lib.hid h1
  have HX1 := Lib.hid hx1
  clear h1 hx1
  go_wp2_with fail
  go_ret
  exact ⟨_, _, rfl, H1.out, HX1.out⟩

set_option maxHeartbeats 1000000 in
theorem gof3_any (b : Bool) (A B : Option Addr) (m n : Nat) (c d : Nat) (w : World) (ha : Rd w A c (wd m)) (hb : Rd w B d (wd n)) (hn : n ≠ 0) (lm : (wd m).length ≤ 8192) (ln : (wd n).length ≤ 8192) :
    Calls Try.prog 23 #[.bool b, .slice A (wd m).length c, .slice B (wd n).length d] w (RatP w (tell (mkRat (sg b m) n))) := by
  have HA := Lib.hid ha
  have HB := Lib.hid hb
  clear ha hb
  by_cases h0 : (wd m).length = 0
  · have hm0 : m = 0 := wd_len_zero.1 h0
    have HT := Lib.hid (show tell (mkRat (sg b m) n) = (⟨false, [], wd 1⟩, 0) by rw [hm0, sg_zero, Rat.zero_mkRat, tell_zero])
    have hbe : (((wd m).length : Int) == 0) = true := beq_iff_eq.2 (by omega)
    clear hm0 h0
    go_enter Try.func23, Try.ntmps23
    go_wp2_with fail
    refine (gone_any _).mono ?_; rintro e w1 ⟨A1, c1, rfl, h1, hx1⟩
    have HO1 : Hid (Own w1 (w.heap.size + 1) A1 c1 (wd 1)) := h1.lower (by simp)
    have HX1 := Lib.hid hx1
    have HZ1 := Lib.hid (show w.heap.size < w1.heap.size by have := hx1.size; simp at this; omega)
    obtain ⟨hc, hf⟩ := bcell hx1
    have HXw := Lib.hid (((Ext.refl w).alloc _).trans HX1.out)
    have hz := HZ1.out
    clear h1 hx1
    go_wp2_with fail
    exact bodyPost_ret (v := .tuple #[.agg #[.bool false, .slice none 0 0, .slice A1 (wd 1).length c1], .int .i64 0]) (by simp [results, Try.results23, go_sem, hc]) rfl (RatP.mk (xs := []) HT.out rfl (Own.nil _ _) (by refine Own.lower ?_ (Nat.le_succ _); repeat (first | (with_reducible exact HO1.out) | refine Own.setBelow ?_ (Nat.lt_succ_self _) _)) (fun _ _ h => by cases h) (by repeat (first | exact HXw.out | refine Ext.setCell ?_ (Nat.le_refl _) _)))
  have hg0 : 0 < Nat.gcd m n := Nat.gcd_pos_of_pos_right m (by omega)
  have hgl := wd_len_mono (Nat.gcd_le_right m (show 0 < n by omega))
  have hm0 : m ≠ 0 := fun e => h0 (wd_len_zero.2 e)
  have HE := Lib.hid (enc_mk b m n hn)
  have hbe : (((wd m).length : Int) == 0) = false := beq_eq_false_iff_ne.2 (by omega)
  obtain ⟨g, hg⟩ : ∃ g, g = Nat.gcd m n := ⟨_, rfl⟩
  rw [← hg] at hg0 hgl HE
  have HG := Lib.hid hg
  obtain ⟨m', hm'⟩ : ∃ x, m / g = x := ⟨_, rfl⟩
  obtain ⟨n', hn'⟩ : ∃ x, n / g = x := ⟨_, rfl⟩
  rw [hm', hn'] at HE
  have HM' := Lib.hid hm'
  have HN' := Lib.hid hn'
  have hml := wd_len_mono (show m' ≤ m by rw [← hm']; exact Nat.div_le_self _ _)
  have hnl := wd_len_mono (show n' ≤ n by rw [← hn']; exact Nat.div_le_self _ _)
  have el : (wd (mkRat (sg b m) n).num.natAbs) = wd m' := congrArg Fr.num HE.out
  have ed : (wd (mkRat (sg b m) n).den) = wd n' := congrArg Fr.den HE.out
  have HEL := Lib.hid el
  have HED := Lib.hid ed
  have HGG := Lib.hid (show ∀ wx, Rd wx A c (wd m) → Rd wx B d (wd n) → Calls Try.prog 41 #[.slice A (wd m).length c, .slice B (wd n).length d] wx (One wx g) from fun wx h1 h2 => by
    have := ggcd_any A B m n c d wx h1 h2 lm ln (by rw [← HG.out]; omega)
    rw [← HG.out] at this
    exact this)
  clear hg hm' hn' h0 el ed
  go_enter Try.func23, Try.ntmps23
  go_wp2_with fail
  refine (HGG.out _ (HA.out.ext ((Ext.refl w).alloc _)) (HB.out.ext ((Ext.refl w).alloc _))).mono ?_
  rintro e w1 ⟨A1, c1, rfl, h1, hx1⟩
  have H1 := Lib.hid h1
  have HX1 := Lib.hid hx1
  clear h1 hx1
  go_wp2_with fail
  refine (gover3_any A A1 m g _ _ _ (HA.out.ext (((Ext.refl w).alloc _).trans HX1.out)) H1.out.rd (by omega) lm (by omega) m' HM'.out).mono ?_
  rintro e w2 ⟨A2, c2, rfl, h2, hx2⟩
  have H2 := Lib.hid h2
  have HX2 := Lib.hid (HX1.out.trans hx2)
  have H1 := Lib.hid (H1.out.ext hx2)
  clear h2 hx2
  go_wp2_with fail
  refine (gover3_any B A1 n g _ _ _ (HB.out.ext (((Ext.refl w).alloc _).trans HX2.out)) H1.out.rd (by omega) ln (by omega) n' HN'.out).mono ?_
  rintro e w3 ⟨A3, c3, rfl, h3, hx3⟩
  have HAp := Lib.hid (H2.out.apart h3 (Nat.le_refl _))
  have H3 := Lib.hid (h3.lower (show w.heap.size + 1 ≤ w2.heap.size by have := HX2.out.size; simp at this; omega))
  have H2 := Lib.hid ((H2.out.ext hx3).lower (show w.heap.size + 1 ≤ w1.heap.size by have := HX1.out.size; simp at this; omega))
  have HX3 := Lib.hid (HX2.out.trans hx3)
  have hz : w.heap.size < w3.heap.size := by have := HX3.out.size; simp at this; omega
  obtain ⟨hc, hf⟩ := bcell HX3.out
  have HXw := Lib.hid (((Ext.refl w).alloc _).trans HX3.out)
  clear h3 hx3 H1
  by_cases l1 : 2048 < (wd m').length
  · have HT := Lib.hid (show tell (mkRat (sg b m) n) = (Fr.zero, 3) by unfold tell lng; rw [HEL.out, if_pos (by simp; omega)])
    go_wp2_with fail
    exact bodyPost_ret (v := .tuple #[.agg #[.bool false, .slice none 0 0, .slice none 0 0], .int .i64 3]) (by simp [results, Try.results23, go_sem, hc, World.cell?_alloc_lt, hz]) rfl (RatP.nil HT.out rfl (by repeat (first | exact HXw.out | refine Ext.setCell ?_ (by simp; try omega) _ | refine Ext.alloc ?_ _)))
  · by_cases l2 : 2048 < (wd n').length
    · have HT := Lib.hid (show tell (mkRat (sg b m) n) = (Fr.zero, 3) by unfold tell lng; rw [HED.out, if_pos (by simp; omega)])
      go_wp2_with fail
      exact bodyPost_ret (v := .tuple #[.agg #[.bool false, .slice none 0 0, .slice none 0 0], .int .i64 3]) (by simp [results, Try.results23, go_sem, hc, World.cell?_alloc_lt, hz]) rfl (RatP.nil HT.out rfl (by repeat (first | exact HXw.out | refine Ext.setCell ?_ (by simp; try omega) _ | refine Ext.alloc ?_ _)))
    · have HT := Lib.hid (show tell (mkRat (sg b m) n) = (⟨b, wd m', wd n'⟩, 0) by unfold tell lng; rw [HEL.out, HED.out, if_neg (by simp; omega), HE.out, decide_eq_true hm0, Bool.and_true])
      go_wp2_with fail

      exact bodyPost_ret (v := .tuple #[.agg #[.bool b, .slice A2 (wd m').length c2, .slice A3 (wd n').length c3], .int .i64 0]) (by simp [results, Try.results23, go_sem, hc, World.cell?_alloc_lt, hz]) rfl (RatP.mk HT.out rfl (by refine Own.lower ?_ (Nat.le_succ _); repeat (first | (with_reducible exact H2.out) | refine Own.setBelow ?_ (Nat.lt_succ_self _) _ | refine Own.ext ?_ ((Ext.refl _).alloc _))) (by refine Own.lower ?_ (Nat.le_succ _); repeat (first | (with_reducible exact H3.out) | refine Own.setBelow ?_ (Nat.lt_succ_self _) _ | refine Own.ext ?_ ((Ext.refl _).alloc _))) HAp.out (by repeat (first | exact HXw.out | refine Ext.setCell ?_ (by simp; try omega) _ | refine Ext.alloc ?_ _)))

end Go.Proofs.Ytnhgagfkepmanaa
