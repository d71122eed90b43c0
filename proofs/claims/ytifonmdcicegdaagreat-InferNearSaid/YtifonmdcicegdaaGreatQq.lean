/- Texts of this claim, joined: G8 G9a G10 G11 G12 G13 G14 G15. -/
import Derived.Test.YtifonmdcicegdaaGreatQp
set_option linter.unusedVariables false
set_option linter.unusedSimpArgs false
namespace Go.Proofs.YtifonmdcicegdaaGreat
open Go Go.RowKit

theorem tell_zero : tell 0 = (⟨false, [], wd 1⟩, 0) := by
  unfold tell
  rw [if_neg (lng_of (by rw [show (0 : Rat).num.natAbs = 0 from rfl, wd_zero]; decide) (by rw [show (0 : Rat).den = 1 from rfl, wd_one]; decide)), enc_zero, wd_one]

theorem gone_any (w : World) :
    Calls Tryz.prog 152 #[] w fun e w' => ∃ A c, e = .returned (.slice A (wd 1).length c) ∧ Own w' w.heap.size A c (wd 1) ∧ Ext w w' := by
  rw [wd_one]
  have HO := Lib.hid (Own.lit w #[.int .u32 1] [1] rfl (by decide))
  go_enter Tryz.func152, Tryz.ntmps152
  go_wp2_with fail
  go_ret
  exact ⟨_, _, rfl, HO.out, (Ext.refl w).alloc _⟩

set_option maxHeartbeats 400000 in
theorem gover3_any (A B : Option Addr) (m n : Nat) (c d : Nat) (w : World) (ha : Rd w A c (wd m)) (hb : Rd w B d (wd n)) (hn : n ≠ 0) (lm : (wd m).length ≤ 8192) (ln : (wd n).length ≤ 8192) (Q : Nat) (hQ : m / n = Q) :
    Calls Tryz.prog 230 #[.slice A (wd m).length c, .slice B (wd n).length d] w fun e w' => ∃ A' c', e = .returned (.slice A' (wd Q).length c') ∧ Own w' w.heap.size A' c' (wd Q) ∧ Ext w w' := by
  have H := Lib.hid (gdivMod_any A B m n c d w ha hb hn lm ln Q _ hQ rfl)
  clear ha hb
  go_enter Tryz.func230, Tryz.ntmps230
  go_wp2_with fail
  refine H.out.mono ?_; rintro e w1 ⟨A1, c1, A2, c2, rfl, h1, _, hx1⟩
  have H1 := Lib.hid h1
  have HX1 := Lib.hid hx1
  clear h1 hx1
  go_wp2_with fail
  go_ret
  exact ⟨_, _, rfl, H1.out, HX1.out⟩

set_option maxHeartbeats 1000000 in
theorem gof3_any (b : Bool) (A B : Option Addr) (m n : Nat) (c d : Nat) (w : World) (ha : Rd w A c (wd m)) (hb : Rd w B d (wd n)) (hn : n ≠ 0) (lm : (wd m).length ≤ 8192) (ln : (wd n).length ≤ 8192) :
    Calls Tryz.prog 143 #[.bool b, .slice A (wd m).length c, .slice B (wd n).length d] w (RatP w (tell (mkRat (sg b m) n))) := by
  have HA := Lib.hid ha
  have HB := Lib.hid hb
  clear ha hb
  by_cases h0 : (wd m).length = 0
  · have hm0 : m = 0 := wd_len_zero.1 h0
    have HT := Lib.hid (show tell (mkRat (sg b m) n) = (⟨false, [], wd 1⟩, 0) by rw [hm0, sg_zero, Rat.zero_mkRat, tell_zero])
    have hbe : (((wd m).length : Int) == 0) = true := beq_iff_eq.2 (by omega)
    clear hm0 h0
    go_enter Tryz.func143, Tryz.ntmps143
    go_wp2_with fail
    refine (gone_any _).mono ?_; rintro e w1 ⟨A1, c1, rfl, h1, hx1⟩
    have HO1 : Hid (Own w1 (w.heap.size + 1) A1 c1 (wd 1)) := h1.lower (by simp)
    have HX1 := Lib.hid hx1
    have HZ1 := Lib.hid (show w.heap.size < w1.heap.size by have := hx1.size; simp at this; omega)
    obtain ⟨hc, hf⟩ := bcell hx1
    have HXw := Lib.hid (((Ext.refl w).alloc _).trans HX1.out)
    have hz := HZ1.out
    clear h1 hx1
    go_wp2_with fail
    exact bodyPost_ret (v := .tuple #[.agg #[.bool false, .slice none 0 0, .slice A1 (wd 1).length c1], .int .i64 0]) (by simp [results, Tryz.results143, go_sem, hc]) rfl (RatP.mk (xs := []) HT.out rfl (Own.nil _ _) (by refine Own.lower ?_ (Nat.le_succ _); repeat (first | (with_reducible exact HO1.out) | refine Own.setBelow ?_ (Nat.lt_succ_self _) _)) (fun _ _ h => by cases h) (by repeat (first | exact HXw.out | refine Ext.setCell ?_ (Nat.le_refl _) _)))
  have hg0 : 0 < Nat.gcd m n := Nat.gcd_pos_of_pos_right m (by omega)
  have hgl := wd_len_mono (Nat.gcd_le_right m (show 0 < n by omega))
  have hm0 : m ≠ 0 := fun e => h0 (wd_len_zero.2 e)
  have HE := Lib.hid (enc_mk b m n hn)
  have hbe : (((wd m).length : Int) == 0) = false := beq_eq_false_iff_ne.2 (by omega)
  obtain ⟨g, hg⟩ : ∃ g, g = Nat.gcd m n := ⟨_, rfl⟩
  rw [← hg] at hg0 hgl HE
  have HG := Lib.hid hg
  obtain ⟨m', hm'⟩ : ∃ x, m / g = x := ⟨_, rfl⟩
  obtain ⟨n', hn'⟩ : ∃ x, n / g = x := ⟨_, rfl⟩
  rw [hm', hn'] at HE
  have HM' := Lib.hid hm'
  have HN' := Lib.hid hn'
  have hml := wd_len_mono (show m' ≤ m by rw [← hm']; exact Nat.div_le_self _ _)
  have hnl := wd_len_mono (show n' ≤ n by rw [← hn']; exact Nat.div_le_self _ _)
  have el : (wd (mkRat (sg b m) n).num.natAbs) = wd m' := congrArg Fr.num HE.out
  have ed : (wd (mkRat (sg b m) n).den) = wd n' := congrArg Fr.den HE.out
  have HEL := Lib.hid el
  have HED := Lib.hid ed
  have HGG := Lib.hid (show ∀ wx, Rd wx A c (wd m) → Rd wx B d (wd n) → Calls Tryz.prog 157 #[.slice A (wd m).length c, .slice B (wd n).length d] wx (One wx g) from fun wx h1 h2 => by
    have := ggcd_any A B m n c d wx h1 h2 lm ln (by rw [← HG.out]; omega)
    rw [← HG.out] at this
    exact this)
  clear hg hm' hn' h0 el ed
  go_enter Tryz.func143, Tryz.ntmps143
  go_wp2_with fail
  refine (HGG.out _ (HA.out.ext ((Ext.refl w).alloc _)) (HB.out.ext ((Ext.refl w).alloc _))).mono ?_
  rintro e w1 ⟨A1, c1, rfl, h1, hx1⟩
  have H1 := Lib.hid h1
  have HX1 := Lib.hid hx1
  clear h1 hx1
  go_wp2_with fail
  refine (gover3_any A A1 m g _ _ _ (HA.out.ext (((Ext.refl w).alloc _).trans HX1.out)) H1.out.rd (by omega) lm (by omega) m' HM'.out).mono ?_
  rintro e w2 ⟨A2, c2, rfl, h2, hx2⟩
  have H2 := Lib.hid h2
  have HX2 := Lib.hid (HX1.out.trans hx2)
  have H1 := Lib.hid (H1.out.ext hx2)
  clear h2 hx2
  go_wp2_with fail
  refine (gover3_any B A1 n g _ _ _ (HB.out.ext (((Ext.refl w).alloc _).trans HX2.out)) H1.out.rd (by omega) ln (by omega) n' HN'.out).mono ?_
  rintro e w3 ⟨A3, c3, rfl, h3, hx3⟩
  have HAp := Lib.hid (H2.out.apart h3 (Nat.le_refl _))
  have H3 := Lib.hid (h3.lower (show w.heap.size + 1 ≤ w2.heap.size by have := HX2.out.size; simp at this; omega))
  have H2 := Lib.hid ((H2.out.ext hx3).lower (show w.heap.size + 1 ≤ w1.heap.size by have := HX1.out.size; simp at this; omega))
  have HX3 := Lib.hid (HX2.out.trans hx3)
  have hz : w.heap.size < w3.heap.size := by have := HX3.out.size; simp at this; omega
  obtain ⟨hc, hf⟩ := bcell HX3.out
  have HXw := Lib.hid (((Ext.refl w).alloc _).trans HX3.out)
  clear h3 hx3 H1
  by_cases l1 : 2048 < (wd m').length
  · have HT := Lib.hid (show tell (mkRat (sg b m) n) = (Fr.zero, 3) by unfold tell lng; rw [HEL.out, if_pos (by simp; omega)])
    go_wp2_with fail
    exact bodyPost_ret (v := .tuple #[.agg #[.bool false, .slice none 0 0, .slice none 0 0], .int .i64 3]) (by simp [results, Tryz.results143, go_sem, hc, World.cell?_alloc_lt, hz]) rfl (RatP.nil HT.out rfl (by repeat (first | exact HXw.out | refine Ext.setCell ?_ (by simp; try omega) _ | refine Ext.alloc ?_ _)))
  · by_cases l2 : 2048 < (wd n').length
    · have HT := Lib.hid (show tell (mkRat (sg b m) n) = (Fr.zero, 3) by unfold tell lng; rw [HED.out, if_pos (by simp; omega)])
      go_wp2_with fail
      exact bodyPost_ret (v := .tuple #[.agg #[.bool false, .slice none 0 0, .slice none 0 0], .int .i64 3]) (by simp [results, Tryz.results143, go_sem, hc, World.cell?_alloc_lt, hz]) rfl (RatP.nil HT.out rfl (by repeat (first | exact HXw.out | refine Ext.setCell ?_ (by simp; try omega) _ | refine Ext.alloc ?_ _)))
    · have HT := Lib.hid (show tell (mkRat (sg b m) n) = (⟨b, wd m', wd n'⟩, 0) by unfold tell lng; rw [HEL.out, HED.out, if_neg (by simp; omega), HE.out, decide_eq_true hm0, Bool.and_true])
      go_wp2_with fail

      exact bodyPost_ret (v := .tuple #[.agg #[.bool b, .slice A2 (wd m').length c2, .slice A3 (wd n').length c3], .int .i64 0]) (by simp [results, Tryz.results143, go_sem, hc, World.cell?_alloc_lt, hz]) rfl (RatP.mk HT.out rfl (by refine Own.lower ?_ (Nat.le_succ _); repeat (first | (with_reducible exact H2.out) | refine Own.setBelow ?_ (Nat.lt_succ_self _) _ | refine Own.ext ?_ ((Ext.refl _).alloc _))) (by refine Own.lower ?_ (Nat.le_succ _); repeat (first | (with_reducible exact H3.out) | refine Own.setBelow ?_ (Nat.lt_succ_self _) _ | refine Own.ext ?_ ((Ext.refl _).alloc _))) HAp.out (by repeat (first | exact HXw.out | refine Ext.setCell ?_ (by simp; try omega) _ | refine Ext.alloc ?_ _)))

end Go.Proofs.YtifonmdcicegdaaGreat

namespace Go.Proofs.YtifonmdcicegdaaGreat
open Go Go.RowKit

set_option maxHeartbeats 1000000 in
theorem gtrimmed_any (A : Option Addr) (xs : List Int) (c l : Nat) (b : Bool) (w : World) (h : Rd w A c xs) (hl : xs.length = l) (hb : b = decide (¬ (xs ≠ [] ∧ nth xs (xs.length - 1) = 0))) :
    Calls Tryz.prog 156 #[.slice A l c] w fun e w' => e = .returned (.bool b) ∧ w = w' := by
  subst hl
  have hlm := h.lim
  have HA := Lib.hid h
  clear h
  by_cases h0 : xs.length = 0
  · have hnil := List.eq_nil_of_length_eq_zero h0
    obtain rfl : b = true := by rw [hb]; exact decide_eq_true (fun h => h.1 hnil)
    have he : ((xs.length : Int) == 0) = true := beq_iff_eq.2 (by omega)
    clear hb hnil h0
    go_enter Tryz.func156, Tryz.ntmps156
    go_wp2
    go_ret
    exact ⟨rfl, rfl⟩
  · obtain ⟨k, hk⟩ := Nat.exists_eq_succ_of_ne_zero h0
    obtain ⟨a, rfl, hcell⟩ := HA.out.at_ k (by omega)
    have hne : xs ≠ [] := fun e => h0 (by rw [e]; rfl)
    have he : ((xs.length : Int) == 0) = false := beq_eq_false_iff_ne.2 (by omega)
    have hi : ((xs.length : Int) - 1).toNat = k := by omega
    have hkl : (k : Int) < xs.length := by omega
    by_cases hz : nth xs k = 0
    · obtain rfl : b = false := by rw [hb]; exact decide_eq_false (fun h => h ⟨hne, by rw [hk]; exact hz⟩)
      rw [hz] at hcell
      clear hz hk h0 hb
      go_enter Tryz.func156, Tryz.ntmps156
      go_wp2
      go_ret
      exact ⟨rfl, rfl⟩
    · obtain rfl : b = true := by rw [hb]; exact decide_eq_true (fun h => hz (by have := h.2; rw [hk] at this; exact this))
      have hz' : (nth xs k != 0) = true := bne_iff_ne.2 hz
      clear hz hk h0 hb
      go_enter Tryz.func156, Tryz.ntmps156
      go_wp2
      go_ret
      exact ⟨rfl, rfl⟩

end Go.Proofs.YtifonmdcicegdaaGreat

namespace Go.Proofs.YtifonmdcicegdaaGreat
open Go Go.RowKit

theorem gadd_round (us xs ys : List Int) (k : Nat) (t : Int) (hk : k < us.length) (hv : V us k + t * pw k = V xs k + V ys k) :
    V (us.set k ((nth xs k + nth ys k + t) % 4294967296)) (k + 1) + (nth xs k + nth ys k + t) / 4294967296 * pw (k + 1) = V xs (k + 1) + V ys (k + 1) := by
  have h := add_round us xs ys k t hk hv
  rw [show t + nth xs k + nth ys k = nth xs k + nth ys k + t by omega] at h
  exact h
theorem gadd_end (us : List Int) (p q L : Nat) (t : Int) (hp : (wd p).length ≤ L) (hq : (wd q).length ≤ L) (hul : us.length = L + 1) (hw : Wf us) (ht : 0 ≤ t) (hv : V us (L + 1) + t * pw (L + 1) = V (wd p) (L + 1) + V (wd q) (L + 1)) :
    val us = ((p + q : Nat) : Int) := by
  have e1 := val_wd p
  have e2 := val_wd q
  rw [← V_out _ (L + 1) (by omega)] at e1 e2
  have b1 := wd_lt_pw (p + q)
  have h1 : pw (wd (p + q)).length ≤ pw (L + 1) := pw_mono (by have := wd_len_add p q; omega)
  have h2 := V_nonneg hw (L + 1)
  have h3 := pw_pos (L + 1)
  have ht0 : t = 0 := by
    rcases Int.lt_or_le 0 t with h | h
    · exfalso
      have h4 : 1 * pw (L + 1) ≤ t * pw (L + 1) := Int.mul_le_mul_of_nonneg_right (by omega) (Int.le_of_lt h3)
      omega
    · omega
  unfold val
  rw [hul]
  rw [ht0, Int.zero_mul] at hv
  omega

set_option maxHeartbeats 1000000 in
theorem gplus_any (A B : Option Addr) (m n : Nat) (c d : Nat) (w : World) (ha : Rd w A c (wd m)) (hb : Rd w B d (wd n)) (lm : (wd m).length ≤ 8192) (ln : (wd n).length ≤ 8192) :
    Calls Tryz.prog 240 #[.slice A (wd m).length c, .slice B (wd n).length d] w fun e w' => ∃ A' c', e = .returned (.slice A' (wd (m + n)).length c') ∧ Own w' w.heap.size A' c' (wd (m + n)) ∧ Ext w w' := by
  have HA := Lib.hid ha
  have HB := Lib.hid hb
  clear ha hb
  obtain ⟨L, hL⟩ : ∃ L : Nat, L = max (wd m).length (wd n).length := ⟨_, rfl⟩
  have hmax : Max.max ((wd m).length : Int) ((wd n).length : Int) = (L : Int) := by omega
  have l1 : (wd m).length ≤ L := by omega
  have l2 : (wd n).length ≤ L := by omega
  have l3 : L ≤ 8192 := by omega
  clear hL
  go_enter Tryz.func240, Tryz.ntmps240
  go_wp2_with (at_make; refine wpList_mk rfl _ _ rfl (L + 1) _ _ rfl rfl (by omega) (by omega) (by omega) ?_; intro w1 hO hG)
  have HO := Lib.hid hO
  have HG := Lib.hid hG
  clear hO hG
  go_loopw [7, 8] (fun cy i wr => ∃ (k : Nat) (us : List Int) (t : Int), k ≤ L + 1 ∧ us.length = L + 1 ∧ Hid (Wf us) ∧ 0 ≤ t ∧ t ≤ 1 ∧ Hid (V us k + t * pw k = V (wd m) k + V (wd n) k) ∧ cy = .int .u64 t ∧ i = .int .i64 k ∧ Hid (Own wr w.heap.size (some ⟨w.heap.size, 0, none⟩) (L + 1) us) ∧ Hid (Ext w wr)) (fun _ i _ => L + 1 - (intOf i).toNat)
  case atStart => exact ⟨0, _, 0, by omega, List.length_replicate, wf_zeros _, by omega, by omega, by show _ = _; simp [V_zero], rfl, rfl, HO.out, HG.out⟩
  case round =>
    clear HO HG
    obtain ⟨k, us, t, hk, hul, hw, ht0, ht1, hv, rfl, rfl, HO, HX⟩ := hrel
    have HUL := Lib.hid hul
    clear hul
    by_cases hkm : k ≤ L
    · have HW1 := Lib.hid (gword_q A (wd m) c (wd m).length k wr (HA.out.ext HX.out) rfl)
      have HW2 := Lib.hid (gword_q B (wd n) d (wd n).length k wr (HB.out.ext HX.out) rfl)
      have hco := HO.out.cell k (by have := HUL.out; omega)
      have hfo := HO.out.free k
      have ba := nth_wf (wf_wd m) k
      have bb := nth_wf (wf_wd n) k
      have HV := Lib.hid (gadd_round us (wd m) (wd n) k t (by have := HUL.out; omega) hv.out)
      obtain ⟨x, hx⟩ : ∃ x, x = nth (wd m) k := ⟨_, rfl⟩
      obtain ⟨y, hy⟩ : ∃ y, y = nth (wd n) k := ⟨_, rfl⟩
      rw [← hx] at ba HV HW1
      rw [← hy] at bb HV HW2
      clear hx hy
      go_wp2_with fail
      refine HW1.out.mono ?_; rintro e w' ⟨rfl, rfl⟩
      go_wp2_with fail
      refine HW2.out.mono ?_; rintro e w' ⟨rfl, rfl⟩
      go_wp2_with fail
      go_roundw
      case rel => exact ⟨k + 1, _, _, by omega, by rw [List.length_set]; exact HUL.out, wf_set hw.out _ _ (by omega) (by omega), by omega, by omega, HV.out, rfl, by go_num, (HO.out.set k _).1, HX.out.setCell (Nat.le_refl _) _⟩
      case measure => simp [intOf]; omega
    · obtain rfl : k = L + 1 := by omega
      have HE := Lib.hid (gadd_end us m n L t l1 l2 HUL.out hw.out ht0 hv.out)
      go_wp2_with fail
      refine (gtrim_any _ us _ (L + 1) (m + n) _ HO.out.rd HUL.out hw.out HE.out (by omega)).mono ?_; rintro e w5 ⟨A5, c5, rfl, h5, hx5⟩
      have H5 := Lib.hid (h5.lower HX.out.size)
      have HX5 := Lib.hid (HX.out.trans hx5)
      clear h5 hx5
      go_wp2_with fail
      go_ret
      exact ⟨A5, c5, rfl, H5.out, HX5.out⟩

set_option maxHeartbeats 1000000 in
theorem gadd_any (A B : Option Addr) (m n : Nat) (c d : Nat) (w : World) (ha : Rd w A c (wd m)) (hb : Rd w B d (wd n)) (lm : (wd m).length ≤ 8191) (ln : (wd n).length ≤ 8191) :
    Calls Tryz.prog 151 #[.slice A (wd m).length c, .slice B (wd n).length d] w (One w (m + n)) := by
  have HA := Lib.hid ha
  have HB := Lib.hid hb
  have hls : (wd (m + n)).length ≤ 8192 := by have := wd_len_add m n; omega
  clear ha hb
  obtain ⟨p, hp⟩ : ∃ p, p = m + n := ⟨_, rfl⟩
  have HPL := Lib.hid (gplus_any A B m n c d w HA.out HB.out (by omega) (by omega))
  rw [← hp] at hls HPL ⊢
  clear hp
  go_enter Tryz.func151, Tryz.ntmps151
  go_wp2_with fail
  refine (gboth_ok _ _ m n _ _ _ HA.out HB.out (by omega) (by omega)).mono ?_; rintro e w1 ⟨rfl, rfl⟩
  go_wp2_with fail
  refine HPL.out.mono ?_; rintro e w1 ⟨A1, c1, rfl, h1, hx1⟩
  have H1 := Lib.hid h1
  have HX1 := Lib.hid hx1
  clear h1 hx1
  go_wp2_with fail
  refine (gtold_ok _ _ _ _ hls).mono ?_; rintro e w2 ⟨rfl, rfl⟩
  go_wp2_with fail
  go_ret2
  exact ⟨A1, c1, rfl, H1.out, HX1.out⟩

set_option maxHeartbeats 1000000 in
theorem gsub_any (A B : Option Addr) (m n : Nat) (c d : Nat) (w : World) (ha : Rd w A c (wd m)) (hb : Rd w B d (wd n)) (hnm : n ≤ m) (lm : (wd m).length ≤ 8192) :
    Calls Tryz.prog 265 #[.slice A (wd m).length c, .slice B (wd n).length d] w (One w (m - n)) := by
  have HA := Lib.hid ha
  have HB := Lib.hid hb
  have ln := wd_len_mono hnm
  have hls := wd_len_mono (Nat.sub_le m n)
  have hc : ¬ cmp m n < 0 := fun h => by have := cmp_lt_iff.1 h; omega
  clear ha hb
  obtain ⟨p, hp⟩ : ∃ p, p = m - n := ⟨_, rfl⟩
  have HPL := Lib.hid (gless_any A B (wd m) n c d (wd m).length m w HA.out HB.out rfl (wf_wd m) (val_wd m) hnm (by omega))
  rw [← hp] at hls HPL ⊢
  clear hp
  go_enter Tryz.func265, Tryz.ntmps265
  go_wp2_with fail
  refine (gboth_ok _ _ m n _ _ _ HA.out HB.out (by omega) (by omega)).mono ?_; rintro e w1 ⟨rfl, rfl⟩
  go_wp2_with fail
  refine (gcompare_any _ _ (wd m) (wd n) _ _ _ _ m n _ HA.out HB.out rfl rfl (wf_wd m) (wf_wd n) (val_wd m) (val_wd n)).mono ?_; rintro e w1 ⟨rfl, rfl⟩
  go_wp2_with fail
  refine HPL.out.mono ?_; rintro e w1 ⟨A1, c1, rfl, h1, hx1⟩
  have H1 := Lib.hid h1
  have HX1 := Lib.hid hx1
  clear h1 hx1
  go_wp2_with fail
  refine (gtold_ok _ _ _ _ (by omega)).mono ?_; rintro e w2 ⟨rfl, rfl⟩
  go_wp2_with fail
  go_ret2
  exact ⟨A1, c1, rfl, H1.out, HX1.out⟩

set_option maxHeartbeats 1000000 in
theorem gmul_any (A B : Option Addr) (m n : Nat) (c d : Nat) (w : World) (ha : Rd w A c (wd m)) (hb : Rd w B d (wd n)) (ls : (wd m).length + (wd n).length ≤ 8192) :
    Calls Tryz.prog 231 #[.slice A (wd m).length c, .slice B (wd n).length d] w (One w (m * n)) := by
  have HA := Lib.hid ha
  have HB := Lib.hid hb
  have hls := wd_len_mul m n
  clear ha hb
  obtain ⟨p, hp⟩ : ∃ p, p = m * n := ⟨_, rfl⟩
  have HPL := Lib.hid (gtimes_any A B m n c d w HA.out HB.out (by omega))
  rw [← hp] at hls HPL ⊢
  clear hp
  go_enter Tryz.func231, Tryz.ntmps231
  go_wp2_with fail
  refine (gboth_ok _ _ m n _ _ _ HA.out HB.out (by omega) (by omega)).mono ?_; rintro e w1 ⟨rfl, rfl⟩
  go_wp2_with fail
  all_goals
    refine HPL.out.mono ?_; rintro e w1 ⟨A1, c1, rfl, h1, hx1⟩
    have H1 := Lib.hid h1
    have HX1 := Lib.hid hx1
    clear h1 hx1
    go_wp2_with fail
    refine (gtold_ok _ _ _ _ (by omega)).mono ?_; rintro e w2 ⟨rfl, rfl⟩
    go_wp2_with fail
    go_ret2
    exact ⟨A1, c1, rfl, H1.out, HX1.out⟩

set_option maxHeartbeats 400000 in
theorem gtimes3_any (A B : Option Addr) (m n : Nat) (c d : Nat) (w : World) (ha : Rd w A c (wd m)) (hb : Rd w B d (wd n)) (ls : (wd m).length + (wd n).length ≤ 8192) :
    Calls Tryz.prog 144 #[.slice A (wd m).length c, .slice B (wd n).length d] w fun e w' => ∃ A' c', e = .returned (.slice A' (wd (m * n)).length c') ∧ Own w' w.heap.size A' c' (wd (m * n)) ∧ Ext w w' := by
  have H := Lib.hid (gmul_any A B m n c d w ha hb ls)
  clear ha hb
  go_enter Tryz.func144, Tryz.ntmps144
  go_wp2_with fail
  refine H.out.mono ?_; rintro e w1 ⟨A1, c1, rfl, h1, hx1⟩
  have H1 := Lib.hid h1
  have HX1 := Lib.hid hx1
  clear h1 hx1
  go_wp2_with fail
  go_ret
  exact ⟨_, _, rfl, H1.out, HX1.out⟩

end Go.Proofs.YtifonmdcicegdaaGreat

namespace Go.Proofs.YtifonmdcicegdaaGreat
open Go Go.RowKit

set_option maxHeartbeats 1000000 in
theorem gsame_any (A B : Option Addr) (xs ys : List Int) (c d l : Nat) (w : World) (ha : Rd w A c xs) (hb : Rd w B d ys) (hl : xs.length = l) (n : Nat) (hn : ys.length = n) (b : Bool) (hbb : decide (xs = ys) = b) :
    Calls Tryz.prog 158 #[.slice A l c, .slice B n d] w fun e w' => e = .returned (.bool b) ∧ Quiet w w' := by
  have HL := Lib.hid hl
  have HN := Lib.hid hn
  have HA := Lib.hid ha
  have HB := Lib.hid hb
  have HBB := Lib.hid hbb
  have hll := ha.lim
  rw [hl] at hll
  clear ha hb hl hn hbb
  by_cases hne : l = n
  · subst hne
    have hbn : ((l : Int) != (l : Int)) = false := by simp
    go_enter Tryz.func158, Tryz.ntmps158
    go_wp2_with fail
    go_loopw [5] (fun i wr => ∃ k : Nat, k ≤ l ∧ i = .int .i64 k ∧ Hid (∀ j, j < k → nth xs j = nth ys j) ∧ Hid (Quiet w wr)) (fun i _ => l - (intOf i).toNat)
    case atStart => exact ⟨0, by omega, rfl, fun j hj => by omega, Quiet.refl w⟩
    case round =>
      obtain ⟨k, hk, rfl, HE, HQ⟩ := hrel
      by_cases hkl : k < l
      · obtain ⟨a, rfl, hca⟩ := (HA.out.ext HQ.out.ext).at_ k (by rw [HL.out]; exact hkl)
        obtain ⟨b', rfl, hcb⟩ := (HB.out.ext HQ.out.ext).at_ k (by rw [HN.out]; exact hkl)
        by_cases he : nth xs k = nth ys k
        · have HE2 := Lib.hid (show ∀ j, j < k + 1 → nth xs j = nth ys j from fun j hj => by
            by_cases e : j = k
            · rw [e]; exact he
            · exact HE.out j (by omega))
          have hne : (nth xs k != nth ys k) = false := bne_eq_false_iff_eq.2 he
          clear he
          go_wp2_with fail
          go_quiet (fail)
          go_wp2_with fail
          go_roundw
          case rel => exact ⟨k + 1, by omega, by go_num, HE2.out, HQ.out.drewN _⟩
          case measure => simp [intOf]; omega
        · have hne : (nth xs k != nth ys k) = true := bne_iff_ne.2 he
          have HF := Lib.hid (show b = false by rw [← HBB.out]; exact decide_eq_false (fun e => he (by rw [e])))
          clear he
          go_wp2_with fail
          go_quiet (fail)
          go_wp2_with fail
          go_ret
          exact ⟨by rw [HF.out]; rfl, HQ.out.drewN _⟩
      · have hkk : k = l := by omega
        have HF := Lib.hid (show b = true by rw [← HBB.out]; exact decide_eq_true (nth_ext (HL.out.trans HN.out.symm) (fun j hj => HE.out j (by have := HL.out; omega))))
        go_wp2_with fail
        go_ret
        exact ⟨by rw [HF.out]; rfl, HQ.out⟩
  · have hbn : ((l : Int) != (n : Int)) = true := bne_iff_ne.2 (by omega)
    have HF := Lib.hid (show b = false by rw [← HBB.out]; exact decide_eq_false (fun e => hne (by rw [← HL.out, ← HN.out, e])))
    go_enter Tryz.func158, Tryz.ntmps158
    go_wp2_with fail
    go_ret
    exact ⟨by rw [HF.out]; rfl, Quiet.refl w⟩

end Go.Proofs.YtifonmdcicegdaaGreat

namespace Go.Proofs.YtifonmdcicegdaaGreat
open Go Go.RowKit

theorem sg_add_same (s : Bool) (X Y : Nat) : sg s (X + Y) = sg s X + sg s Y := by unfold sg; cases s <;> simp <;> omega
theorem sg_add_less (s t : Bool) (X Y : Nat) (h : s ≠ t) (hl : X < Y) : sg t (Y - X) = sg s X + sg t Y := by unfold sg; cases s <;> cases t <;> simp at h ⊢ <;> omega
theorem sg_add_more (s t : Bool) (X Y : Nat) (h : s ≠ t) (hl : Y ≤ X) : sg (s && decide (0 < X - Y)) (X - Y) = sg s X + sg t Y := by
  by_cases h0 : 0 < X - Y
  · rw [decide_eq_true h0]; unfold sg; cases s <;> cases t <;> simp at h ⊢ <;> omega
  · rw [decide_eq_false h0]; unfold sg; cases s <;> cases t <;> simp at h ⊢ <;> omega

/-- a sign and a size are told: their number is z -/
def SgP (w : World) (z : Int) (e : Ending) (w' : World) : Prop := ∃ (v : Bool) (D : Nat) (A : Option Addr) (c : Nat), sg v D = z ∧ e = .returned (.tuple #[.bool v, .slice A (wd D).length c]) ∧ Own w' w.heap.size A c (wd D) ∧ Ext w w'

set_option maxHeartbeats 1000000 in
theorem gsigned_any (s t : Bool) (A B : Option Addr) (X Y : Nat) (c d : Nat) (w : World) (ha : Rd w A c (wd X)) (hb : Rd w B d (wd Y)) (lX : (wd X).length ≤ 8191) (lY : (wd Y).length ≤ 8191) :
    Calls Tryz.prog 227 #[.bool s, .slice A (wd X).length c, .bool t, .slice B (wd Y).length d] w (SgP w (sg s X + sg t Y)) := by
  have HA := Lib.hid ha
  have HB := Lib.hid hb
  clear ha hb
  by_cases hst : s = t
  · subst hst
    have hb1 : (s == s) = true := beq_self_eq_true s
    have HZ := Lib.hid (sg_add_same s X Y)
    obtain ⟨D, hD⟩ : ∃ D, D = X + Y := ⟨_, rfl⟩
    have HC := Lib.hid (gadd_any A B X Y c d w HA.out HB.out lX lY)
    rw [← hD] at HZ HC
    clear hD
    go_enter Tryz.func227, Tryz.ntmps227
    go_wp2_with fail
    refine HC.out.mono ?_; rintro e w1 ⟨A1, c1, rfl, h1, hx1⟩
    have H1 := Lib.hid h1
    have HX1 := Lib.hid hx1
    clear h1 hx1
    go_wp2_with fail
    go_ret2
    exact ⟨s, D, A1, c1, HZ.out, rfl, H1.out, HX1.out⟩
  · have hb1 : (s == t) = false := beq_eq_false_iff_ne.2 hst
    rcases Nat.lt_or_ge X Y with hl | hl
    · have hc : cmp X Y < 0 := cmp_lt_iff.2 hl
      have HZ := Lib.hid (sg_add_less s t X Y hst hl)
      obtain ⟨D, hD⟩ : ∃ D, D = Y - X := ⟨_, rfl⟩
      have HC := Lib.hid (gsub_any B A Y X d c w HB.out HA.out (by omega) (by omega))
      rw [← hD] at HZ HC
      clear hD
      go_enter Tryz.func227, Tryz.ntmps227
      go_wp2_with fail
      refine (gcompare_any _ _ (wd X) (wd Y) _ _ _ _ X Y _ HA.out HB.out rfl rfl (wf_wd X) (wf_wd Y) (val_wd X) (val_wd Y)).mono ?_; rintro e w1 ⟨rfl, rfl⟩
      go_wp2_with fail
      refine HC.out.mono ?_; rintro e w1 ⟨A1, c1, rfl, h1, hx1⟩
      have H1 := Lib.hid h1
      have HX1 := Lib.hid hx1
      clear h1 hx1
      go_wp2_with fail
      go_ret2
      exact ⟨t, D, A1, c1, HZ.out, rfl, H1.out, HX1.out⟩
    · have hc : ¬ cmp X Y < 0 := fun h => by have := cmp_lt_iff.1 h; omega
      have HZ := Lib.hid (sg_add_more s t X Y hst hl)
      obtain ⟨D, hD⟩ : ∃ D, D = X - Y := ⟨_, rfl⟩
      have HC := Lib.hid (gsub_any A B X Y c d w HA.out HB.out hl (by omega))
      rw [← hD] at HZ HC
      have HDL := Lib.hid (show decide (0 < D) = decide (0 < (wd D).length) by
        have := @wd_len_zero D
        apply decide_eq_decide.2
        omega)
      clear hD
      cases s with
      | false =>
        go_enter Tryz.func227, Tryz.ntmps227
        go_wp2_with fail
        refine (gcompare_any _ _ (wd X) (wd Y) _ _ _ _ X Y _ HA.out HB.out rfl rfl (wf_wd X) (wf_wd Y) (val_wd X) (val_wd Y)).mono ?_; rintro e w1 ⟨rfl, rfl⟩
        go_wp2_with fail
        refine HC.out.mono ?_; rintro e w1 ⟨A1, c1, rfl, h1, hx1⟩
        have H1 := Lib.hid h1
        have HX1 := Lib.hid hx1
        clear h1 hx1
        go_wp2_with fail
        go_ret2
        exact ⟨false, D, A1, c1, HZ.out, rfl, H1.out, HX1.out⟩
      | true =>
        go_enter Tryz.func227, Tryz.ntmps227
        go_wp2_with fail
        refine (gcompare_any _ _ (wd X) (wd Y) _ _ _ _ X Y _ HA.out HB.out rfl rfl (wf_wd X) (wf_wd Y) (val_wd X) (val_wd Y)).mono ?_; rintro e w1 ⟨rfl, rfl⟩
        go_wp2_with fail
        refine HC.out.mono ?_; rintro e w1 ⟨A1, c1, rfl, h1, hx1⟩
        have H1 := Lib.hid h1
        have HX1 := Lib.hid hx1
        clear h1 hx1
        go_wp2_with fail
        go_ret2
        exact ⟨true && decide (0 < D), D, A1, c1, HZ.out, by rw [HDL.out, Bool.true_and]; rfl, H1.out, HX1.out⟩

end Go.Proofs.YtifonmdcicegdaaGreat

namespace Go.Proofs.YtifonmdcicegdaaGreat
open Go Go.RowKit

theorem gplus_made (p q : Rat) : mkRat (sg (decide (p.num < 0)) (p.num.natAbs * q.den) + sg (decide (q.num < 0)) (q.num.natAbs * p.den)) (p.den * q.den) = p + q := by
  have h : ∀ (x : Rat) (k : Nat), sg (decide (x.num < 0)) (x.num.natAbs * k) = x.num * k := fun x k => by
    have h1 := sg_num x
    unfold sg at h1 ⊢
    split
    · rename_i hs; rw [if_pos hs] at h1; rw [Int.natCast_mul, ← Int.neg_mul, h1]
    · rename_i hs; rw [if_neg hs] at h1; rw [Int.natCast_mul, h1]
  rw [h, h, Rat.add_def']

set_option maxRecDepth 4000 in
set_option maxHeartbeats 2000000 in
theorem gadd_gen (s t : Bool) (A B C D : Option Addr) (a b a' b' : Nat) (c1 c2 c3 c4 : Nat) (w : World) (r : Rat) (ha : Rd w A c1 (wd a)) (hb : Rd w B c2 (wd b)) (hc : Rd w C c3 (wd a')) (hd : Rd w D c4 (wd b')) (hb0 : b ≠ 0) (hb0' : b' ≠ 0)
    (la : (wd a).length ≤ 2048) (lb : (wd b).length ≤ 2048) (la' : (wd a').length ≤ 2048) (lb' : (wd b').length ≤ 2048)
    (hr : mkRat (sg s (a * b') + sg t (a' * b)) (b * b') = r) :
    Calls Tryz.prog 138 #[.agg #[.bool s, .slice A (wd a).length c1, .slice B (wd b).length c2], .agg #[.bool t, .slice C (wd a').length c3, .slice D (wd b').length c4]] w (RatP w (tell r)) := by
  have lX := wd_len_mul a b'
  have lY := wd_len_mul a' b
  have lZ := wd_len_mul b b'
  have hZ0 : b * b' ≠ 0 := Nat.mul_ne_zero hb0 hb0'
  obtain ⟨X, hX⟩ : ∃ X, X = a * b' := ⟨_, rfl⟩
  obtain ⟨Y, hY⟩ : ∃ Y, Y = a' * b := ⟨_, rfl⟩
  obtain ⟨Z, hZ⟩ : ∃ Z, Z = b * b' := ⟨_, rfl⟩
  have HT1 := Lib.hid (fun wx x1 x2 => gtimes3_any A D a b' c1 c4 wx x1 x2 (by omega))
  have HT2 := Lib.hid (fun wx x1 x2 => gtimes3_any C B a' b c3 c2 wx x1 x2 (by omega))
  have HT3 := Lib.hid (fun wx x1 x2 => gtimes3_any B D b b' c2 c4 wx x1 x2 (by omega))
  rw [← hX] at lX HT1
  rw [← hY] at lY HT2
  rw [← hZ] at lZ hZ0 HT3
  rw [← hX, ← hY, ← hZ] at hr
  have HR := Lib.hid hr
  have HA := Lib.hid ha
  have HB := Lib.hid hb
  have HC := Lib.hid hc
  have HD := Lib.hid hd
  clear hX hY hZ hr ha hb hc hd hb0 hb0'
  obtain ⟨tt, htt⟩ : ∃ tt, tt = tell r := ⟨_, rfl⟩
  have HT := Lib.hid htt.symm
  clear htt
  go_enter Tryz.func138, Tryz.ntmps138
  go_wp2_with fail
  have HX := Lib.hid ((((Ext.refl w).alloc (.cells #[.bool s, .slice A (wd a).length c1, .slice B (wd b).length c2] 24)).alloc (.cells #[.bool t, .slice C (wd a').length c3, .slice D (wd b').length c4] 24)).alloc (.cells #[.bool false, .slice none 0 0, .slice none 0 0] 24))
  obtain ⟨W, hW⟩ : ∃ W, W = (((w.alloc (.cells #[.bool s, .slice A (wd a).length c1, .slice B (wd b).length c2] 24)).alloc (.cells #[.bool t, .slice C (wd a').length c3, .slice D (wd b').length c4] 24)).alloc (.cells #[.bool false, .slice none 0 0, .slice none 0 0] 24)) := ⟨_, rfl⟩
  have F0 : Six W w.heap.size (.bool s) (.slice A (wd a).length c1) (.slice B (wd b).length c2) (.bool t) (.slice C (wd a').length c3) (.slice D (wd b').length c4) := by rw [hW]; refine ⟨?_, ?_, ?_, ?_, ?_, ?_⟩ <;> simp [go_sem]
  have R0 : W.cell? ⟨w.heap.size + 2, 0, none⟩ = some (.bool false) ∧ W.cell? ⟨w.heap.size + 2, 1, none⟩ = some (.slice none 0 0) ∧ W.cell? ⟨w.heap.size + 2, 2, none⟩ = some (.slice none 0 0) := by rw [hW]; refine ⟨?_, ?_, ?_⟩ <;> simp [go_sem]
  have Z0 : W.heap.size = w.heap.size + 3 := by rw [hW]; simp
  have RF : ∀ o, W.frozen? ⟨w.heap.size + 2, o, none⟩ = false := by intro o; rw [hW]; simp [go_sem]
  rw [← hW] at HX
  have HR0 := Lib.hid R0
  have HRF := Lib.hid RF
  have HZ0 := Lib.hid Z0
  try rw [← hW]
  clear hW R0 RF Z0
  go_region_held3 (fun w' => w'.cell? ⟨w.heap.size, 0, none⟩ = some (.bool s) ∧ w'.cell? ⟨w.heap.size, 1, none⟩ = some (.slice A (wd a).length c1) ∧ w'.cell? ⟨w.heap.size, 2, none⟩ = some (.slice B (wd b).length c2) ∧ w'.cell? ⟨w.heap.size + 1, 0, none⟩ = some (.bool t) ∧ w'.cell? ⟨w.heap.size + 1, 1, none⟩ = some (.slice C (wd a').length c3) ∧ w'.cell? ⟨w.heap.size + 1, 2, none⟩ = some (.slice D (wd b').length c4)) (repeat (first | (with_reducible exact F0) | (with_reducible exact F1) | (with_reducible exact F2) | (with_reducible exact F3) | (with_reducible refine six_drew ?_)))
    (first
      | (go_at_call 144; with_reducible refine (HT1.out _ (HA.out.ext HX.out.drew) (HD.out.ext HX.out.drew)).mono ?_; rintro e w1 ⟨A1, d1, rfl, k1, hx1⟩; have K1 := Lib.hid k1; have HX1 := Lib.hid hx1; have F1 := six_ext hx1 (six_drew F0); clear k1 hx1)
      | (go_at_call 144; with_reducible refine (HT2.out _ (HC.out.ext (HX.out.drew.trans HX1.out)) (HB.out.ext (HX.out.drew.trans HX1.out))).mono ?_; rintro e w2 ⟨A2, d2, rfl, k2, hx2⟩; have K2 := Lib.hid k2; have HX2 := Lib.hid hx2; have F2 := six_ext hx2 F1; clear k2 hx2)
      | (go_at_call 227; (with_reducible refine (gsigned_any s t A1 A2 X Y d1 d2 w2 (K1.out.rd.ext HX2.out) K2.out.rd (by omega) (by omega)).mono ?_); rintro e w3 ⟨v, N, A3, d3, hz, rfl, k3, hx3⟩; have HZV := Lib.hid hz; have K3 := Lib.hid k3; have HX3 := Lib.hid hx3; have F3 := six_ext hx3 F2; clear hz k3 hx3))
  all_goals
    have HXa := Lib.hid (show Ext W w3 from (((Ext.refl W).drew.trans HX1.out).trans HX2.out).trans HX3.out)
    have hNl : (wd N).length ≤ 8192 := by
      have h1 : N ≤ X + Y := by
        have := HZV.out
        unfold sg at this
        split at this <;> split at this <;> (try split at this) <;> omega
      have h2 := wd_len_mono h1
      have h3 := wd_len_add X Y
      omega
    clear F0 F1 F2
    obtain ⟨u0, u1, u2, v0, v1, v2⟩ := id F3
    go_wp2_with fail
    refine (HT3.out _ (HB.out.ext (HX.out.trans HXa.out)) (HD.out.ext (HX.out.trans HXa.out))).mono ?_
    rintro e w4 ⟨A4, d4, rfl, k4, hx4⟩
    have K4 := Lib.hid k4
    have HX4 := Lib.hid (HXa.out.trans hx4)
    have KN := Lib.hid (K3.out.ext hx4)
    clear k4 hx4 F3
    go_wp2_with fail
    refine (gof3_any v A3 A4 N Z d3 d4 _ KN.out.rd K4.out.rd hZ0 hNl (by omega)).mono ?_
    rw [HZV.out, HR.out, HT.out]
    rintro e w5 ⟨A5, d5, B5, e5, rfl, k5, k6, k7, hx5⟩
    have K5 := Lib.hid (k5.lower (show w.heap.size + 3 ≤ w4.heap.size by have := HX4.out.size; have := HZ0.out; omega))
    have K6 := Lib.hid (k6.lower (show w.heap.size + 3 ≤ w4.heap.size by have := HX4.out.size; have := HZ0.out; omega))
    have K7 := Lib.hid k7
    have HX5 := Lib.hid (HX4.out.trans hx5)
    have HXw := Lib.hid (HX.out.trans HX5.out)
    have r0 := HX5.out.cell HR0.out.1
    have r1 := HX5.out.cell HR0.out.2.1
    have r2 := HX5.out.cell HR0.out.2.2
    have f0 := (HX5.out.frozen HR0.out.1).trans (HRF.out 0)
    have f1 := (HX5.out.frozen HR0.out.2.1).trans (HRF.out 1)
    have f2 := (HX5.out.frozen HR0.out.2.2).trans (HRF.out 2)
    clear k5 k6 k7 hx5 u0 u1 u2 v0 v1 v2
    go_wp2_with fail
    exact bodyPost_ret (v := .tuple #[.agg #[.bool tt.1.neg, .slice A5 tt.1.num.length d5, .slice B5 tt.1.den.length e5], .int .i64 tt.2]) (by simp [results, Tryz.results138, go_sem, r0, r1, r2]) rfl (RatP.mk HT.out rfl (by refine Own.lower ?_ (show w.heap.size ≤ w.heap.size + 3 by omega); repeat (first | (with_reducible exact K5.out) | refine Own.setBelow ?_ (by simp; try omega) _)) (by refine Own.lower ?_ (show w.heap.size ≤ w.heap.size + 3 by omega); repeat (first | (with_reducible exact K6.out) | refine Own.setBelow ?_ (by simp; try omega) _)) K7.out (by repeat (first | (with_reducible exact HXw.out) | refine Ext.setCell ?_ (by simp; try omega) _)))

end Go.Proofs.YtifonmdcicegdaaGreat

namespace Go.Proofs.YtifonmdcicegdaaGreat
open Go Go.RowKit

theorem trim_chk {xs : List Int} (h : xs.length ≤ 8192) : decide (¬ (xs ≠ [] ∧ nth xs (xs.length - 1) = 0)) = decide (chk xs = 0) := by
  unfold chk
  rw [if_neg (by omega)]
  by_cases h1 : xs ≠ [] ∧ nth xs (xs.length - 1) = 0
  · rw [if_pos h1, decide_eq_false (fun h => h h1), decide_eq_false (by omega)]
  · rw [if_neg h1, decide_eq_true h1]; rfl

set_option maxHeartbeats 2000000 in
theorem gcheck3_any (s : Bool) (A B : Option Addr) (xs ys : List Int) (c d : Nat) (w : World) (ha : Rd w A c xs) (hb : Rd w B d ys) (hx : Wf xs) (hy : Wf ys) :
    Calls Tryz.prog 30 #[.agg #[.bool s, .slice A xs.length c, .slice B ys.length d]] w fun e w' => e = .returned (.int .i64 (fchk ⟨s, xs, ys⟩)) ∧ Ext w w' := by
  have hl := ha.lim
  have hly := hb.lim
  have HX := Lib.hid ((Ext.refl w).alloc (.cells #[.bool s, .slice A xs.length c, .slice B ys.length d] 24))
  have HA := Lib.hid (ha.ext HX.out)
  have HB := Lib.hid (hb.ext HX.out)
  clear ha hb
  by_cases h1 : 2048 < xs.length
  · have HE := Lib.hid (show fchk ⟨s, xs, ys⟩ = 3 from if_pos h1)
    rw [HE.out]
    go_enter Tryz.func30, Tryz.ntmps30
    go_wp2_with fail
    go_ret
    exact ⟨rfl, HX.out⟩
  by_cases h2 : 2048 < ys.length
  · have HE := Lib.hid (show fchk ⟨s, xs, ys⟩ = 3 by unfold fchk; rw [if_neg h1, if_pos h2])
    rw [HE.out]
    go_enter Tryz.func30, Tryz.ntmps30
    go_wp2_with fail
    go_ret
    exact ⟨rfl, HX.out⟩
  have HTA := Lib.hid (fun b (hb : decide (chk xs = 0) = b) => gtrimmed_any A xs c xs.length b _ HA.out rfl (by rw [trim_chk (by omega), hb]))
  have HTB := Lib.hid (fun b (hb : decide (chk ys = 0) = b) => gtrimmed_any B ys d ys.length b _ HB.out rfl (by rw [trim_chk (by omega), hb]))
  by_cases h3 : chk xs ≠ 0
  · have HE := Lib.hid (show fchk ⟨s, xs, ys⟩ = 11 by unfold fchk; rw [if_neg h1, if_neg h2, if_pos h3])
    have HFA := Lib.hid (HTA.out false (decide_eq_false h3))
    rw [HE.out]
    clear h3
    go_enter Tryz.func30, Tryz.ntmps30
    go_wp2_with fail
    refine HFA.out.mono ?_; rintro e w' ⟨rfl, rfl⟩
    go_wp2_with fail
    go_ret
    exact ⟨rfl, HX.out⟩
  have HFA := Lib.hid (HTA.out true (decide_eq_true (by simpa using h3)))
  by_cases h4 : chk ys ≠ 0
  · have HE := Lib.hid (show fchk ⟨s, xs, ys⟩ = 11 by unfold fchk; rw [if_neg h1, if_neg h2, if_neg h3, if_pos h4])
    have HFB := Lib.hid (HTB.out false (decide_eq_false h4))
    rw [HE.out]
    clear h3 h4
    go_enter Tryz.func30, Tryz.ntmps30
    go_wp2_with fail
    refine HFA.out.mono ?_; rintro e w' ⟨rfl, rfl⟩
    go_wp2_with fail
    refine HFB.out.mono ?_; rintro e w' ⟨rfl, rfl⟩
    go_wp2_with fail
    go_ret
    exact ⟨rfl, HX.out⟩
  have HFB := Lib.hid (HTB.out true (decide_eq_true (by simpa using h4)))
  by_cases h5 : ys.length = 0
  · have HE := Lib.hid (show fchk ⟨s, xs, ys⟩ = 11 by unfold fchk; rw [if_neg h1, if_neg h2, if_neg h3, if_neg h4, if_pos h5])
    have hb3 : ((ys.length : Int) == 0) = true := beq_iff_eq.2 (by omega)
    rw [HE.out]
    clear h3 h4 h5
    go_enter Tryz.func30, Tryz.ntmps30
    go_wp2_with fail
    refine HFA.out.mono ?_; rintro e w' ⟨rfl, rfl⟩
    go_wp2_with fail
    refine HFB.out.mono ?_; rintro e w' ⟨rfl, rfl⟩
    go_wp2_with fail
    go_ret
    exact ⟨rfl, HX.out⟩
  have hb3 : ((ys.length : Int) == 0) = false := beq_eq_false_iff_ne.2 (by omega)
  by_cases h6 : xs.length = 0 ∧ s = true
  · have HE := Lib.hid (show fchk ⟨s, xs, ys⟩ = 11 by unfold fchk; rw [if_neg h1, if_neg h2, if_neg h3, if_neg h4, if_neg h5, if_pos h6])
    have hb4 : ((xs.length : Int) == 0) = true := beq_iff_eq.2 (by omega)
    obtain rfl : s = true := h6.2
    rw [HE.out]
    clear h3 h4 h5 h6
    go_enter Tryz.func30, Tryz.ntmps30
    go_wp2_with fail
    refine HFA.out.mono ?_; rintro e w' ⟨rfl, rfl⟩
    go_wp2_with fail
    refine HFB.out.mono ?_; rintro e w' ⟨rfl, rfl⟩
    go_wp2_with fail
    go_ret
    exact ⟨rfl, HX.out⟩
  obtain ⟨ex, lx⟩ := chk_ok hx (by simpa using h3)
  obtain ⟨ey, ly⟩ := chk_ok hy (by simpa using h4)
  obtain ⟨m, hm⟩ : ∃ m, m = (val xs).toNat := ⟨_, rfl⟩
  obtain ⟨n, hn⟩ : ∃ n, n = (val ys).toNat := ⟨_, rfl⟩
  rw [← hm] at ex
  rw [← hn] at ey
  have HE : (Nat.gcd m n = 1 → fchk ⟨s, xs, ys⟩ = 0) ∧ (Nat.gcd m n ≠ 1 → fchk ⟨s, xs, ys⟩ = 11) := by
    unfold fchk
    rw [if_neg h1, if_neg h2, if_neg h3, if_neg h4, if_neg h5, if_neg h6, hm, hn]
    exact ⟨fun e => if_neg (fun h => h e), fun e => if_pos e⟩
  have hb4 : ((xs.length : Int) == 0) = false ∨ (((xs.length : Int) == 0) = true ∧ s = false) := by
    by_cases h : xs.length = 0
    · refine .inr ⟨beq_iff_eq.2 (by omega), ?_⟩
      cases s with
      | false => rfl
      | true => exact absurd ⟨h, rfl⟩ h6
    · exact .inl (beq_eq_false_iff_ne.2 (by omega))
  have HGC := Lib.hid (show ∀ wx, Rd wx A c xs → Rd wx B d ys → Calls Tryz.prog 157 #[.slice A xs.length c, .slice B ys.length d] wx (One wx (Nat.gcd m n)) from fun wx a b => by
    have := ggcd_any A B m n c d wx (ex ▸ a) (ey ▸ b) (by rw [← ex]; omega) (by rw [← ey]; omega) (by have h0 : n ≠ 0 := fun e => h5 (by rw [ey, e, wd_zero]; rfl); have := wd_len_mono (Nat.gcd_le_right m (show 0 < n by omega)); rw [← ey] at this; omega)
    rw [← ex, ← ey] at this
    exact this)
  obtain ⟨g, hg⟩ : ∃ g, g = Nat.gcd m n := ⟨_, rfl⟩
  rw [← hg] at HE HGC
  clear h3 h4 h5 h6 hm hn ex ey hg hx hy
  by_cases hg1 : g = 1
  · have HDD := Lib.hid (show decide (wd g = wd 1) = true by rw [hg1]; exact decide_eq_true rfl)
    have HF := Lib.hid (show fchk ⟨s, xs, ys⟩ = 0 from HE.1 hg1)
    rw [HF.out]
    clear HE hg1
    rcases hb4 with hb4 | ⟨hb4, rfl⟩
    all_goals
      go_enter Tryz.func30, Tryz.ntmps30
      go_wp2_with fail
      refine HFA.out.mono ?_; rintro e w' ⟨rfl, rfl⟩
      go_wp2_with fail
      refine HFB.out.mono ?_; rintro e w' ⟨rfl, rfl⟩
      go_wp2_with fail
      refine (HGC.out _ HA.out HB.out).mono ?_; rintro e w1 ⟨A1, c1, rfl, k1, hx1⟩
      have H1 := Lib.hid k1
      have HX1 := Lib.hid (HX.out.trans hx1)
      clear k1 hx1
      go_wp2_with fail
      refine (gone_any _).mono ?_; rintro e w2 ⟨A2, c2, rfl, k2, hx2⟩
      have H2 := Lib.hid k2
      have H1 := Lib.hid (H1.out.ext hx2)
      have HX2 := Lib.hid (HX1.out.trans hx2)
      clear k2 hx2
      go_wp2_with fail
      refine (gsame_any A1 A2 (wd g) (wd 1) c1 c2 _ _ H1.out.rd H2.out.rd rfl _ rfl _ HDD.out).mono ?_; rintro e w3 ⟨rfl, hq⟩
      have HX3 := Lib.hid (HX2.out.trans hq.ext)
      clear hq
      go_wp2_with fail
      go_ret
      exact ⟨rfl, HX3.out⟩
  · have HDD := Lib.hid (show decide (wd g = wd 1) = false from decide_eq_false (fun e => hg1 (wd_inj e)))
    have HF := Lib.hid (show fchk ⟨s, xs, ys⟩ = 11 from HE.2 hg1)
    rw [HF.out]
    clear HE hg1
    rcases hb4 with hb4 | ⟨hb4, rfl⟩
    all_goals
      go_enter Tryz.func30, Tryz.ntmps30
      go_wp2_with fail
      refine HFA.out.mono ?_; rintro e w' ⟨rfl, rfl⟩
      go_wp2_with fail
      refine HFB.out.mono ?_; rintro e w' ⟨rfl, rfl⟩
      go_wp2_with fail
      refine (HGC.out _ HA.out HB.out).mono ?_; rintro e w1 ⟨A1, c1, rfl, k1, hx1⟩
      have H1 := Lib.hid k1
      have HX1 := Lib.hid (HX.out.trans hx1)
      clear k1 hx1
      go_wp2_with fail
      refine (gone_any _).mono ?_; rintro e w2 ⟨A2, c2, rfl, k2, hx2⟩
      have H2 := Lib.hid k2
      have H1 := Lib.hid (H1.out.ext hx2)
      have HX2 := Lib.hid (HX1.out.trans hx2)
      clear k2 hx2
      go_wp2_with fail
      refine (gsame_any A1 A2 (wd g) (wd 1) c1 c2 _ _ H1.out.rd H2.out.rd rfl _ rfl _ HDD.out).mono ?_; rintro e w3 ⟨rfl, hq⟩
      have HX3 := Lib.hid (HX2.out.trans hq.ext)
      clear hq
      go_wp2_with fail
      go_ret
      exact ⟨rfl, HX3.out⟩

end Go.Proofs.YtifonmdcicegdaaGreat

namespace Go.Proofs.YtifonmdcicegdaaGreat
open Go Go.RowKit

/-- the reference's add, of any two fractions that may be -/
theorem gadd_fr (a b : Fr) (A B C D : Option Addr) (c1 c2 c3 c4 : Nat) (w : World) (ha : Rd w A c1 a.num) (hb : Rd w B c2 a.den) (hc : Rd w C c3 b.num) (hd : Rd w D c4 b.den) (wa : a.Wf) (wb : b.Wf) (h : fchk a = 0) (k : fchk b = 0) (r : Rat) (hr : a.q + b.q = r) :
    Calls Tryz.prog 138 #[.agg #[.bool a.neg, .slice A a.num.length c1, .slice B a.den.length c2], .agg #[.bool b.neg, .slice C b.num.length c3, .slice D b.den.length c4]] w (RatP w (tell r)) := by
  obtain ⟨p, rfl, lp⟩ := fchk_ok wa h
  obtain ⟨q, rfl, lq⟩ := fchk_ok wb k
  rw [dec_enc, dec_enc] at hr
  subst hr
  have h1 := not_lng lp
  have h2 := not_lng lq
  exact gadd_gen (decide (p.num < 0)) (decide (q.num < 0)) A B C D p.num.natAbs p.den q.num.natAbs q.den c1 c2 c3 c4 w (p + q) ha hb hc hd p.den_nz q.den_nz h1.1 h1.2 h2.1 h2.2 (gplus_made p q)

end Go.Proofs.YtifonmdcicegdaaGreat

