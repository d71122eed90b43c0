/- Texts of this claim, joined: R1 K1 K2 K3a K4 K5 V1 V2 R4. -/
import Derived.Deep.DeepAppendRoom
import Derived.Deep.RegionHeldLaw
import Derived.Deep.AppendLies
import Derived.Test.YtifonmdcicegdaaGreatQm
set_option linter.unusedVariables false
set_option linter.unusedSimpArgs false
namespace Go.Proofs.YtifonmdcicegdaaGreat
open Go Go.RowKit

/-- old cells and old marks read as before -/
theorem bcell {W w1 : World} (hb : Ext W w1) : (∀ b o, b < W.heap.size → w1.cell? ⟨b, o, none⟩ = W.cell? ⟨b, o, none⟩) ∧ (∀ b o, b < W.heap.size → w1.frozen? ⟨b, o, none⟩ = W.frozen? ⟨b, o, none⟩) :=
  ⟨fun b o h => Below.cell (p := ⟨b, o, none⟩) hb h, fun b o h => Below.frozen (p := ⟨b, o, none⟩) hb h⟩

set_option maxHeartbeats 400000 in
theorem times_any (A B : Option Addr) (m n : Nat) (c d : Nat) (w : World) (ha : Rd w A c (wd m)) (hb : Rd w B d (wd n)) (ls : (wd m).length + (wd n).length ≤ 8192) :
    Calls Tryz.prog 142 #[.slice A (wd m).length c, .slice B (wd n).length d] w fun e w' => ∃ A' c', e = .returned (.slice A' (wd (m * n)).length c') ∧ Own w' w.heap.size A' c' (wd (m * n)) ∧ Ext w w' := by
  have H := Lib.hid (mul_any A B m n c d w ha hb ls)
  clear ha hb
  go_enter Tryz.func142, Tryz.ntmps142
  go_wp2_with fail
  refine H.out.mono ?_; rintro e w1 ⟨A1, c1, rfl, h1, hx1⟩
  have H1 := Lib.hid h1
  have HX1 := Lib.hid hx1
  clear h1 hx1
  go_wp2_with fail
  go_ret
  exact ⟨_, _, rfl, H1.out, HX1.out⟩

theorem long_any (A : Option Addr) (n c : Nat) (w : World) (hn : n ≤ 9223372036854775807) :
    Calls Tryz.prog 153 #[.slice A n c] w fun e w' => e = .returned (.bool (decide (2048 < n))) ∧ w = w' := by
  go_enter Tryz.func153, Tryz.ntmps153
  go_wp2
  go_ret
  exact ⟨by simp; omega, rfl⟩

/-- a fraction is told: new memory, or the error -/
def RatP (w : World) (t : Fr × Int) (e : Ending) (w' : World) : Prop :=
  ∃ A c B d, e = .returned (.tuple #[.agg #[.bool t.1.neg, .slice A t.1.num.length c, .slice B t.1.den.length d], .int .i64 t.2]) ∧ Own w' w.heap.size A c t.1.num ∧ Own w' w.heap.size B d t.1.den ∧ (∀ a b, A = some a → B = some b → a.block ≠ b.block) ∧ Ext w w'

theorem RatP.mk {w w' : World} {t : Fr × Int} {s : Bool} {xs ys : List Int} {er : Int} {e : Ending} {A B : Option Addr} {c d : Nat} (ht : t = (⟨s, xs, ys⟩, er)) (he : e = .returned (.tuple #[.agg #[.bool s, .slice A xs.length c, .slice B ys.length d], .int .i64 er]))
    (h1 : Own w' w.heap.size A c xs) (h2 : Own w' w.heap.size B d ys) (h3 : ∀ a b, A = some a → B = some b → a.block ≠ b.block) (h4 : Ext w w') : RatP w t e w' := by
  subst ht
  exact ⟨A, c, B, d, he, h1, h2, h3, h4⟩
theorem RatP.nil {w w' : World} {t : Fr × Int} {er : Int} {e : Ending} (ht : t = (Fr.zero, er)) (he : e = .returned (.tuple #[.agg #[.bool false, .slice none 0 0, .slice none 0 0], .int .i64 er])) (h4 : Ext w w') : RatP w t e w' := by
  subst ht
  exact ⟨none, 0, none, 0, he, Own.nil _ _, Own.nil _ _, (fun _ _ h => by cases h), h4⟩

set_option maxHeartbeats 1000000 in
theorem lowest_any (b : Bool) (A B : Option Addr) (m n : Nat) (c d : Nat) (w : World) (ha : Rd w A c (wd m)) (hb : Rd w B d (wd n)) (hn : n ≠ 0) (lm : (wd m).length ≤ 8192) (ln : (wd n).length ≤ 8192) :
    Calls Tryz.prog 141 #[.bool b, .slice A (wd m).length c, .slice B (wd n).length d] w (RatP w (tell (mkRat (sg b m) n))) := by
  have HA := Lib.hid ha
  have HB := Lib.hid hb
  have hg0 : 0 < Nat.gcd m n := Nat.gcd_pos_of_pos_right m (by omega)
  have hgl := wd_len_mono (Nat.gcd_le_right m (show 0 < n by omega))
  have HE := Lib.hid (enc_mk b m n hn)
  obtain ⟨g, hg⟩ : ∃ g, g = Nat.gcd m n := ⟨_, rfl⟩
  rw [← hg] at hg0 hgl HE
  have HG := Lib.hid hg
  clear ha hb hg
  go_enter Tryz.func141, Tryz.ntmps141
  go_wp2_with fail
  refine (gcd_any _ _ _ _ _ _ _ (HA.out.ext ((Ext.refl w).alloc _)) (HB.out.ext ((Ext.refl w).alloc _)) lm ln).mono ?_
  rw [← HG.out]
  rintro e w1 ⟨A1, c1, rfl, h1, hx1⟩
  have H1 := Lib.hid h1
  have HX1 := Lib.hid hx1
  clear h1 hx1
  go_wp2_with fail
  refine (divMod_any _ _ _ _ _ _ _ (HA.out.ext (((Ext.refl w).alloc _).trans HX1.out)) H1.out.rd (by omega) lm (by omega)).mono ?_
  rintro e w2 ⟨A2, c2, B2, d2, rfl, h2, h2', h2'', hx2⟩
  have H2 := Lib.hid h2
  have HX2 := Lib.hid (HX1.out.trans hx2)
  have H1 := Lib.hid (H1.out.ext hx2)
  clear h2 h2' h2'' hx2
  go_wp2_with fail
  refine (divMod_any _ _ _ _ _ _ _ (HB.out.ext (((Ext.refl w).alloc _).trans HX2.out)) H1.out.rd (by omega) ln (by omega)).mono ?_
  rintro e w3 ⟨A3, c3, B3, d3, rfl, h3, h3', h3'', hx3⟩
  have HAp := Lib.hid (H2.out.apart h3 (Nat.le_refl _))
  have H3 := Lib.hid (h3.lower (show w.heap.size + 1 ≤ w2.heap.size by have := HX2.out.size; simp at this; omega))
  have H2 := Lib.hid ((H2.out.ext hx3).lower (show w.heap.size + 1 ≤ w1.heap.size by have := HX1.out.size; simp at this; omega))
  have HX3 := Lib.hid (HX2.out.trans hx3)
  have HZ3 := Lib.hid (show w.heap.size < w3.heap.size by have := HX3.out.size; simp at this; omega)
  clear h3 h3' h3'' hx3 H1
  obtain ⟨m', hm'⟩ : ∃ x, x = m / g := ⟨_, rfl⟩
  obtain ⟨n', hn'⟩ : ∃ x, x = n / g := ⟨_, rfl⟩
  rw [← hm'] at HE H2 ⊢
  rw [← hn'] at HE H3 ⊢
  have hml := wd_len_mono (show m' ≤ m by rw [hm']; exact Nat.div_le_self _ _)
  have hnl := wd_len_mono (show n' ≤ n by rw [hn']; exact Nat.div_le_self _ _)
  have Hm' := Lib.hid hm'
  clear hm' hn'
  have el : (wd (mkRat (sg b m) n).num.natAbs) = wd m' := congrArg Fr.num HE.out
  have ed : (wd (mkRat (sg b m) n).den) = wd n' := congrArg Fr.den HE.out
  have hbc := bcell HX3.out
  obtain ⟨hc, hf⟩ := hbc
  have HXw := Lib.hid (((Ext.refl w).alloc _).trans HX3.out)
  by_cases l1 : 2048 < (wd m').length
  · have HT := Lib.hid (show tell (mkRat (sg b m) n) = (Fr.zero, 3) by unfold tell lng; rw [el, if_pos (by simp; omega)])
    rw [HT.out]
    clear el ed
    go_wp2_with fail
    refine (long_any _ _ _ _ (by omega)).mono ?_; rintro e w' ⟨rfl, rfl⟩
    go_wp2_with fail
    exact bodyPost_ret (v := .tuple #[.agg #[.bool false, .slice none 0 0, .slice none 0 0], .int .i64 3]) (by simp [results, Tryz.results141, go_sem, hc]) rfl (RatP.nil HT.out rfl (by repeat (first | exact HXw.out | refine Ext.setCell ?_ (Nat.le_refl _) _)))
  · by_cases l2 : 2048 < (wd n').length
    · have HT := Lib.hid (show tell (mkRat (sg b m) n) = (Fr.zero, 3) by unfold tell lng; rw [ed, if_pos (by simp; omega)])
      rw [HT.out]
      clear el ed
      go_wp2_with fail
      refine (long_any _ _ _ _ (by omega)).mono ?_; rintro e w' ⟨rfl, rfl⟩
      go_wp2_with fail
      refine (long_any _ _ _ _ (by omega)).mono ?_; rintro e w' ⟨rfl, rfl⟩
      go_wp2_with fail
      exact bodyPost_ret (v := .tuple #[.agg #[.bool false, .slice none 0 0, .slice none 0 0], .int .i64 3]) (by simp [results, Tryz.results141, go_sem, hc]) rfl (RatP.nil HT.out rfl (by repeat (first | exact HXw.out | refine Ext.setCell ?_ (Nat.le_refl _) _)))
    · obtain ⟨s, hs⟩ : ∃ s : Bool, s = (b && decide (m ≠ 0)) := ⟨_, rfl⟩
      have HT := Lib.hid (show tell (mkRat (sg b m) n) = (⟨s, wd m', wd n'⟩, 0) by unfold tell lng; rw [el, ed, if_neg (by simp; omega), HE.out, hs])
      rw [HT.out]
      have hs2 : s = (b && decide (0 < (wd m').length)) := by
        rw [hs]
        congr 1
        have hz : m' = 0 ↔ m = 0 := by
          rw [Hm'.out, HG.out]
          constructor
          · intro h
            have := Nat.div_mul_cancel (Nat.gcd_dvd_left m n)
            rw [h, Nat.zero_mul] at this
            exact this.symm
          · intro h; rw [h, Nat.zero_div]
        have hl := @wd_len_zero m'
        by_cases h0 : m = 0
        · have := hl.2 (hz.2 h0)
          rw [decide_eq_false (by omega), decide_eq_false (by omega)]
        · have := mt hz.1 h0
          have := mt hl.1 this
          rw [decide_eq_true (by omega), decide_eq_true (by omega)]
      clear el ed hs
      cases b with
      | false =>
        obtain rfl : s = false := hs2
        go_wp2_with fail
        refine (long_any _ _ _ _ (by omega)).mono ?_; rintro e w' ⟨rfl, rfl⟩
        go_wp2_with fail
        refine (long_any _ _ _ _ (by omega)).mono ?_; rintro e w' ⟨rfl, rfl⟩
        go_wp2_with fail
        exact bodyPost_ret (v := .tuple #[.agg #[.bool false, .slice A2 (wd m').length c2, .slice A3 (wd n').length c3], .int .i64 0]) (by simp [results, Tryz.results141, go_sem, hc]) rfl (RatP.mk HT.out rfl (by refine Own.lower ?_ (Nat.le_succ _); repeat (first | exact H2.out | refine Own.setBelow ?_ (Nat.lt_succ_self _) _)) (by refine Own.lower ?_ (Nat.le_succ _); repeat (first | exact H3.out | refine Own.setBelow ?_ (Nat.lt_succ_self _) _)) HAp.out (by repeat (first | exact HXw.out | refine Ext.setCell ?_ (Nat.le_refl _) _)))
      | true =>
        rw [Bool.true_and] at hs2
        by_cases h0 : 0 < (wd m').length
        · obtain rfl : s = true := by rw [hs2]; exact decide_eq_true h0
          clear hs2
          go_wp2_with fail
          refine (long_any _ _ _ _ (by omega)).mono ?_; rintro e w' ⟨rfl, rfl⟩
          go_wp2_with fail
          refine (long_any _ _ _ _ (by omega)).mono ?_; rintro e w' ⟨rfl, rfl⟩
          go_wp2_with fail
          exact bodyPost_ret (v := .tuple #[.agg #[.bool true, .slice A2 (wd m').length c2, .slice A3 (wd n').length c3], .int .i64 0]) (by simp [results, Tryz.results141, go_sem, hc]) rfl (RatP.mk HT.out rfl (by refine Own.lower ?_ (Nat.le_succ _); repeat (first | exact H2.out | refine Own.setBelow ?_ (Nat.lt_succ_self _) _)) (by refine Own.lower ?_ (Nat.le_succ _); repeat (first | exact H3.out | refine Own.setBelow ?_ (Nat.lt_succ_self _) _)) HAp.out (by repeat (first | exact HXw.out | refine Ext.setCell ?_ (Nat.le_refl _) _)))
        · obtain rfl : s = false := by rw [hs2]; exact decide_eq_false h0
          clear hs2
          go_wp2_with fail
          refine (long_any _ _ _ _ (by omega)).mono ?_; rintro e w' ⟨rfl, rfl⟩
          go_wp2_with fail
          refine (long_any _ _ _ _ (by omega)).mono ?_; rintro e w' ⟨rfl, rfl⟩
          go_wp2_with fail
          exact bodyPost_ret (v := .tuple #[.agg #[.bool false, .slice A2 (wd m').length c2, .slice A3 (wd n').length c3], .int .i64 0]) (by simp [results, Tryz.results141, go_sem, hc]) rfl (RatP.mk HT.out rfl (by refine Own.lower ?_ (Nat.le_succ _); repeat (first | exact H2.out | refine Own.setBelow ?_ (Nat.lt_succ_self _) _)) (by refine Own.lower ?_ (Nat.le_succ _); repeat (first | exact H3.out | refine Own.setBelow ?_ (Nat.lt_succ_self _) _)) HAp.out (by repeat (first | exact HXw.out | refine Ext.setCell ?_ (Nat.le_refl _) _)))

end Go.Proofs.YtifonmdcicegdaaGreat

namespace Go.Proofs.YtifonmdcicegdaaGreat
open Go Go.RowKit

/-- the same memory: no more than draws -/
def Quiet (w w' : World) : Prop := ∃ m, w' = w.drewN m
theorem Quiet.ext {w w' : World} (h : Quiet w w') : Ext w w' := by obtain ⟨m, rfl⟩ := h; exact (Ext.refl w).drewN m
theorem Quiet.refl (w : World) : Quiet w w := ⟨0, rfl⟩
theorem Quiet.drewN {w w' : World} (h : Quiet w w') (n : Nat) : Quiet w (w'.drewN n) := by obtain ⟨m, rfl⟩ := h; exact ⟨m + n, by rw [World.drewN_drewN]⟩

theorem nth_ext : ∀ {xs ys : List Int}, xs.length = ys.length → (∀ j, j < xs.length → nth xs j = nth ys j) → xs = ys
  | [], [], _, _ => rfl
  | [], _ :: _, h, _ => by simp at h
  | _ :: _, [], h, _ => by simp at h
  | x :: xs, y :: ys, h, e => by
    have h0 : x = y := e 0 (by simp)
    rw [h0, nth_ext (xs := xs) (ys := ys) (by simpa using h) (fun j hj => e (j + 1) (by simpa using hj))]

/-- is it too long for the law? -/
def isLong (n : Nat) : Bool := decide (60 < n ∧ (n ≤ 2048 ∨ 2057 ≤ n))

theorem kcopy_any (A : Option Addr) (xs : List Int) (c l : Nat) (w : World) (h : Rd w A c xs) (hl : xs.length = l) (hm : l ≤ 35184372088832) :
    Calls Tryz.prog 225 #[.slice A l c] w fun e w' => ∃ A' c', e = .returned (.slice A' l c') ∧ Own w' w.heap.size A' c' xs ∧ Ext w w' := by
  have H := Lib.hid h
  have HL := Lib.hid hl
  clear h hl
  go_enter Tryz.func225, Tryz.ntmps225
  go_wp2_with (at_builtin; refine wpList_app rfl _ _ rfl w.heap.size (some ⟨w.heap.size, 0, none⟩) 0 [] 0 rfl rfl (Own.lit w #[] [] rfl (by simp)) _ _ xs l HL.out rfl (H.out.ext ((Ext.refl w).alloc _)) (by omega) (by simp) ?_; intro A' c' w1 hO hg)
  have HO := Lib.hid hO
  have HX : Hid (Ext w w1) := ((Ext.refl w).alloc _).grown hg (fun k hk => by cases hk; exact Nat.le_refl _)
  clear hO hg
  go_wp2_with fail
  go_ret
  exact ⟨A', c', by simp, HO.out, HX.out⟩

/-- what stands behind words that are lent -/
def marks : List Int := [2882343476, 2882343477, 2882343478]
theorem marks_take (k : Nat) (h : k < 3) : marks.take (k + 1) = marks.take k ++ [2882343476 + (k : Int)] := by
  match k, h with
  | 0, _ => rfl
  | 1, _ => rfl
  | 2, _ => rfl
theorem wf_marks : Wf marks := by
  intro x hx
  simp [marks] at hx
  omega

set_option maxHeartbeats 1000000 in
theorem klent_any (A : Option Addr) (xs : List Int) (c l : Nat) (w : World) (h : Rd w A c xs) (hl : xs.length = l) (hm : l ≤ 35184372088820) :
    Calls Tryz.prog 134 #[.slice A l c] w fun e w' => ∃ A' c', e = .returned (.slice A' (l + 3) c') ∧ Own w' w.heap.size A' c' (xs ++ marks) ∧ Ext w w' := by
  have H := Lib.hid h
  have HL := Lib.hid hl
  clear h hl
  go_enter Tryz.func134, Tryz.ntmps134
  go_wp2_with fail
  refine (kcopy_any A xs c l _ H.out HL.out (by omega)).mono ?_; rintro e w1 ⟨A1, c1, rfl, h1, hx1⟩
  have H1 := Lib.hid h1
  have HX1 := Lib.hid hx1
  clear h1 hx1
  go_wp2_with fail
  go_loopw [3, 4] (fun s i wr => ∃ (k : Nat) (P : Option Addr) (cp : Nat), k ≤ 3 ∧ s = .slice P (l + k) cp ∧ i = .int .i64 k ∧ Hid (Own wr w.heap.size P cp (xs ++ marks.take k)) ∧ Hid (Ext w wr)) (fun _ i _ => 3 - (intOf i).toNat)
  case atStart => exact ⟨0, A1, c1, by omega, rfl, rfl, by rw [List.take_zero, List.append_nil]; exact H1.out, HX1.out⟩
  case round =>
    clear H1 HX1
    obtain ⟨k, P, cp, hk, rfl, rfl, HO, HX⟩ := hrel
    by_cases hk3 : k < 3
    · have HLL := Lib.hid (show (xs ++ marks.take k).length = l + k by rw [List.length_append, HL.out, List.length_take]; simp [marks]; omega)
      go_wp2_with (at_builtin; refine wpList_app rfl _ _ rfl w.heap.size P cp (xs ++ marks.take k) (l + k) HLL.out rfl (HO.out.ext ((Ext.refl wr).alloc _)) _ _ [2882343476 + (k : Int)] 1 rfl rfl (Own.lit wr _ [2882343476 + (k : Int)] rfl (by simp)).rd (by omega) (by have := HX.out.size; simp; omega) ?_; intro A' c' w2 hO hg)
      have HO2 := Lib.hid (show Own w2 w.heap.size A' c' (xs ++ marks.take (k + 1)) by rw [marks_take k hk3, ← List.append_assoc]; exact hO)
      have HX2 := Lib.hid ((HX.out.alloc _).grown hg (fun k hk => by
        cases P with
        | none => cases hk
        | some a => cases hk; exact HO.out.block.1))
      clear hO hg
      go_roundw
      case rel => exact ⟨k + 1, A', c', by omega, rfl, by go_num, HO2.out, HX2.out⟩
      case measure => simp [intOf]; omega
    · obtain rfl : k = 3 := by omega
      go_wp2_with fail
      go_ret
      exact ⟨P, cp, rfl, HO.out, HX.out⟩

set_option maxHeartbeats 1000000 in
theorem ksame_any (A B : Option Addr) (xs ys : List Int) (c d l : Nat) (w : World) (ha : Rd w A c xs) (hb : Rd w B d ys) (hl : xs.length = l) (n : Nat) (hn : ys.length = n) (b : Bool) (hbb : decide (xs = ys) = b) :
    Calls Tryz.prog 160 #[.slice A l c, .slice B n d] w fun e w' => e = .returned (.bool b) ∧ Quiet w w' := by
  have HL := Lib.hid hl
  have HN := Lib.hid hn
  have HA := Lib.hid ha
  have HB := Lib.hid hb
  have HBB := Lib.hid hbb
  have hll := ha.lim
  rw [hl] at hll
  clear ha hb hl hn hbb
  by_cases hne : l = n
  · subst hne
    have hbn : ((l : Int) != (l : Int)) = false := by simp
    go_enter Tryz.func160, Tryz.ntmps160
    go_wp2_with fail
    go_loopw [5] (fun i wr => ∃ k : Nat, k ≤ l ∧ i = .int .i64 k ∧ Hid (∀ j, j < k → nth xs j = nth ys j) ∧ Hid (Quiet w wr)) (fun i _ => l - (intOf i).toNat)
    case atStart => exact ⟨0, by omega, rfl, fun j hj => by omega, Quiet.refl w⟩
    case round =>
      obtain ⟨k, hk, rfl, HE, HQ⟩ := hrel
      by_cases hkl : k < l
      · obtain ⟨a, rfl, hca⟩ := (HA.out.ext HQ.out.ext).at_ k (by rw [HL.out]; exact hkl)
        obtain ⟨b', rfl, hcb⟩ := (HB.out.ext HQ.out.ext).at_ k (by rw [HN.out]; exact hkl)
        by_cases he : nth xs k = nth ys k
        · have HE2 := Lib.hid (show ∀ j, j < k + 1 → nth xs j = nth ys j from fun j hj => by
            by_cases e : j = k
            · rw [e]; exact he
            · exact HE.out j (by omega))
          have hne : (nth xs k != nth ys k) = false := bne_eq_false_iff_eq.2 he
          clear he
          go_wp2_with fail
          go_quiet (fail)
          go_wp2_with fail
          go_roundw
          case rel => exact ⟨k + 1, by omega, by go_num, HE2.out, HQ.out.drewN _⟩
          case measure => simp [intOf]; omega
        · have hne : (nth xs k != nth ys k) = true := bne_iff_ne.2 he
          have HF := Lib.hid (show b = false by rw [← HBB.out]; exact decide_eq_false (fun e => he (by rw [e])))
          clear he
          go_wp2_with fail
          go_quiet (fail)
          go_wp2_with fail
          go_ret
          exact ⟨by rw [HF.out]; rfl, HQ.out.drewN _⟩
      · have hkk : k = l := by omega
        have HF := Lib.hid (show b = true by rw [← HBB.out]; exact decide_eq_true (nth_ext (HL.out.trans HN.out.symm) (fun j hj => HE.out j (by have := HL.out; omega))))
        go_wp2_with fail
        go_ret
        exact ⟨by rw [HF.out]; rfl, HQ.out⟩
  · have hbn : ((l : Int) != (n : Int)) = true := bne_iff_ne.2 (by omega)
    have HF := Lib.hid (show b = false by rw [← HBB.out]; exact decide_eq_false (fun e => hne (by rw [← HL.out, ← HN.out, e])))
    go_enter Tryz.func160, Tryz.ntmps160
    go_wp2_with fail
    go_ret
    exact ⟨by rw [HF.out]; rfl, Quiet.refl w⟩

theorem kkept_any (A B : Option Addr) (xs : List Int) (c d l n : Nat) (w : World) (ha : Rd w A c (xs ++ marks)) (hb : Rd w B d xs) (hl : xs.length = l) (hn : l + 3 = n) (hm : l ≤ 35184372088820) :
    Calls Tryz.prog 161 #[.slice A n c, .slice B l d] w fun e w' => e = .returned (.bool true) ∧ Ext w w' := by
  have HL := Lib.hid hl
  have HA := Lib.hid ha
  have HB := Lib.hid hb
  have HLL := Lib.hid (show (xs ++ marks).length = l + 3 by rw [List.length_append, hl]; rfl)
  clear ha hb hl
  subst hn
  go_enter Tryz.func161, Tryz.ntmps161
  go_wp2_with fail
  refine (klent_any B xs d l _ HB.out HL.out hm).mono ?_; rintro e w1 ⟨A1, c1, rfl, h1, hx1⟩
  have H1 := Lib.hid h1
  have HX1 := Lib.hid hx1
  clear h1 hx1
  go_wp2_with fail
  refine (ksame_any A A1 (xs ++ marks) (xs ++ marks) _ _ (l + 3) _ (HA.out.ext HX1.out) H1.out.rd HLL.out (l + 3) HLL.out true (decide_eq_true rfl)).mono ?_; rintro e w2 ⟨rfl, hq⟩
  have HX2 := Lib.hid (HX1.out.trans hq.ext)
  clear hq
  go_wp2_with fail
  go_ret
  exact ⟨rfl, HX2.out⟩

end Go.Proofs.YtifonmdcicegdaaGreat

namespace Go.Proofs.YtifonmdcicegdaaGreat
open Go Go.RowKit

/-- append of words behind words of the call's own that have room: in place -/
theorem wpList_spare {w : World} {ops : Array Oper} {rest : List Oper} {o : Oper} {a : Act} {Q : Exit → Act → World → Prop} (hgd : o.guard = none) (s x : Operand)
    (ho : o.op = .call { callee := .builtin .append, args := #[s, x], argTypes := #[22, 22] })
    (base g c : Nat) (xs : List Int) (n : Nat) (hn : xs.length = n) (hs : a.eval s = .slice (some ⟨g, 0, none⟩) n c) (hO : Own w base (some ⟨g, 0, none⟩) c xs)
    (b : Addr) (d : Nat) (ys : List Int) (m : Nat) (hm : ys.length = m) (hx : a.eval x = .slice (some b) m d) (hR : Rd w (some b) d ys)
    (hroom : n + m ≤ c)
    (h : ∀ w', Own w' base (some ⟨g, 0, none⟩) c (xs ++ ys) → w.grownBy w' (some g) → wpList Tryz.prog ops Q rest (a.put o.dst (.slice (some ⟨g, 0, none⟩) (n + m) c)) w') : wpList Tryz.prog ops Q (o :: rest) a w := by
  obtain ⟨i0, hi, hz0, hz1, hz2⟩ := info_parts info_u32
  subst hn
  subst hm
  refine wpList_append_own_spare w hgd s x 22 ho base 144 i0 1 Tryz.underlying22 hi hz1 g xs.length c (nums xs) hs hO b ys.length d (nums ys) hx (by rw [nums_length, Nat.mul_one])
    (fun j u hu => by
      have hj : j < ys.length := by
        have := (List.getElem?_eq_some_iff.1 hu).1
        rwa [nums_length] at this
      rw [nums_at ys j hj] at hu
      cases hu
      exact hR.cell j hj) (nums_one ys) hroom ?_
  intro w' h2 h3
  rw [← nums_append, ← List.length_append] at h2
  exact h w' h2 h3

/-- all bits turned -/
def nt (x : Int) : Int := bits .xor .u32 (if IntKind.u32.signed = true then -1 else IntKind.u32.max) x

set_option maxHeartbeats 1000000 in
theorem kover_any (A : Option Addr) (xs : List Int) (base c l : Nat) (w : World) (h : Own w base A c xs) (hl : xs.length = l) (hw : Wf xs) :
    Calls Tryz.prog 245 #[.slice A l c] w fun e w' => ∃ zs, e = .returned (.tuple #[]) ∧ Own w' base A c zs ∧ l ≤ zs.length ∧ (∀ j, j < l → nth zs j = nt (nth xs j)) ∧ w.grownBy w' (A.map (·.block)) := by
  have HO := Lib.hid h
  have HL := Lib.hid hl
  have HW := Lib.hid hw
  rcases h.form with rfl | ⟨g, rfl, hgb, hgs⟩
  · have hc : c = 0 := h.rd.none_ rfl
    have hlc : l = 0 := by have := h.rd.cap; omega
    subst hc
    subst hlc
    clear h hl hw
    go_enter Tryz.func245, Tryz.ntmps245
    go_wp2_with fail
    go_loopw [3] (fun i wr => i = .int .i64 0 ∧ wr = w) (fun _ _ => 0)
    case atStart => exact ⟨rfl, rfl⟩
    case round =>
      obtain ⟨rfl, rfl⟩ := hrel
      go_wp2_with fail
      go_loopw [4] (fun i w' => i = .int .i64 0 ∧ w' = wr) (fun _ _ => 0)
      case atStart => exact ⟨rfl, rfl⟩
      case round =>
        obtain ⟨rfl, rfl⟩ := hrel
        go_wp2_with fail
        go_end0
        exact ⟨xs, rfl, HO.out, by omega, fun j hj => by omega, World.grownBy.refl _ _⟩
  · have hlc : l ≤ c := by have := h.rd.cap; omega
    have hcm : c ≤ 9223372036854775807 := h.rd.capm
    clear h hl hw
    go_enter Tryz.func245, Tryz.ntmps245
    go_wp2_with fail
    go_loopw [3] (fun i wr => ∃ (k : Nat) (us : List Int), k ≤ l ∧ i = .int .i64 k ∧ Hid (us.length = l) ∧ Hid (∀ j, j < k → nth us j = nt (nth xs j)) ∧ Hid (∀ j, k ≤ j → nth us j = nth xs j) ∧ Hid (Own wr base (some ⟨g, 0, none⟩) c us) ∧ Hid (w.grownBy wr (some g))) (fun i _ => l - (intOf i).toNat)
    case atStart => exact ⟨0, xs, by omega, rfl, HL.out, fun j hj => by omega, fun _ _ => rfl, HO.out, World.grownBy.refl _ _⟩
    case round =>
      obtain ⟨k, us, hk, rfl, HU, HE, HR, HO1, HG⟩ := hrel
      by_cases hkl : k < l
      · have hco := HO1.out.cell k (by rw [HU.out]; exact hkl)
        have hfo := HO1.out.free k
        have bx := nth_wf HW.out k
        rw [HR.out k (Nat.le_refl _)] at hco
        go_wp2_with fail
        go_roundw
        case rel => exact ⟨k + 1, us.set k (nt (nth xs k)), by omega, by go_num, by unfold Hid; rw [List.length_set]; exact HU.out, fun j hj => by
            by_cases e : j = k
            · rw [e, nth_set_self _ _ _ (by rw [HU.out]; exact hkl)]
            · rw [nth_set_ne _ _ _ _ (by omega)]; exact HE.out j (by omega), fun j hj => by rw [nth_set_ne _ _ _ _ (by omega)]; exact HR.out j (by omega), (HO1.out.set k _).1, grown_trans HG.out (HO1.out.set k _).2⟩
        case measure => simp [intOf]; omega
      · have hkk : k = l := by omega
        subst hkk
        clear hkl hk
        have HG1 := Lib.hid HG.out
        go_wp2_with fail
        go_loopw [0, 4] (fun s i w' => ∃ (m : Nat) (zs : List Int), m ≤ c ∧ k ≤ m ∧ s = .slice (some ⟨g, 0, none⟩) m c ∧ i = .int .i64 m ∧ Hid (zs.length = m) ∧ Hid (∀ j, j < k → nth zs j = nt (nth xs j)) ∧ Hid (Own w' base (some ⟨g, 0, none⟩) c zs) ∧ Hid (w.grownBy w' (some g))) (fun _ i _ => c - (intOf i).toNat)
        case atStart => exact ⟨k, us, hlc, Nat.le_refl _, rfl, rfl, HU.out, HE.out, HO1.out, HG.out⟩
        case round =>
          clear HO1 HG HU HE HR HG1
          obtain ⟨m, zs, hm, hkm, rfl, rfl, HZ, HE, HO1, HG⟩ := hrel
          by_cases hmc : m < c
          · go_wp2_with (at_builtin; refine wpList_spare rfl _ _ rfl base g c zs m HZ.out rfl (HO1.out.ext ((Ext.refl wr).alloc _)) _ _ [2882343476] 1 rfl rfl (Own.lit wr _ [2882343476] rfl (by simp)).rd (by omega) ?_; intro w2 hO hg)
            have HO2 := Lib.hid hO
            have HG2 := Lib.hid (grown_trans (grown_alloc HG.out _) hg)
            have HE2 := Lib.hid (show ∀ j, j < k → nth (zs ++ [2882343476]) j = nt (nth xs j) from fun j hj => by
              rw [← HE.out j hj]
              have := HZ.out
              simp [nth, List.getElem?_append_left (show j < zs.length by omega)])
            have HZ2 := Lib.hid (show (zs ++ [2882343476]).length = m + 1 by rw [List.length_append, HZ.out]; rfl)
            clear hO hg
            go_roundw
            case rel => exact ⟨m + 1, _, by omega, by omega, rfl, by go_num, HZ2.out, HE2.out, HO2.out, HG2.out⟩
            case measure => simp [intOf]; omega
          · obtain rfl : m = c := by omega
            go_wp2_with fail
            go_end0
            exact ⟨zs, rfl, HO1.out, by rw [HZ.out]; exact hkm, HE.out, HG.out⟩

end Go.Proofs.YtifonmdcicegdaaGreat

namespace Go.Proofs.YtifonmdcicegdaaGreat
open Go Go.RowKit

end Go.Proofs.YtifonmdcicegdaaGreat

namespace Go.Proofs.YtifonmdcicegdaaGreat
open Go Go.RowKit

theorem info_words : (Tryz.prog.info? 22).map (fun i => (i.zero, i.size, i.bytes)) = some (some (.slice none 0 0), 1, 24) := by kernel_rfl

/-- a slice of words as a cell -/
def sl (A : Option Addr) (n c : Nat) : Value := .slice A n c

/-- rows of words of the call's own, told by a row of slices at gb -/
structure Rows (base k gb : Nat) (P : Nat → Option Addr) (C : Nat → Nat) (X Z : Nat → List Int) (w : World) : Prop where
  idx : ∀ j, j < k → w.cell? ⟨gb, j, none⟩ = some (.slice (P j) (X j).length (C j))
  row : ∀ j, j < k → Own w base (P j) (C j) (Z j)

theorem cell_kept' {w w' : World} {row : Option Nat} (h : w.grownBy w' row) {g j : Nat} {v : Value} (hc : w.cell? ⟨g, j, none⟩ = some v) (hne : some g ≠ row) : w'.cell? ⟨g, j, none⟩ = some v := h.cell hc hne

theorem Rows.ext {base k gb : Nat} {P : Nat → Option Addr} {C : Nat → Nat} {X Z : Nat → List Int} {w w' : World} (h : Rows base k gb P C X Z w) (e : Ext w w') : Rows base k gb P C X Z w' :=
  ⟨fun j hj => e.cell (h.idx j hj), fun j hj => (h.row j hj).ext e⟩
theorem Rows.kept {base k gb : Nat} {P : Nat → Option Addr} {C : Nat → Nat} {X Z : Nat → List Int} {w w' : World} {r : Option Nat} (h : Rows base k gb P C X Z w) (e : w.grownBy w' r) (h1 : some gb ≠ r) (h2 : ∀ j, j < k → ∀ a, P j = some a → some a.block ≠ r) : Rows base k gb P C X Z w' :=
  ⟨fun j hj => cell_kept' e (h.idx j hj) h1, fun j hj => (h.row j hj).kept e (h2 j hj)⟩
/-- one of them is written over -/
theorem Rows.turn {base k gb : Nat} {P : Nat → Option Addr} {C : Nat → Nat} {X Z : Nat → List Int} {w w' : World} (h : Rows base k gb P C X Z w) (i : Nat) (zs : List Int) (ho : Own w' base (P i) (C i) zs) (e : w.grownBy w' ((P i).map (·.block)))
    (h1 : ∀ j, j < k → ∀ a, P j = some a → a.block ≠ gb) (hi : i < k) (hap : ∀ j, j < k → j ≠ i → ∀ a b, P j = some a → P i = some b → a.block ≠ b.block) : Rows base k gb P C X (fun j => if j = i then zs else Z j) w' := by
  have hne : ∀ g, (∀ b, P i = some b → g ≠ b.block) → some g ≠ (P i).map (·.block) := fun g hg e => by
    cases hp : P i with
    | none => rw [hp] at e; cases e
    | some b => rw [hp] at e; injection e with e; exact hg b hp e
  refine ⟨fun j hj => cell_kept' e (h.idx j hj) (hne _ fun b hb e => h1 i hi b hb e.symm), fun j hj => ?_⟩
  by_cases hji : j = i
  · subst hji; simpa using ho
  · simp only [if_neg hji]
    exact (h.row j hj).kept e (fun a ha => hne _ (fun b hb => hap j hj hji a b ha hb))

end Go.Proofs.YtifonmdcicegdaaGreat

namespace Go.Proofs.YtifonmdcicegdaaGreat
open Go Go.RowKit

/-- the words of fractions that lie side by side from gr, o on: the j-th of all of them -/
structure Sides (gr o n : Nat) (P : Nat → Option Addr) (C N : Nat → Nat) (w : World) : Prop where
  num : ∀ j, j < n → w.cell? ⟨gr, o + j * 3 + 1, none⟩ = some (.slice (P (2 * j)) (N (2 * j)) (C (2 * j)))
  den : ∀ j, j < n → w.cell? ⟨gr, o + j * 3 + 2, none⟩ = some (.slice (P (2 * j + 1)) (N (2 * j + 1)) (C (2 * j + 1)))
theorem Sides.ext {gr o n : Nat} {P : Nat → Option Addr} {C N : Nat → Nat} {w w' : World} (h : Sides gr o n P C N w) (e : Ext w w') : Sides gr o n P C N w' :=
  ⟨fun j hj => e.cell (h.num j hj), fun j hj => e.cell (h.den j hj)⟩

theorem two_cells (w : World) (x y : Value) (t : TypeId) : ∀ j u, [x, y][j]? = some u → (w.alloc (.cells #[x, y] t)).cell? ((⟨w.heap.size, 0, none⟩ : Addr).add j) = some u := by
  intro j u hj
  match j, hj with
  | 0, hj => simp at hj; subst hj; simp [Addr.add]
  | 1, hj => simp at hj; subst hj; simp [Addr.add]
theorem ownsRow_ge {w : World} {base : Nat} {e : TypeId} {size n : Nat} {v : Value} {vs : List Value} (h : w.ownsRow base e size v n vs) : ∀ b, v.ownBlock = some b → base ≤ b := by
  intro b hb
  rcases h.2 with ⟨rfl, _⟩ | ⟨g, cap, cur, rfl, hg, _⟩
  · simp [Value.ownBlock] at hb
  · simp [Value.ownBlock] at hb; omega
theorem ownsRow_ext {w w' : World} {base : Nat} {e : TypeId} {size n : Nat} {v : Value} {vs : List Value} (h : w.ownsRow base e size v n vs) (x : Ext w w') : w'.ownsRow base e size v n vs :=
  h.kept (x.by_ none) (by cases v.ownBlock <;> simp)

end Go.Proofs.YtifonmdcicegdaaGreat

namespace Go.Proofs.YtifonmdcicegdaaGreat
open Go Go.RowKit

/-- fractions side by side from gr, o on -/
structure Fs (gr o n : Nat) (P : Nat → Option Addr) (C : Nat → Nat) (L : Nat → Fr) (w : World) : Prop where
  neg : ∀ j, j < n → w.cell? ⟨gr, o + j * 3, none⟩ = some (.bool (L j).neg)
  num : ∀ j, j < n → w.cell? ⟨gr, o + j * 3 + 1, none⟩ = some (.slice (P (2 * j)) (L j).num.length (C (2 * j)))
  den : ∀ j, j < n → w.cell? ⟨gr, o + j * 3 + 2, none⟩ = some (.slice (P (2 * j + 1)) (L j).den.length (C (2 * j + 1)))
  rnum : ∀ j, j < n → Rd w (P (2 * j)) (C (2 * j)) (L j).num
  rden : ∀ j, j < n → Rd w (P (2 * j + 1)) (C (2 * j + 1)) (L j).den
theorem Fs.ext {gr o n : Nat} {P : Nat → Option Addr} {C : Nat → Nat} {L : Nat → Fr} {w w' : World} (h : Fs gr o n P C L w) (e : Ext w w') : Fs gr o n P C L w' :=
  ⟨fun j hj => e.cell (h.neg j hj), fun j hj => e.cell (h.num j hj), fun j hj => e.cell (h.den j hj), fun j hj => (h.rnum j hj).ext e, fun j hj => (h.rden j hj).ext e⟩

/-- .. behind whatever slice -/
def FsA (A : Option Addr) (n : Nat) (P : Nat → Option Addr) (C : Nat → Nat) (L : Nat → Fr) (w : World) : Prop := (∀ j, j < n → ∃ gr o, A = some ⟨gr, o, none⟩) ∧ ∀ gr o, A = some ⟨gr, o, none⟩ → Fs gr o n P C L w
theorem FsA.ext {A : Option Addr} {n : Nat} {P : Nat → Option Addr} {C : Nat → Nat} {L : Nat → Fr} {w w' : World} (h : FsA A n P C L w) (e : Ext w w') : FsA A n P C L w' := ⟨h.1, fun gr o ha => (h.2 gr o ha).ext e⟩
theorem Fs.any {gr o n : Nat} {P : Nat → Option Addr} {C : Nat → Nat} {L : Nat → Fr} {w : World} (h : Fs gr o n P C L w) : FsA (some ⟨gr, o, none⟩) n P C L w := ⟨fun _ _ => ⟨gr, o, rfl⟩, fun gr' o' e => by cases e; exact h⟩

theorem grown_setCell (w : World) (p : Addr) (u : Value) : w.grownBy (w.setCell p u) (some p.block) :=
  ⟨rfl, rfl, rfl, by simp [World.setCell], fun k hk hne => Below.heap_setCell _ _ _ _ (fun e => hne (by rw [e]))⟩
theorem cell_keep {w w' : World} {row : Option Nat} (h : w.grownBy w' row) {g j : Nat} {v : Value} (hc : w.cell? ⟨g, j, none⟩ = some v) (hne : some g ≠ row) : w'.cell? ⟨g, j, none⟩ = some v := h.cell hc hne
theorem own_set {w : World} {base c : Nat} {A : Option Addr} {xs : List Int} {p : Addr} {u : Value} (h : Own w base A c xs) (hp : ∀ a, A = some a → a.block ≠ p.block) : Own (w.setCell p u) base A c xs :=
  h.kept (grown_setCell w p u) (fun a ha e => hp a ha (Option.some.inj e))
/-- a variable that holds a fraction in the call's own memory -/
structure VarF (g base : Nat) (f : Fr) (A : Option Addr) (c : Nat) (B : Option Addr) (d : Nat) (w : World) : Prop where
  c0 : w.cell? ⟨g, 0, none⟩ = some (.bool f.neg)
  c1 : w.cell? ⟨g, 1, none⟩ = some (.slice A f.num.length c)
  c2 : w.cell? ⟨g, 2, none⟩ = some (.slice B f.den.length d)
  fr : ∀ o, w.frozen? ⟨g, o, none⟩ = false
  onum : Own w base A c f.num
  oden : Own w base B d f.den
  ap : ∀ a b, A = some a → B = some b → a.block ≠ b.block
  n1 : ∀ a, A = some a → a.block ≠ g
  n2 : ∀ a, B = some a → a.block ≠ g
theorem VarF.ext {g base : Nat} {f : Fr} {A B : Option Addr} {c d : Nat} {w w' : World} (h : VarF g base f A c B d w) (e : Ext w w') : VarF g base f A c B d w' :=
  ⟨e.cell h.c0, e.cell h.c1, e.cell h.c2, fun o => (Below.frozen (p := ⟨g, o, none⟩) e (World.block_lt_of_cell? w ⟨g, 0, none⟩ h.c0)).trans (h.fr o), h.onum.ext e, h.oden.ext e, h.ap, h.n1, h.n2⟩
/-- another fraction is laid into it -/
theorem VarF.store {g base : Nat} {f k : Fr} {A B C D : Option Addr} {c d a b : Nat} {w : World} (h : VarF g base f A c B d w) (o1 : Own w base C a k.num) (o2 : Own w base D b k.den) (ap : ∀ a b, C = some a → D = some b → a.block ≠ b.block) (n1 : ∀ a, C = some a → a.block ≠ g) (n2 : ∀ a, D = some a → a.block ≠ g) :
    VarF g base k C a D b (((w.setCell ⟨g, 0, none⟩ (.bool k.neg)).setCell ⟨g, 1, none⟩ (.slice C k.num.length a)).setCell ⟨g, 2, none⟩ (.slice D k.den.length b)) := by
  have k0 : (w.setCell ⟨g, 0, none⟩ (.bool k.neg)).cell? ⟨g, 0, none⟩ = some (.bool k.neg) := World.cell?_setCell_same _ _ _ h.c0
  have k1 : (w.setCell ⟨g, 0, none⟩ (.bool k.neg)).cell? ⟨g, 1, none⟩ = _ := (World.cell?_setCell_other _ _ _ _ (by simp)).trans h.c1
  have k2 : (w.setCell ⟨g, 0, none⟩ (.bool k.neg)).cell? ⟨g, 2, none⟩ = _ := (World.cell?_setCell_other _ _ _ _ (by simp)).trans h.c2
  have m0 : ((w.setCell ⟨g, 0, none⟩ (.bool k.neg)).setCell ⟨g, 1, none⟩ (.slice C k.num.length a)).cell? ⟨g, 0, none⟩ = _ := (World.cell?_setCell_other _ _ _ _ (by simp)).trans k0
  have m1 : ((w.setCell ⟨g, 0, none⟩ (.bool k.neg)).setCell ⟨g, 1, none⟩ (.slice C k.num.length a)).cell? ⟨g, 1, none⟩ = _ := World.cell?_setCell_same _ _ _ k1
  have m2 : ((w.setCell ⟨g, 0, none⟩ (.bool k.neg)).setCell ⟨g, 1, none⟩ (.slice C k.num.length a)).cell? ⟨g, 2, none⟩ = _ := (World.cell?_setCell_other _ _ _ _ (by simp)).trans k2
  refine ⟨(World.cell?_setCell_other _ _ _ _ (by simp)).trans m0, (World.cell?_setCell_other _ _ _ _ (by simp)).trans m1, World.cell?_setCell_same _ _ _ m2, fun o => ?_, ?_, ?_, ap, n1, n2⟩
  · have := h.fr o
    simp only [World.frozen?_setCell]
    exact this
  · exact own_set (own_set (own_set o1 n1) n1) n1
  · exact own_set (own_set (own_set o2 n2) n2) n2

theorem VarF.new {base : Nat} {k : Fr} {C D : Option Addr} {a b : Nat} {w : World} (o1 : Own w base C a k.num) (o2 : Own w base D b k.den) (ap : ∀ a b, C = some a → D = some b → a.block ≠ b.block) :
    VarF w.heap.size base k C a D b (w.alloc (.cells #[.bool k.neg, .slice C k.num.length a, .slice D k.den.length b] 24)) :=
  ⟨by simp [go_sem], by simp [go_sem], by simp [go_sem], fun o => by simp [go_sem], o1.ext ((Ext.refl w).alloc _), o2.ext ((Ext.refl w).alloc _), ap,
    fun a ha e => by rw [ha] at o1; have := o1.block.2; omega, fun a ha e => by rw [ha] at o2; have := o2.block.2; omega⟩
theorem VarF.zero (w : World) (base : Nat) : VarF w.heap.size base Fr.zero none 0 none 0 (w.alloc (.cells #[.bool false, .slice none 0 0, .slice none 0 0] 24)) :=
  VarF.new (k := Fr.zero) (Own.nil w base) (Own.nil w base) (fun _ _ h => by cases h)
theorem VarF.lower {g base base' : Nat} {f : Fr} {A B : Option Addr} {c d : Nat} {w : World} (h : VarF g base f A c B d w) (hb : base' ≤ base) : VarF g base' f A c B d w :=
  ⟨h.c0, h.c1, h.c2, h.fr, h.onum.lower hb, h.oden.lower hb, h.ap, h.n1, h.n2⟩
theorem VarF.lt {g base : Nat} {f : Fr} {A B : Option Addr} {c d : Nat} {w : World} (h : VarF g base f A c B d w) : g < w.heap.size := World.block_lt_of_cell? w ⟨g, 0, none⟩ h.c0

end Go.Proofs.YtifonmdcicegdaaGreat

namespace Go.Proofs.YtifonmdcicegdaaGreat
open Go Go.RowKit

/-- a fraction that is in new memory -/
def NewP (w : World) (s : Bool) (xs ys : List Int) (e : Ending) (w' : World) : Prop :=
  ∃ A c B d, e = .returned (.agg #[.bool s, .slice A xs.length c, .slice B ys.length d]) ∧ Own w' w.heap.size A c xs ∧ Own w' w.heap.size B d ys ∧ (∀ a b, A = some a → B = some b → a.block ≠ b.block) ∧ Ext w w'
/-- a block that is the call's own: what it holds -/
structure Var (g : Nat) (vs : List Value) (w : World) : Prop where
  lt : g < w.heap.size
  at_ : ∀ j v, vs[j]? = some v → w.cell? ⟨g, j, none⟩ = some v
  fr : ∀ o, w.frozen? ⟨g, o, none⟩ = false
theorem Var.ext {g : Nat} {vs : List Value} {w w' : World} (h : Var g vs w) (e : Ext w w') : Var g vs w' :=
  ⟨Nat.lt_of_lt_of_le h.lt e.size, fun j v hj => e.cell (h.at_ j v hj), fun o => (Below.frozen (p := ⟨g, o, none⟩) e h.lt).trans (h.fr o)⟩
theorem Var.new (w : World) (vs : List Value) (t : TypeId) : Var w.heap.size vs (w.alloc (.cells vs.toArray t)) :=
  ⟨by simp, fun j v hj => by rw [World.cell?_alloc_at (hn := rfl)]; simpa using hj, fun o => by simp [go_sem]⟩
/-- words without a nought at the end, not too many -/
def TrimW (xs : List Int) : Prop := xs.length ≤ 8192 ∧ tl xs xs.length = xs.length
theorem trimW_wd (n : Nat) (h : (wd n).length ≤ 8192) : TrimW (wd n) := ⟨h, tl_wd n⟩
theorem trimW_ok {a : Fr} (wa : a.Wf) (h : fchk a = 0) : TrimW a.num ∧ TrimW a.den := by
  obtain ⟨q, rfl, lq⟩ := fchk_ok wa h
  have := not_lng lq
  exact ⟨trimW_wd _ (by omega), trimW_wd _ (by omega)⟩
abbrev Thr (w : World) (g : Nat) (a b c : Value) : Prop := w.cell? ⟨g, 0, none⟩ = some a ∧ w.cell? ⟨g, 1, none⟩ = some b ∧ w.cell? ⟨g, 2, none⟩ = some c
theorem thr_ext {w w' : World} {g : Nat} {a b c : Value} (x : Ext w w') (H : Thr w g a b c) : Thr w' g a b c := ⟨x.cell H.1, x.cell H.2.1, x.cell H.2.2⟩
theorem thr_drew {w : World} {g : Nat} {a b c : Value} (H : Thr w g a b c) : Thr w.drew g a b c := H
theorem thr_set {w : World} {g : Nat} {a b c : Value} {p : Addr} {u : Value} (H : Thr w g a b c) (h1 : p.block ≠ g) : Thr (w.setCell p u) g a b c :=
  have hg := grown_setCell w p u
  ⟨cell_keep hg H.1 (fun e => h1 (Option.some.inj e).symm), cell_keep hg H.2.1 (fun e => h1 (Option.some.inj e).symm), cell_keep hg H.2.2 (fun e => h1 (Option.some.inj e).symm)⟩

end Go.Proofs.YtifonmdcicegdaaGreat

namespace Go.Proofs.YtifonmdcicegdaaGreat
open Go Go.RowKit

theorem cmp_eq_iff {m n : Nat} : cmp m n = 0 ↔ m = n := by unfold cmp; split <;> (try split) <;> omega

theorem compare_one (A : Option Addr) (g c : Nat) (w : World) (h : Rd w A c (wd g)) (b : Nat) (hb : Rd w (some ⟨b, 0, none⟩) 1 [1]) :
    Calls Tryz.prog 146 #[.slice A (wd g).length c, .slice (some ⟨b, 0, none⟩) 1 1] w fun e w' => e = .returned (.int .i64 (cmp g 1)) ∧ Ext w w' := by
  have h1 := compare_any A (some ⟨b, 0, none⟩) g 1 c 1 w h (by rw [wd_one]; exact hb)
  rw [show (wd 1).length = 1 by rw [wd_one]; rfl] at h1
  exact h1

set_option maxHeartbeats 2000000 in
theorem rcheck_any (s : Bool) (A B : Option Addr) (xs ys : List Int) (c d : Nat) (w : World) (ha : Rd w A c xs) (hb : Rd w B d ys) (hx : Wf xs) (hy : Wf ys) :
    Calls Tryz.prog 29 #[.agg #[.bool s, .slice A xs.length c, .slice B ys.length d]] w fun e w' => e = .returned (.int .i64 (fchk ⟨s, xs, ys⟩)) ∧ Ext w w' := by
  have hl := ha.lim
  have hly := hb.lim
  have HX := Lib.hid ((Ext.refl w).alloc (.cells #[.bool s, .slice A xs.length c, .slice B ys.length d] 24))
  have HA := Lib.hid (ha.ext HX.out)
  have HB := Lib.hid (hb.ext HX.out)
  clear ha hb
  by_cases h1 : 2048 < xs.length
  · have HE := Lib.hid (show fchk ⟨s, xs, ys⟩ = 3 from if_pos h1)
    rw [HE.out]
    go_enter Tryz.func29, Tryz.ntmps29
    go_wp2_with fail
    refine (long_any _ _ _ _ (by omega)).mono ?_; rintro e w' ⟨rfl, rfl⟩
    go_wp2_with fail
    go_ret
    exact ⟨rfl, HX.out⟩
  by_cases h2 : 2048 < ys.length
  · have HE := Lib.hid (show fchk ⟨s, xs, ys⟩ = 3 by unfold fchk; rw [if_neg h1, if_pos h2])
    rw [HE.out]
    go_enter Tryz.func29, Tryz.ntmps29
    go_wp2_with fail
    refine (long_any _ _ _ _ (by omega)).mono ?_; rintro e w' ⟨rfl, rfl⟩
    go_wp2_with fail
    refine (long_any _ _ _ _ (by omega)).mono ?_; rintro e w' ⟨rfl, rfl⟩
    go_wp2_with fail
    go_ret
    exact ⟨rfl, HX.out⟩
  by_cases h3 : chk xs ≠ 0
  · have HE := Lib.hid (show fchk ⟨s, xs, ys⟩ = 11 by unfold fchk; rw [if_neg h1, if_neg h2, if_pos h3])
    have hb1 : (chk xs != 0) = true := bne_iff_ne.2 h3
    rw [HE.out]
    clear h3
    go_enter Tryz.func29, Tryz.ntmps29
    go_wp2_with fail
    refine (long_any _ _ _ _ (by omega)).mono ?_; rintro e w' ⟨rfl, rfl⟩
    go_wp2_with fail
    refine (long_any _ _ _ _ (by omega)).mono ?_; rintro e w' ⟨rfl, rfl⟩
    go_wp2_with fail
    refine (check_any _ _ _ _ HA.out).mono ?_; rintro e w' ⟨rfl, rfl⟩
    go_wp2_with fail
    go_ret
    exact ⟨rfl, HX.out⟩
  have hb1 : (chk xs != 0) = false := bne_eq_false_iff_eq.2 (by simpa using h3)
  by_cases h4 : chk ys ≠ 0
  · have HE := Lib.hid (show fchk ⟨s, xs, ys⟩ = 11 by unfold fchk; rw [if_neg h1, if_neg h2, if_neg h3, if_pos h4])
    have hb2 : (chk ys != 0) = true := bne_iff_ne.2 h4
    rw [HE.out]
    clear h3 h4
    go_enter Tryz.func29, Tryz.ntmps29
    go_wp2_with fail
    refine (long_any _ _ _ _ (by omega)).mono ?_; rintro e w' ⟨rfl, rfl⟩
    go_wp2_with fail
    refine (long_any _ _ _ _ (by omega)).mono ?_; rintro e w' ⟨rfl, rfl⟩
    go_wp2_with fail
    refine (check_any _ _ _ _ HA.out).mono ?_; rintro e w' ⟨rfl, rfl⟩
    go_wp2_with fail
    refine (check_any _ _ _ _ HB.out).mono ?_; rintro e w' ⟨rfl, rfl⟩
    go_wp2_with fail
    go_ret
    exact ⟨rfl, HX.out⟩
  have hb2 : (chk ys != 0) = false := bne_eq_false_iff_eq.2 (by simpa using h4)
  by_cases h5 : ys.length = 0
  · have HE := Lib.hid (show fchk ⟨s, xs, ys⟩ = 11 by unfold fchk; rw [if_neg h1, if_neg h2, if_neg h3, if_neg h4, if_pos h5])
    have hb3 : ((ys.length : Int) == 0) = true := beq_iff_eq.2 (by omega)
    rw [HE.out]
    clear h3 h4 h5
    go_enter Tryz.func29, Tryz.ntmps29
    go_wp2_with fail
    refine (long_any _ _ _ _ (by omega)).mono ?_; rintro e w' ⟨rfl, rfl⟩
    go_wp2_with fail
    refine (long_any _ _ _ _ (by omega)).mono ?_; rintro e w' ⟨rfl, rfl⟩
    go_wp2_with fail
    refine (check_any _ _ _ _ HA.out).mono ?_; rintro e w' ⟨rfl, rfl⟩
    go_wp2_with fail
    refine (check_any _ _ _ _ HB.out).mono ?_; rintro e w' ⟨rfl, rfl⟩
    go_wp2_with fail
    go_ret
    exact ⟨rfl, HX.out⟩
  have hb3 : ((ys.length : Int) == 0) = false := beq_eq_false_iff_ne.2 (by omega)
  by_cases h6 : xs.length = 0 ∧ s = true
  · have HE := Lib.hid (show fchk ⟨s, xs, ys⟩ = 11 by unfold fchk; rw [if_neg h1, if_neg h2, if_neg h3, if_neg h4, if_neg h5, if_pos h6])
    have hb4 : ((xs.length : Int) == 0) = true := beq_iff_eq.2 (by omega)
    obtain rfl : s = true := h6.2
    rw [HE.out]
    clear h3 h4 h5 h6
    go_enter Tryz.func29, Tryz.ntmps29
    go_wp2_with fail
    refine (long_any _ _ _ _ (by omega)).mono ?_; rintro e w' ⟨rfl, rfl⟩
    go_wp2_with fail
    refine (long_any _ _ _ _ (by omega)).mono ?_; rintro e w' ⟨rfl, rfl⟩
    go_wp2_with fail
    refine (check_any _ _ _ _ HA.out).mono ?_; rintro e w' ⟨rfl, rfl⟩
    go_wp2_with fail
    refine (check_any _ _ _ _ HB.out).mono ?_; rintro e w' ⟨rfl, rfl⟩
    go_wp2_with fail
    go_ret
    exact ⟨rfl, HX.out⟩
  obtain ⟨ex, lx⟩ := chk_ok hx (by simpa using h3)
  obtain ⟨ey, ly⟩ := chk_ok hy (by simpa using h4)
  obtain ⟨m, hm⟩ : ∃ m, m = (val xs).toNat := ⟨_, rfl⟩
  obtain ⟨n, hn⟩ : ∃ n, n = (val ys).toNat := ⟨_, rfl⟩
  rw [← hm] at ex
  rw [← hn] at ey
  have HE : (Nat.gcd m n = 1 → fchk ⟨s, xs, ys⟩ = 0) ∧ (Nat.gcd m n ≠ 1 → fchk ⟨s, xs, ys⟩ = 11) := by
    unfold fchk
    rw [if_neg h1, if_neg h2, if_neg h3, if_neg h4, if_neg h5, if_neg h6, hm, hn]
    exact ⟨fun e => if_neg (fun h => h e), fun e => if_pos e⟩
  have hb4 : ((xs.length : Int) == 0) = false ∨ (((xs.length : Int) == 0) = true ∧ s = false) := by
    by_cases h : xs.length = 0
    · refine .inr ⟨beq_iff_eq.2 (by omega), ?_⟩
      cases s with
      | false => rfl
      | true => exact absurd ⟨h, rfl⟩ h6
    · exact .inl (beq_eq_false_iff_ne.2 (by omega))
  have HGC := Lib.hid (show ∀ wx, Rd wx A c xs → Rd wx B d ys → Calls Tryz.prog 155 #[.slice A xs.length c, .slice B ys.length d] wx (One wx (Nat.gcd m n)) from fun wx a b => by
    have := gcd_any A B m n c d wx (ex ▸ a) (ey ▸ b) (by rw [← ex]; omega) (by rw [← ey]; omega)
    rw [← ex, ← ey] at this
    exact this)
  obtain ⟨g, hg⟩ : ∃ g, g = Nat.gcd m n := ⟨_, rfl⟩
  rw [← hg] at HE HGC
  clear h3 h4 h5 h6 hm hn ex ey hg hx hy
  have HCM : Hid (cmp g 1 = 0 ↔ g = 1) := cmp_eq_iff
  by_cases hg1 : g = 1
  · have hcc : (cmp g 1 != 0) = false := bne_eq_false_iff_eq.2 (HCM.out.2 hg1)
    have HF := Lib.hid (show fchk ⟨s, xs, ys⟩ = 0 from HE.1 hg1)
    rw [HF.out]
    clear HE hg1
    rcases hb4 with hb4 | ⟨hb4, rfl⟩
    all_goals
      go_enter Tryz.func29, Tryz.ntmps29
      go_wp2_with fail
      refine (long_any _ _ _ _ (by omega)).mono ?_; rintro e w' ⟨rfl, rfl⟩
      go_wp2_with fail
      refine (long_any _ _ _ _ (by omega)).mono ?_; rintro e w' ⟨rfl, rfl⟩
      go_wp2_with fail
      refine (check_any _ _ _ _ HA.out).mono ?_; rintro e w' ⟨rfl, rfl⟩
      go_wp2_with fail
      refine (check_any _ _ _ _ HB.out).mono ?_; rintro e w' ⟨rfl, rfl⟩
      go_wp2_with fail
      refine (HGC.out _ HA.out HB.out).mono ?_; rintro e w1 ⟨A1, c1, rfl, k1, hx1⟩
      have H1 := Lib.hid k1
      have HX1 := Lib.hid (HX.out.trans hx1)
      clear k1 hx1
      go_wp2_with fail
      refine (compare_one _ _ _ _ (H1.out.rd.ext ((Ext.refl _).alloc _)) _ (Own.lit w1 _ [1] rfl (by decide)).rd).mono ?_; rintro e w2 ⟨rfl, hx2⟩
      have HX2 := Lib.hid ((HX1.out.alloc _).trans hx2)
      clear hx2
      go_wp2_with fail
      go_ret
      exact ⟨rfl, HX2.out⟩
  · have hcc : (cmp g 1 != 0) = true := bne_iff_ne.2 (fun e => hg1 (HCM.out.1 e))
    have HF := Lib.hid (show fchk ⟨s, xs, ys⟩ = 11 from HE.2 hg1)
    rw [HF.out]
    clear HE hg1
    rcases hb4 with hb4 | ⟨hb4, rfl⟩
    all_goals
      go_enter Tryz.func29, Tryz.ntmps29
      go_wp2_with fail
      refine (long_any _ _ _ _ (by omega)).mono ?_; rintro e w' ⟨rfl, rfl⟩
      go_wp2_with fail
      refine (long_any _ _ _ _ (by omega)).mono ?_; rintro e w' ⟨rfl, rfl⟩
      go_wp2_with fail
      refine (check_any _ _ _ _ HA.out).mono ?_; rintro e w' ⟨rfl, rfl⟩
      go_wp2_with fail
      refine (check_any _ _ _ _ HB.out).mono ?_; rintro e w' ⟨rfl, rfl⟩
      go_wp2_with fail
      refine (HGC.out _ HA.out HB.out).mono ?_; rintro e w1 ⟨A1, c1, rfl, k1, hx1⟩
      have H1 := Lib.hid k1
      have HX1 := Lib.hid (HX.out.trans hx1)
      clear k1 hx1
      go_wp2_with fail
      refine (compare_one _ _ _ _ (H1.out.rd.ext ((Ext.refl _).alloc _)) _ (Own.lit w1 _ [1] rfl (by decide)).rd).mono ?_; rintro e w2 ⟨rfl, hx2⟩
      have HX2 := Lib.hid ((HX1.out.alloc _).trans hx2)
      clear hx2
      go_wp2_with fail
      go_ret
      exact ⟨rfl, HX2.out⟩

end Go.Proofs.YtifonmdcicegdaaGreat

