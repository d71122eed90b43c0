/- The law's kit: words: long, CopyWords, LentWords, SameWords, KeptWords, OverWords. -/
import Derived.Test.YtnhgagfkepmanaaG9
import Derived.Deep.DeepAppendRoom
namespace Go.Proofs.Ytnhgagfkepmanaa
open Go Go.RowKit

/-- the same memory: no more than draws -/
def Quiet (w w' : World) : Prop := ∃ m, w' = w.drewN m
theorem Quiet.ext {w w' : World} (h : Quiet w w') : Ext w w' := by obtain ⟨m, rfl⟩ := h; exact (Ext.refl w).drewN m
theorem Quiet.refl (w : World) : Quiet w w := ⟨0, rfl⟩
theorem Quiet.drewN {w w' : World} (h : Quiet w w') (n : Nat) : Quiet w (w'.drewN n) := by obtain ⟨m, rfl⟩ := h; exact ⟨m + n, by rw [World.drewN_drewN]⟩

theorem nth_ext : ∀ {xs ys : List Int}, xs.length = ys.length → (∀ j, j < xs.length → nth xs j = nth ys j) → xs = ys
  | [], [], _, _ => rfl
  | [], _ :: _, h, _ => by simp at h
  | _ :: _, [], h, _ => by simp at h
  | x :: xs, y :: ys, h, e => by
    have h0 : x = y := e 0 (by simp)
    rw [h0, nth_ext (xs := xs) (ys := ys) (by simpa using h) (fun j hj => e (j + 1) (by simpa using hj))]

/-- is it too long for the law? -/
def isLong (n : Nat) : Bool := decide (60 < n ∧ (n ≤ 2048 ∨ 2057 ≤ n))

theorem klong_any (A : Option Addr) (n c : Nat) (w : World) (hn : n ≤ 9223372036854775807) (b : Bool) (hb : isLong n = b) :
    Calls Try.prog 18 #[.slice A n c] w fun e w' => e = .returned (.bool b) ∧ w' = w := by
  unfold isLong at hb
  have HB := Lib.hid hb
  clear hb
  by_cases h1 : 60 < n
  · by_cases h2 : n ≤ 2048
    · obtain rfl : b = true := by rw [← HB.out]; exact decide_eq_true (by omega)
      go_enter Try.func18, Try.ntmps18
      go_wp2
      go_ret
      exact ⟨rfl, rfl⟩
    · by_cases h3 : 2057 ≤ n
      · obtain rfl : b = true := by rw [← HB.out]; exact decide_eq_true (by omega)
        go_enter Try.func18, Try.ntmps18
        go_wp2
        go_ret
        exact ⟨by simp; omega, rfl⟩
      · obtain rfl : b = false := by rw [← HB.out]; exact decide_eq_false (by omega)
        go_enter Try.func18, Try.ntmps18
        go_wp2
        go_ret
        exact ⟨by simp; omega, rfl⟩
  · obtain rfl : b = false := by rw [← HB.out]; exact decide_eq_false (by omega)
    go_enter Try.func18, Try.ntmps18
    go_wp2
    go_ret
    exact ⟨rfl, rfl⟩

theorem kcopy_any (A : Option Addr) (xs : List Int) (c l : Nat) (w : World) (h : Rd w A c xs) (hl : xs.length = l) (hm : l ≤ 35184372088832) :
    Calls Try.prog 36 #[.slice A l c] w fun e w' => ∃ A' c', e = .returned (.slice A' l c') ∧ Own w' w.heap.size A' c' xs ∧ Ext w w' := by
  have H := Lib.hid h
  have HL := Lib.hid hl
  clear h hl
  go_enter Try.func36, Try.ntmps36
  go_wp2_with (at_builtin; refine wpList_app rfl _ _ rfl w.heap.size (some ⟨w.heap.size, 0, none⟩) 0 [] 0 rfl rfl (Own.lit w #[] [] rfl (by simp)) _ _ xs l HL.out rfl (H.out.ext ((Ext.refl w).alloc _)) (by omega) (by simp) ?_; intro A' c' w1 hO hg)
  have HO := Lib.hid hO
  have HX : Hid (Ext w w1) := ((Ext.refl w).alloc _).grown hg (fun k hk => by cases hk; exact Nat.le_refl _)
  clear hO hg
  go_wp2_with fail
  go_ret
  exact ⟨A', c', by simp, HO.out, HX.out⟩

/-- what stands behind words that are lent -/
def marks : List Int := [2882343476, 2882343477, 2882343478]
theorem marks_take (k : Nat) (h : k < 3) : marks.take (k + 1) = marks.take k ++ [2882343476 + (k : Int)] := by
  match k, h with
  | 0, _ => rfl
  | 1, _ => rfl
  | 2, _ => rfl
theorem wf_marks : Wf marks := by
  intro x hx
  simp [marks] at hx
  omega

set_option maxHeartbeats 1000000 in
theorem klent_any (A : Option Addr) (xs : List Int) (c l : Nat) (w : World) (h : Rd w A c xs) (hl : xs.length = l) (hm : l ≤ 35184372088820) :
    Calls Try.prog 19 #[.slice A l c] w fun e w' => ∃ A' c', e = .returned (.slice A' (l + 3) c') ∧ Own w' w.heap.size A' c' (xs ++ marks) ∧ Ext w w' := by
  have H := Lib.hid h
  have HL := Lib.hid hl
  clear h hl
  go_enter Try.func19, Try.ntmps19
  go_wp2_with fail
  refine (kcopy_any A xs c l _ H.out HL.out (by omega)).mono ?_; rintro e w1 ⟨A1, c1, rfl, h1, hx1⟩
  have H1 := Lib.hid h1
  have HX1 := Lib.hid hx1
  clear h1 hx1
  go_wp2_with fail
  go_loopw [3, 4] (fun s i wr => ∃ (k : Nat) (P : Option Addr) (cp : Nat), k ≤ 3 ∧ s = .slice P (l + k) cp ∧ i = .int .i64 k ∧ Hid (Own wr w.heap.size P cp (xs ++ marks.take k)) ∧ Hid (Ext w wr)) (fun _ i _ => 3 - (intOf i).toNat)
  case atStart => exact ⟨0, A1, c1, by omega, rfl, rfl, by rw [List.take_zero, List.append_nil]; exact H1.out, HX1.out⟩
  case round =>
    clear H1 HX1
    obtain ⟨k, P, cp, hk, rfl, rfl, HO, HX⟩ := hrel
    by_cases hk3 : k < 3
    · have HLL := Lib.hid (show (xs ++ marks.take k).length = l + k by rw [List.length_append, HL.out, List.length_take]; simp [marks]; omega)
      go_wp2_with (at_builtin; refine wpList_app rfl _ _ rfl w.heap.size P cp (xs ++ marks.take k) (l + k) HLL.out rfl (HO.out.ext ((Ext.refl wr).alloc _)) _ _ [2882343476 + (k : Int)] 1 rfl rfl (Own.lit wr _ [2882343476 + (k : Int)] rfl (by simp)).rd (by omega) (by have := HX.out.size; simp; omega) ?_; intro A' c' w2 hO hg)
      have HO2 := Lib.hid (show Own w2 w.heap.size A' c' (xs ++ marks.take (k + 1)) by rw [marks_take k hk3, ← List.append_assoc]; exact hO)
      have HX2 := Lib.hid ((HX.out.alloc _).grown hg (fun k hk => by
        cases P with
        | none => cases hk
        | some a => cases hk; exact HO.out.block.1))
      clear hO hg
      go_roundw
      case rel => exact ⟨k + 1, A', c', by omega, rfl, by go_num, HO2.out, HX2.out⟩
      case measure => simp [intOf]; omega
    · obtain rfl : k = 3 := by omega
      go_wp2_with fail
      go_ret
      exact ⟨P, cp, rfl, HO.out, HX.out⟩

set_option maxHeartbeats 1000000 in
theorem ksame_any (A B : Option Addr) (xs ys : List Int) (c d l : Nat) (w : World) (ha : Rd w A c xs) (hb : Rd w B d ys) (hl : xs.length = l) (n : Nat) (hn : ys.length = n) (b : Bool) (hbb : decide (xs = ys) = b) :
    Calls Try.prog 26 #[.slice A l c, .slice B n d] w fun e w' => e = .returned (.bool b) ∧ Quiet w w' := by
  have HL := Lib.hid hl
  have HN := Lib.hid hn
  have HA := Lib.hid ha
  have HB := Lib.hid hb
  have HBB := Lib.hid hbb
  have hll := ha.lim
  rw [hl] at hll
  clear ha hb hl hn hbb
  by_cases hne : l = n
  · subst hne
    have hbn : ((l : Int) != (l : Int)) = false := by simp
    go_enter Try.func26, Try.ntmps26
    go_wp2_with fail
    go_loopw [5] (fun i wr => ∃ k : Nat, k ≤ l ∧ i = .int .i64 k ∧ Hid (∀ j, j < k → nth xs j = nth ys j) ∧ Hid (Quiet w wr)) (fun i _ => l - (intOf i).toNat)
    case atStart => exact ⟨0, by omega, rfl, fun j hj => by omega, Quiet.refl w⟩
    case round =>
      obtain ⟨k, hk, rfl, HE, HQ⟩ := hrel
      by_cases hkl : k < l
      · obtain ⟨a, rfl, hca⟩ := (HA.out.ext HQ.out.ext).at_ k (by rw [HL.out]; exact hkl)
        obtain ⟨b', rfl, hcb⟩ := (HB.out.ext HQ.out.ext).at_ k (by rw [HN.out]; exact hkl)
        by_cases he : nth xs k = nth ys k
        · have HE2 := Lib.hid (show ∀ j, j < k + 1 → nth xs j = nth ys j from fun j hj => by
            by_cases e : j = k
            · rw [e]; exact he
            · exact HE.out j (by omega))
          have hne : (nth xs k != nth ys k) = false := bne_eq_false_iff_eq.2 he
          clear he
          go_wp2_with fail
          go_quiet (fail)
          go_wp2_with fail
          go_roundw
          case rel => exact ⟨k + 1, by omega, by go_num, HE2.out, HQ.out.drewN _⟩
          case measure => simp [intOf]; omega
        · have hne : (nth xs k != nth ys k) = true := bne_iff_ne.2 he
          have HF := Lib.hid (show b = false by rw [← HBB.out]; exact decide_eq_false (fun e => he (by rw [e])))
          clear he
          go_wp2_with fail
          go_quiet (fail)
          go_wp2_with fail
          go_ret
          exact ⟨by rw [HF.out]; rfl, HQ.out.drewN _⟩
      · have hkk : k = l := by omega
        have HF := Lib.hid (show b = true by rw [← HBB.out]; exact decide_eq_true (nth_ext (HL.out.trans HN.out.symm) (fun j hj => HE.out j (by have := HL.out; omega))))
        go_wp2_with fail
        go_ret
        exact ⟨by rw [HF.out]; rfl, HQ.out⟩
  · have hbn : ((l : Int) != (n : Int)) = true := bne_iff_ne.2 (by omega)
    have HF := Lib.hid (show b = false by rw [← HBB.out]; exact decide_eq_false (fun e => hne (by rw [← HL.out, ← HN.out, e])))
    go_enter Try.func26, Try.ntmps26
    go_wp2_with fail
    go_ret
    exact ⟨by rw [HF.out]; rfl, Quiet.refl w⟩

theorem kkept_any (A B : Option Addr) (xs : List Int) (c d l n : Nat) (w : World) (ha : Rd w A c (xs ++ marks)) (hb : Rd w B d xs) (hl : xs.length = l) (hn : l + 3 = n) (hm : l ≤ 35184372088820) :
    Calls Try.prog 27 #[.slice A n c, .slice B l d] w fun e w' => e = .returned (.bool true) ∧ Ext w w' := by
  have HL := Lib.hid hl
  have HA := Lib.hid ha
  have HB := Lib.hid hb
  have HLL := Lib.hid (show (xs ++ marks).length = l + 3 by rw [List.length_append, hl]; rfl)
  clear ha hb hl
  subst hn
  go_enter Try.func27, Try.ntmps27
  go_wp2_with fail
  refine (klent_any B xs d l _ HB.out HL.out hm).mono ?_; rintro e w1 ⟨A1, c1, rfl, h1, hx1⟩
  have H1 := Lib.hid h1
  have HX1 := Lib.hid hx1
  clear h1 hx1
  go_wp2_with fail
  refine (ksame_any A A1 (xs ++ marks) (xs ++ marks) _ _ (l + 3) _ (HA.out.ext HX1.out) H1.out.rd HLL.out (l + 3) HLL.out true (decide_eq_true rfl)).mono ?_; rintro e w2 ⟨rfl, hq⟩
  have HX2 := Lib.hid (HX1.out.trans hq.ext)
  clear hq
  go_wp2_with fail
  go_ret
  exact ⟨rfl, HX2.out⟩

end Go.Proofs.Ytnhgagfkepmanaa
