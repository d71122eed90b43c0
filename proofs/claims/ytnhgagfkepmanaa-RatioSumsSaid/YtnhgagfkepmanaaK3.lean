/- SameRatio, LentWhole, KeptWhole. -/
import Derived.Test.YtnhgagfkepmanaaK2
namespace Go.Proofs.Ytnhgagfkepmanaa
open Go Go.RowKit

set_option maxHeartbeats 1000000 in
theorem ksameR_any (s t : Bool) (A B C D : Option Addr) (xs ys us vs : List Int) (a b c d : Nat) (w : World) (ha : Rd w A a xs) (hb : Rd w B b ys) (hc : Rd w C c us) (hd : Rd w D d vs) (r : Bool) (hr : decide ((⟨s, xs, ys⟩ : Fr) = ⟨t, us, vs⟩) = r) :
    Calls Try.prog 11 #[.agg #[.bool s, .slice A xs.length a, .slice B ys.length b], .agg #[.bool t, .slice C us.length c, .slice D vs.length d]] w fun e w' => e = .returned (.bool r) ∧ Ext w w' := by
  have HA := Lib.hid ha
  have HB := Lib.hid hb
  have HC := Lib.hid hc
  have HD := Lib.hid hd
  have HR := Lib.hid hr
  clear ha hb hc hd hr
  have HX := Lib.hid (((Ext.refl w).alloc (.cells #[.bool s, .slice A xs.length a, .slice B ys.length b] 27)).alloc (.cells #[.bool t, .slice C us.length c, .slice D vs.length d] 27))
  by_cases h1 : s = t
  · subst h1
    by_cases h2 : xs = us
    · have H2 := Lib.hid h2
      have HS := Lib.hid (ksame_any A C xs us a c xs.length _ (HA.out.ext HX.out) (HC.out.ext HX.out) rfl us.length rfl true (decide_eq_true h2))
      have HS2 := Lib.hid (fun wx (hx : Ext w wx) => ksame_any B D ys vs b d ys.length wx (HB.out.ext hx) (HD.out.ext hx) rfl vs.length rfl r (by rw [← HR.out, h2]; simp))
      clear h2
      go_enter Try.func11, Try.ntmps11
      go_wp2_with fail
      refine HS.out.mono ?_; rintro e w1 ⟨rfl, hq⟩
      obtain ⟨m1, rfl⟩ := hq
      go_wp2_with fail
      refine (HS2.out _ (HX.out.drewN m1)).mono ?_; rintro e w2 ⟨rfl, hq⟩
      obtain ⟨m2, rfl⟩ := hq
      go_wp2_with fail
      go_ret
      exact ⟨rfl, HX.out.drewN _⟩
    · have HS := Lib.hid (ksame_any A C xs us a c xs.length _ (HA.out.ext HX.out) (HC.out.ext HX.out) rfl us.length rfl false (decide_eq_false h2))
      have HF := Lib.hid (show r = false by rw [← HR.out]; exact decide_eq_false (fun e => h2 (Fr.mk.inj e).2.1))
      clear h2
      go_enter Try.func11, Try.ntmps11
      go_wp2_with fail
      refine HS.out.mono ?_; rintro e w1 ⟨rfl, hq⟩
      obtain ⟨m1, rfl⟩ := hq
      go_wp2_with fail
      go_ret
      exact ⟨by rw [HF.out]; rfl, HX.out.drewN m1⟩
  · have HF := Lib.hid (show r = false by rw [← HR.out]; exact decide_eq_false (fun e => h1 (Fr.mk.inj e).1))
    have hb : (s == t) = false := beq_eq_false_iff_ne.2 h1
    go_enter Try.func11, Try.ntmps11
    go_wp2_with fail
    go_ret
    exact ⟨by rw [HF.out]; rfl, HX.out⟩

set_option maxHeartbeats 1000000 in
theorem klentW_any (s : Bool) (A : Option Addr) (xs : List Int) (c l : Nat) (w : World) (h : Rd w A c xs) (hl : xs.length = l) (hm : l ≤ 35184372088820) :
    Calls Try.prog 6 #[.agg #[.bool s, .slice A l c]] w fun e w' => ∃ A' c', e = .returned (.agg #[.bool s, .slice A' l c']) ∧ Own w' w.heap.size A' c' (xs ++ marks) ∧ Ext w w' := by
  have HA := Lib.hid h
  have HL := Lib.hid hl
  clear h hl
  have HX := Lib.hid (((Ext.refl w).alloc (.cells #[.bool s, .slice A l c] 24)).alloc (.cells #[.bool false, .slice none 0 0] 24))
  have HS := Lib.hid (fun wx (hx : Ext w wx) => klent_any A xs c l wx (HA.out.ext hx) HL.out hm)
  go_enter Try.func6, Try.ntmps6
  go_wp2_with fail
  go_region_held3 (fun w' => w'.cell? ⟨w.heap.size, 0, none⟩ = some (.bool s) ∧ w'.cell? ⟨w.heap.size, 1, none⟩ = some (.slice A l c)) (go_keep)
    (first | (go_at_call 19; refine (HS.out _ HX.out.drew).mono ?_; rintro e w1 ⟨A1, c1, rfl, h1, hx1⟩; have H1 := Lib.hid h1; have HX1 := Lib.hid hx1; clear h1 hx1; have hc1 : l + 3 ≤ c1 := (by have := H1.out.rd.cap; rw [List.length_append, HL.out] at this; exact this); have hc2 : (l : Int) ≤ (c1 : Int) := (by omega); have hc3 : (0 : Int) ≤ (l : Int) := (by omega); obtain ⟨hc, hf⟩ := bcell HX1.out; have hz : w.heap.size + 1 < w1.heap.size := (by have := HX1.out.size; simp at this; omega); have k0 : w1.cell? ⟨w.heap.size, 0, none⟩ = some (.bool s) := (by rw [hc _ _ (by simp; try omega)]; simp [go_sem]); have k1 : w1.cell? ⟨w.heap.size, 1, none⟩ = some (.slice A l c) := (by rw [hc _ _ (by simp; try omega)]; simp [go_sem])))
  all_goals
    have HXw := Lib.hid (HX.out.drew.trans HX1.out)
    have H2 : Hid (Own w1 (w.heap.size + 2) A1 c1 (xs ++ marks)) := H1.out.lower (by simp [World.drew])
    go_wp2_with fail
    exact bodyPost_ret (v := .agg #[.bool s, .slice A1 l c1]) (by simp [results, Try.results6, go_sem, hc]) rfl ⟨A1, c1, rfl, by
      refine Own.lower (base := w.heap.size + 2) ?_ (by omega)
      repeat (first | (with_reducible exact H2.out) | refine Own.setBelow ?_ (by simp; try omega) _), by repeat (first | exact HXw.out | refine Ext.setCell ?_ (by simp; try omega) _)⟩


set_option maxHeartbeats 1000000 in
theorem kkeptW_any (s : Bool) (A B : Option Addr) (xs : List Int) (c d l : Nat) (w : World) (ha : Rd w A c (xs ++ marks)) (hb : Rd w B d xs) (hl : xs.length = l) (hm : l ≤ 35184372088820) :
    Calls Try.prog 12 #[.agg #[.bool s, .slice A l c], .agg #[.bool s, .slice B l d]] w fun e w' => e = .returned (.bool true) ∧ Ext w w' := by
  have HA := Lib.hid ha
  have HB := Lib.hid hb
  have HL := Lib.hid hl
  have hc1 : l + 3 ≤ c := by have := ha.cap; rw [List.length_append, hl] at this; exact this
  have hcm := ha.capm
  clear ha hb hl
  have HX := Lib.hid (((Ext.refl w).alloc (.cells #[.bool s, .slice A l c] 24)).alloc (.cells #[.bool s, .slice B l d] 24))
  have HS := Lib.hid (fun wx (hx : Ext w wx) => kkept_any A B xs c d l (l + 3) wx (HA.out.ext hx) (HB.out.ext hx) HL.out rfl hm)
  have hs1 : IntKind.i64.wrap ((l : Int) + 3) = (l : Int) + 3 := IntWalk.i64_in _ (by omega)
  have hc2 : (l : Int) + 3 ≤ (c : Int) := by omega
  have hc3 : (0 : Int) ≤ (l : Int) + 3 := by omega
  have hss : (s == s) = true := beq_self_eq_true s
  have hll : ((l : Int) == (l : Int)) = true := beq_self_eq_true _
  go_enter Try.func12, Try.ntmps12
  go_wp2_with fail
  go_region_held3 (fun w' => w'.cell? ⟨w.heap.size, 0, none⟩ = some (.bool s) ∧ w'.cell? ⟨w.heap.size, 1, none⟩ = some (.slice A l c) ∧ w'.cell? ⟨w.heap.size + 1, 0, none⟩ = some (.bool s) ∧ w'.cell? ⟨w.heap.size + 1, 1, none⟩ = some (.slice B l d)) (go_keep)
    (first | (go_at_call 27; refine (HS.out _ HX.out.drew).mono ?_; rintro e w1 ⟨rfl, hx1⟩; have HX1 := Lib.hid hx1; clear hx1; obtain ⟨hc, hf⟩ := bcell HX1.out; have k0 : w1.cell? ⟨w.heap.size, 0, none⟩ = some (.bool s) := (by rw [hc _ _ (by simp; try omega)]; simp [go_sem]); have k1 : w1.cell? ⟨w.heap.size, 1, none⟩ = some (.slice A l c) := (by rw [hc _ _ (by simp; try omega)]; simp [go_sem]); have k2 : w1.cell? ⟨w.heap.size + 1, 0, none⟩ = some (.bool s) := (by rw [hc _ _ (by simp; try omega)]; simp [go_sem]); have k3 : w1.cell? ⟨w.heap.size + 1, 1, none⟩ = some (.slice B l d) := (by rw [hc _ _ (by simp; try omega)]; simp [go_sem])))
  all_goals
    go_wp2_with fail
    go_ret
    exact ⟨rfl, HX.out.drew.trans HX1.out⟩

end Go.Proofs.Ytnhgagfkepmanaa
