/- Long, ApartRatios. -/
import Derived.Test.YtnhgagfkepmanaaK4
import Derived.Deep.RegionHeldLaw
import Derived.Deep.AppendLies
namespace Go.Proofs.Ytnhgagfkepmanaa
open Go Go.RowKit

/-- the words of fractions that lie side by side from gr, o on: the j-th of all of them -/
structure Sides (gr o n : Nat) (P : Nat → Option Addr) (C N : Nat → Nat) (w : World) : Prop where
  num : ∀ j, j < n → w.cell? ⟨gr, o + j * 3 + 1, none⟩ = some (.slice (P (2 * j)) (N (2 * j)) (C (2 * j)))
  den : ∀ j, j < n → w.cell? ⟨gr, o + j * 3 + 2, none⟩ = some (.slice (P (2 * j + 1)) (N (2 * j + 1)) (C (2 * j + 1)))
theorem Sides.ext {gr o n : Nat} {P : Nat → Option Addr} {C N : Nat → Nat} {w w' : World} (h : Sides gr o n P C N w) (e : Ext w w') : Sides gr o n P C N w' :=
  ⟨fun j hj => e.cell (h.num j hj), fun j hj => e.cell (h.den j hj)⟩

set_option maxHeartbeats 1000000 in
theorem klongR_any (w : World) (gr o n c : Nat) (P : Nat → Option Addr) (C N : Nat → Nat) (h : Sides gr o n P C N w) (hn : n ≤ 9223372036854775807) (hN : ∀ j, j < 2 * n → N j ≤ 9223372036854775807) (b : Bool) (hb : decide (∃ j, j < 2 * n ∧ isLong (N j) = true) = b) :
    Calls Try.prog 5 #[.slice (some ⟨gr, o, none⟩) n c] w fun e w' => e = .returned (.bool b) ∧ w' = w := by
  have H := Lib.hid h
  have HN := Lib.hid hN
  have HB := Lib.hid hb
  clear h hN hb
  go_enter Try.func5, Try.ntmps5
  go_wp2_with fail
  go_loop [3] (fun s => ∃ i : Nat, i ≤ n ∧ s = .int .i64 i ∧ Hid (∀ j, j < 2 * i → isLong (N j) = false)) (fun s => n - (intOf s).toNat)
  case atStart => exact ⟨0, by omega, rfl, fun j hj => by omega⟩
  case round =>
    obtain ⟨i, hi, rfl, HL⟩ := hrel
    by_cases hin : i < n
    · have h1 := H.out.num i hin
      have h2 := H.out.den i hin
      have HK1 := Lib.hid (klong_any (P (2 * i)) (N (2 * i)) (C (2 * i)) w (HN.out _ (by omega)) _ rfl)
      have HK2 := Lib.hid (klong_any (P (2 * i + 1)) (N (2 * i + 1)) (C (2 * i + 1)) w (HN.out _ (by omega)) _ rfl)
      obtain ⟨b1, hb1⟩ : ∃ b1, b1 = isLong (N (2 * i)) := ⟨_, rfl⟩
      obtain ⟨b2, hb2⟩ : ∃ b2, b2 = isLong (N (2 * i + 1)) := ⟨_, rfl⟩
      rw [← hb1] at HK1
      rw [← hb2] at HK2
      have HB1 := Lib.hid hb1
      have HB2 := Lib.hid hb2
      clear hb1 hb2
      cases b1 with
      | true =>
        have HF := Lib.hid (show b = true by rw [← HB.out]; exact decide_eq_true ⟨2 * i, by omega, HB1.out.symm⟩)
        go_wp2_with fail
        refine HK1.out.mono ?_; rintro e w1 ⟨rfl, rfl⟩
        go_wp2_with fail
        go_ret
        exact ⟨by rw [HF.out]; rfl, rfl⟩
      | false =>
        cases b2 with
        | true =>
          have HF := Lib.hid (show b = true by rw [← HB.out]; exact decide_eq_true ⟨2 * i + 1, by omega, HB2.out.symm⟩)
          go_wp2_with fail
          refine HK1.out.mono ?_; rintro e w1 ⟨rfl, rfl⟩
          go_wp2_with fail
          refine HK2.out.mono ?_; rintro e w1 ⟨rfl, rfl⟩
          go_wp2_with fail
          go_ret
          exact ⟨by rw [HF.out]; rfl, rfl⟩
        | false =>
          have HL2 := Lib.hid (show ∀ j, j < 2 * (i + 1) → isLong (N j) = false from fun j hj => by
            by_cases e1 : j = 2 * i
            · rw [e1]; exact HB1.out.symm
            · by_cases e2 : j = 2 * i + 1
              · rw [e2]; exact HB2.out.symm
              · exact HL.out j (by omega))
          go_wp2_with fail
          refine HK1.out.mono ?_; rintro e w1 ⟨rfl, rfl⟩
          go_wp2_with fail
          refine HK2.out.mono ?_; rintro e w1 ⟨rfl, rfl⟩
          go_wp2_with fail
          go_round
          case rel => exact ⟨i + 1, by omega, by go_num, HL2.out⟩
          case measure => simp [intOf]; omega
    · have HF := Lib.hid (show b = false by
        rw [← HB.out]
        refine decide_eq_false ?_
        rintro ⟨j, hj, he⟩
        rw [HL.out j (by omega)] at he
        cases he)
      go_wp2_with fail
      go_ret
      exact ⟨by rw [HF.out]; rfl, rfl⟩

theorem two_cells (w : World) (x y : Value) (t : TypeId) : ∀ j u, [x, y][j]? = some u → (w.alloc (.cells #[x, y] t)).cell? ((⟨w.heap.size, 0, none⟩ : Addr).add j) = some u := by
  intro j u hj
  match j, hj with
  | 0, hj => simp at hj; subst hj; simp [Addr.add]
  | 1, hj => simp at hj; subst hj; simp [Addr.add]
theorem ownsRow_ge {w : World} {base : Nat} {e : TypeId} {size n : Nat} {v : Value} {vs : List Value} (h : w.ownsRow base e size v n vs) : ∀ b, v.ownBlock = some b → base ≤ b := by
  intro b hb
  rcases h.2 with ⟨rfl, _⟩ | ⟨g, cap, cur, rfl, hg, _⟩
  · simp [Value.ownBlock] at hb
  · simp [Value.ownBlock] at hb; omega
theorem ownsRow_ext {w w' : World} {base : Nat} {e : TypeId} {size n : Nat} {v : Value} {vs : List Value} (h : w.ownsRow base e size v n vs) (x : Ext w w') : w'.ownsRow base e size v n vs :=
  h.kept (x.by_ none) (by cases v.ownBlock <;> simp)

set_option maxHeartbeats 1000000 in
theorem kapartR_any (w0 w : World) (gr o n c : Nat) (P : Nat → Option Addr) (C : Nat → Nat) (X : Nat → List Int) (h : Sides gr o n P C (fun j => (X j).length) w) (h0 : Ext w0 w) (hn : 0 < n) (hn2 : n ≤ 10000)
    (hrow : ∀ j, j < 2 * n → Own w w0.heap.size (P j) (C j) (X j))
    (hap : ∀ i j, i < 2 * n → j < 2 * n → i ≠ j → ∀ a b, P i = some a → P j = some b → a.block ≠ b.block) (hX : ∀ j, j < 2 * n → (X j).length ≤ 1000000 ∧ Wf (X j)) :
    Calls Try.prog 13 #[.slice (some ⟨gr, o, none⟩) n c] w fun e w' => e = .returned (.bool true) ∧ Ext w0 w' := by
  have H := Lib.hid h
  have H0 := Lib.hid h0
  have HR := Lib.hid hrow
  have HAP := Lib.hid hap
  have HX := Lib.hid hX
  clear h h0 hrow hap hX
  obtain ⟨i0, hi, hz0, hz1, hz2⟩ := info_parts info_words
  have HI := Lib.hid hi
  have HI0 := Lib.hid hz0
  have HI1 := Lib.hid hz1
  have HI2 := Lib.hid hz2
  clear hi hz0 hz1 hz2
  go_enter Try.func13, Try.ntmps13
  go_wp2_with fail
  go_loopw [3, 4] (fun s t wr => ∃ (i : Nat) (v : Value) (vs : List Value), i ≤ n ∧ v = s ∧ t = .int .i64 i ∧ Hid (wr.ownsRow w.heap.size 22 1 v (2 * i) vs) ∧ Hid (∀ j, j < 2 * i → vs[j]? = some (.slice (P j) (X j).length (C j))) ∧ Hid (Ext w wr)) (fun _ t _ => n - (intOf t).toNat)
  case atStart => exact ⟨0, .slice none 0 0, [], by omega, rfl, rfl, World.ownsRow_nil w _ _ 1, fun j hj => by omega, Ext.refl w⟩
  case round =>
    obtain ⟨i, v, vs, hi, rfl, rfl, HV, HE, HW⟩ := hrel
    by_cases hin : i < n
    · have h1 := (H.out.ext HW.out).num i hin
      have h2 := (H.out.ext HW.out).den i hin
      have HVX := Lib.hid (fun wx (hx : Ext wr wx) => ownsRow_ext HV.out hx)
      have HGE := Lib.hid (ownsRow_ge HV.out)
      have HGR := Lib.hid (World.block_lt_of_cell? w _ (H.out.num i hin))
      have HWS := Lib.hid HW.out.size
      have hnn := Lib.hid (show ∀ r : Option Nat, (∀ b, r = some b → w.heap.size ≤ b) → some gr ≠ r from fun r hr e => by have h3 := hr gr e.symm; have h4 := HGR.out; simp only at h4; omega)
      go_wp2_with fail
      go_region_held_law (fun w' => w'.cell? ⟨gr, o + i * 3 + 1, none⟩ = some (.slice (P (2 * i)) (X (2 * i)).length (C (2 * i))) ∧ w'.cell? ⟨gr, o + i * 3 + 2, none⟩ = some (.slice (P (2 * i + 1)) (X (2 * i + 1)).length (C (2 * i + 1)))) (first | go_keep | exact ⟨k1, k2⟩)
        (first | (refine step_append_lies _ rfl _ _ 49 rfl w.heap.size 22 i0 (.slice none 0 0) 1 24 Try.underlying49 HI.out HI0.out HI1.out HI2.out rfl (by decide) v (2 * i) vs rfl (HVX.out _ ((Ext.refl wr).alloc _).drew) _ 2 _ [.slice (P (2 * i)) (X (2 * i)).length (C (2 * i)), .slice (P (2 * i + 1)) (X (2 * i + 1)).length (C (2 * i + 1))] rfl rfl (two_cells wr _ _ _) (by intro u hu; simp at hu; rcases hu with rfl | rfl <;> rfl) (by decide) (by unfold maxLen; omega) (by omega) (by have := HWS.out; simp; omega) _ rfl ?_; intro g cap w2 hown hgrow hat hlt; have k1 : w2.cell? ⟨gr, o + i * 3 + 1, none⟩ = some (.slice (P (2 * i)) (X (2 * i)).length (C (2 * i))) := cell_kept' hgrow (((Ext.refl wr).alloc _).drew.cell h1) (hnn.out _ HGE.out); have k2 : w2.cell? ⟨gr, o + i * 3 + 2, none⟩ = some (.slice (P (2 * i + 1)) (X (2 * i + 1)).length (C (2 * i + 1))) := cell_kept' hgrow (((Ext.refl wr).alloc _).drew.cell h2) (hnn.out _ HGE.out)))
      all_goals
        have HO2 := Lib.hid (show w2.ownsRow w.heap.size 22 1 (.slice (some ⟨g, 0, none⟩) (2 * i + 2) cap) (2 * (i + 1)) _ from hown)
        have HX2 := Lib.hid ((HW.out.alloc _).drew.grown hgrow HGE.out)
        have hvl := Lib.hid (show vs.length = 2 * i by have := HV.out.1; omega)
        have HE2 := Lib.hid (show ∀ j, j < 2 * (i + 1) → (vs ++ [.slice (P (2 * i)) (X (2 * i)).length (C (2 * i)), .slice (P (2 * i + 1)) (X (2 * i + 1)).length (C (2 * i + 1))] : List Value)[j]? = some (.slice (P j) (X j).length (C j)) from fun j hj => by
          have hl := hvl.out
          by_cases e : j < 2 * i
          · rw [List.getElem?_append_left (by omega)]; exact HE.out j e
          · rw [List.getElem?_append_right (by omega), hl]
            by_cases e1 : j = 2 * i
            · subst e1; simp
            · obtain rfl : j = 2 * i + 1 := by omega
              rw [show 2 * i + 1 - 2 * i = 1 by omega]; rfl)
        clear hown hgrow hat hlt k1 k2
        go_wp2_with fail
        go_roundw
        case rel => exact ⟨i + 1, .slice (some ⟨g, 0, none⟩) (2 * i + 2) cap, _, by omega, rfl, by go_num, HO2.out, HE2.out, HX2.out⟩
        case measure => simp [intOf]; omega
    · obtain rfl : i = n := by omega
      have hvc : ∃ g cap, v = .slice (some ⟨g, 0, none⟩) (2 * i) cap ∧ w.heap.size ≤ g ∧ g < wr.heap.size ∧ 2 * i ≤ cap ∧ cap ≤ 9223372036854775807 := by
        rcases HV.out.2 with ⟨_, h2⟩ | ⟨g, cap, cur, h1, h2, h3, h4, h5, _⟩
        · omega
        · exact ⟨g, cap, h1, h2, (Array.getElem?_eq_some_iff.1 h3).1, h4, by simp only [maxLen] at h5; omega⟩
      obtain ⟨g, cap, rfl, hg1, hg2, hg3, hg4⟩ := hvc
      have HRW : Hid (Rows w0.heap.size (2 * i) g P C X X wr) := ⟨fun j hj => (HV.out.cellAt j (by omega)).trans (HE.out j hj), fun j hj => (HR.out j hj).ext HW.out⟩
      have HNE : Hid (∀ j, j < 2 * i → ∀ a, P j = some a → a.block ≠ g) := fun j hj a ha e => by
        have h1 := HR.out j hj
        rw [ha] at h1
        have := h1.block.2
        omega
      have HCA := Lib.hid (kapartW_any w0 wr (2 * i) g cap P C X HRW.out (H0.out.trans HW.out) (by omega) hg3 hg4 hg2 HNE.out HAP.out HX.out)
      clear HV HE
      go_wp2_with fail
      refine HCA.out.mono ?_; rintro e w3 ⟨rfl, hx⟩
      have HX3 := Lib.hid hx
      clear hx
      go_wp2_with fail
      go_ret
      exact ⟨rfl, HX3.out⟩

end Go.Proofs.Ytnhgagfkepmanaa
