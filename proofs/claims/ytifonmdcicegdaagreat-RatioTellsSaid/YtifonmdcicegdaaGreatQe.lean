/- Texts of this claim, joined: K5 V1 V2 R4 R5 K6 K9. -/
import Derived.Deep.RegionHeldLaw
import Derived.Deep.AppendLies
import Derived.Deep.RegionHeld3
import Derived.Test.YtifonmdcicegdaaGreatQd
/- Long, ApartRatios. -/
namespace Go.Proofs.YtifonmdcicegdaaGreat
open Go Go.RowKit

/-- the words of fractions that lie side by side from gr, o on: the j-th of all of them -/
structure Sides (gr o n : Nat) (P : Nat → Option Addr) (C N : Nat → Nat) (w : World) : Prop where
  num : ∀ j, j < n → w.cell? ⟨gr, o + j * 3 + 1, none⟩ = some (.slice (P (2 * j)) (N (2 * j)) (C (2 * j)))
  den : ∀ j, j < n → w.cell? ⟨gr, o + j * 3 + 2, none⟩ = some (.slice (P (2 * j + 1)) (N (2 * j + 1)) (C (2 * j + 1)))
theorem Sides.ext {gr o n : Nat} {P : Nat → Option Addr} {C N : Nat → Nat} {w w' : World} (h : Sides gr o n P C N w) (e : Ext w w') : Sides gr o n P C N w' :=
  ⟨fun j hj => e.cell (h.num j hj), fun j hj => e.cell (h.den j hj)⟩

set_option maxHeartbeats 1000000 in
theorem klongR_any (w : World) (gr o n c : Nat) (P : Nat → Option Addr) (C N : Nat → Nat) (h : Sides gr o n P C N w) (hn : n ≤ 9223372036854775807) (hN : ∀ j, j < 2 * n → N j ≤ 9223372036854775807) (b : Bool) (hb : decide (∃ j, j < 2 * n ∧ isLong (N j) = true) = b) :
    Calls Tryz.prog 12 #[.slice (some ⟨gr, o, none⟩) n c] w fun e w' => e = .returned (.bool b) ∧ w' = w := by
  have H := Lib.hid h
  have HN := Lib.hid hN
  have HB := Lib.hid hb
  clear h hN hb
  go_enter Tryz.func12, Tryz.ntmps12
  go_wp2_with fail
  go_loop [3] (fun s => ∃ i : Nat, i ≤ n ∧ s = .int .i64 i ∧ Hid (∀ j, j < 2 * i → isLong (N j) = false)) (fun s => n - (intOf s).toNat)
  case atStart => exact ⟨0, by omega, rfl, fun j hj => by omega⟩
  case round =>
    obtain ⟨i, hi, rfl, HL⟩ := hrel
    by_cases hin : i < n
    · have h1 := H.out.num i hin
      have h2 := H.out.den i hin
      have HK1 := Lib.hid (klong_any (P (2 * i)) (N (2 * i)) (C (2 * i)) w (HN.out _ (by omega)) _ rfl)
      have HK2 := Lib.hid (klong_any (P (2 * i + 1)) (N (2 * i + 1)) (C (2 * i + 1)) w (HN.out _ (by omega)) _ rfl)
      obtain ⟨b1, hb1⟩ : ∃ b1, b1 = isLong (N (2 * i)) := ⟨_, rfl⟩
      obtain ⟨b2, hb2⟩ : ∃ b2, b2 = isLong (N (2 * i + 1)) := ⟨_, rfl⟩
      rw [← hb1] at HK1
      rw [← hb2] at HK2
      have HB1 := Lib.hid hb1
      have HB2 := Lib.hid hb2
      clear hb1 hb2
      cases b1 with
      | true =>
        have HF := Lib.hid (show b = true by rw [← HB.out]; exact decide_eq_true ⟨2 * i, by omega, HB1.out.symm⟩)
        go_wp2_with fail
        refine HK1.out.mono ?_; rintro e w1 ⟨rfl, rfl⟩
        go_wp2_with fail
        go_ret
        exact ⟨by rw [HF.out]; rfl, rfl⟩
      | false =>
        cases b2 with
        | true =>
          have HF := Lib.hid (show b = true by rw [← HB.out]; exact decide_eq_true ⟨2 * i + 1, by omega, HB2.out.symm⟩)
          go_wp2_with fail
          refine HK1.out.mono ?_; rintro e w1 ⟨rfl, rfl⟩
          go_wp2_with fail
          refine HK2.out.mono ?_; rintro e w1 ⟨rfl, rfl⟩
          go_wp2_with fail
          go_ret
          exact ⟨by rw [HF.out]; rfl, rfl⟩
        | false =>
          have HL2 := Lib.hid (show ∀ j, j < 2 * (i + 1) → isLong (N j) = false from fun j hj => by
            by_cases e1 : j = 2 * i
            · rw [e1]; exact HB1.out.symm
            · by_cases e2 : j = 2 * i + 1
              · rw [e2]; exact HB2.out.symm
              · exact HL.out j (by omega))
          go_wp2_with fail
          refine HK1.out.mono ?_; rintro e w1 ⟨rfl, rfl⟩
          go_wp2_with fail
          refine HK2.out.mono ?_; rintro e w1 ⟨rfl, rfl⟩
          go_wp2_with fail
          go_round
          case rel => exact ⟨i + 1, by omega, by go_num, HL2.out⟩
          case measure => simp [intOf]; omega
    · have HF := Lib.hid (show b = false by
        rw [← HB.out]
        refine decide_eq_false ?_
        rintro ⟨j, hj, he⟩
        rw [HL.out j (by omega)] at he
        cases he)
      go_wp2_with fail
      go_ret
      exact ⟨by rw [HF.out]; rfl, rfl⟩

theorem two_cells (w : World) (x y : Value) (t : TypeId) : ∀ j u, [x, y][j]? = some u → (w.alloc (.cells #[x, y] t)).cell? ((⟨w.heap.size, 0, none⟩ : Addr).add j) = some u := by
  intro j u hj
  match j, hj with
  | 0, hj => simp at hj; subst hj; simp [Addr.add]
  | 1, hj => simp at hj; subst hj; simp [Addr.add]
theorem ownsRow_ge {w : World} {base : Nat} {e : TypeId} {size n : Nat} {v : Value} {vs : List Value} (h : w.ownsRow base e size v n vs) : ∀ b, v.ownBlock = some b → base ≤ b := by
  intro b hb
  rcases h.2 with ⟨rfl, _⟩ | ⟨g, cap, cur, rfl, hg, _⟩
  · simp [Value.ownBlock] at hb
  · simp [Value.ownBlock] at hb; omega
theorem ownsRow_ext {w w' : World} {base : Nat} {e : TypeId} {size n : Nat} {v : Value} {vs : List Value} (h : w.ownsRow base e size v n vs) (x : Ext w w') : w'.ownsRow base e size v n vs :=
  h.kept (x.by_ none) (by cases v.ownBlock <;> simp)

set_option maxHeartbeats 1000000 in
theorem kapartR_any (w0 w : World) (gr o n c : Nat) (P : Nat → Option Addr) (C : Nat → Nat) (X : Nat → List Int) (h : Sides gr o n P C (fun j => (X j).length) w) (h0 : Ext w0 w) (hn : 0 < n) (hn2 : n ≤ 10000)
    (hrow : ∀ j, j < 2 * n → Own w w0.heap.size (P j) (C j) (X j))
    (hap : ∀ i j, i < 2 * n → j < 2 * n → i ≠ j → ∀ a b, P i = some a → P j = some b → a.block ≠ b.block) (hX : ∀ j, j < 2 * n → (X j).length ≤ 1000000 ∧ Wf (X j)) :
    Calls Tryz.prog 37 #[.slice (some ⟨gr, o, none⟩) n c] w fun e w' => e = .returned (.bool true) ∧ Ext w0 w' := by
  have H := Lib.hid h
  have H0 := Lib.hid h0
  have HR := Lib.hid hrow
  have HAP := Lib.hid hap
  have HX := Lib.hid hX
  clear h h0 hrow hap hX
  obtain ⟨i0, hi, hz0, hz1, hz2⟩ := info_parts info_words
  have HI := Lib.hid hi
  have HI0 := Lib.hid hz0
  have HI1 := Lib.hid hz1
  have HI2 := Lib.hid hz2
  clear hi hz0 hz1 hz2
  go_enter Tryz.func37, Tryz.ntmps37
  go_wp2_with fail
  go_loopw [3, 4] (fun s t wr => ∃ (i : Nat) (v : Value) (vs : List Value), i ≤ n ∧ v = s ∧ t = .int .i64 i ∧ Hid (wr.ownsRow w.heap.size 22 1 v (2 * i) vs) ∧ Hid (∀ j, j < 2 * i → vs[j]? = some (.slice (P j) (X j).length (C j))) ∧ Hid (Ext w wr)) (fun _ t _ => n - (intOf t).toNat)
  case atStart => exact ⟨0, .slice none 0 0, [], by omega, rfl, rfl, World.ownsRow_nil w _ _ 1, fun j hj => by omega, Ext.refl w⟩
  case round =>
    obtain ⟨i, v, vs, hi, rfl, rfl, HV, HE, HW⟩ := hrel
    by_cases hin : i < n
    · have h1 := (H.out.ext HW.out).num i hin
      have h2 := (H.out.ext HW.out).den i hin
      have HVX := Lib.hid (fun wx (hx : Ext wr wx) => ownsRow_ext HV.out hx)
      have HGE := Lib.hid (ownsRow_ge HV.out)
      have HGR := Lib.hid (World.block_lt_of_cell? w _ (H.out.num i hin))
      have HWS := Lib.hid HW.out.size
      have hnn := Lib.hid (show ∀ r : Option Nat, (∀ b, r = some b → w.heap.size ≤ b) → some gr ≠ r from fun r hr e => by have h3 := hr gr e.symm; have h4 := HGR.out; simp only at h4; omega)
      go_wp2_with fail
      go_region_held_law (fun w' => w'.cell? ⟨gr, o + i * 3 + 1, none⟩ = some (.slice (P (2 * i)) (X (2 * i)).length (C (2 * i))) ∧ w'.cell? ⟨gr, o + i * 3 + 2, none⟩ = some (.slice (P (2 * i + 1)) (X (2 * i + 1)).length (C (2 * i + 1)))) (first | go_keep | exact ⟨k1, k2⟩)
        (first | (refine step_append_lies _ rfl _ _ 148 rfl w.heap.size 22 i0 (.slice none 0 0) 1 24 Tryz.underlying148 HI.out HI0.out HI1.out HI2.out rfl (by decide) v (2 * i) vs rfl (HVX.out _ ((Ext.refl wr).alloc _).drew) _ 2 _ [.slice (P (2 * i)) (X (2 * i)).length (C (2 * i)), .slice (P (2 * i + 1)) (X (2 * i + 1)).length (C (2 * i + 1))] rfl rfl (two_cells wr _ _ _) (by intro u hu; simp at hu; rcases hu with rfl | rfl <;> rfl) (by decide) (by unfold maxLen; omega) (by omega) (by have := HWS.out; simp; omega) _ rfl ?_; intro g cap w2 hown hgrow hat hlt; have k1 : w2.cell? ⟨gr, o + i * 3 + 1, none⟩ = some (.slice (P (2 * i)) (X (2 * i)).length (C (2 * i))) := cell_kept' hgrow (((Ext.refl wr).alloc _).drew.cell h1) (hnn.out _ HGE.out); have k2 : w2.cell? ⟨gr, o + i * 3 + 2, none⟩ = some (.slice (P (2 * i + 1)) (X (2 * i + 1)).length (C (2 * i + 1))) := cell_kept' hgrow (((Ext.refl wr).alloc _).drew.cell h2) (hnn.out _ HGE.out)))
      all_goals
        have HO2 := Lib.hid (show w2.ownsRow w.heap.size 22 1 (.slice (some ⟨g, 0, none⟩) (2 * i + 2) cap) (2 * (i + 1)) _ from hown)
        have HX2 := Lib.hid ((HW.out.alloc _).drew.grown hgrow HGE.out)
        have hvl := Lib.hid (show vs.length = 2 * i by have := HV.out.1; omega)
        have HE2 := Lib.hid (show ∀ j, j < 2 * (i + 1) → (vs ++ [.slice (P (2 * i)) (X (2 * i)).length (C (2 * i)), .slice (P (2 * i + 1)) (X (2 * i + 1)).length (C (2 * i + 1))] : List Value)[j]? = some (.slice (P j) (X j).length (C j)) from fun j hj => by
          have hl := hvl.out
          by_cases e : j < 2 * i
          · rw [List.getElem?_append_left (by omega)]; exact HE.out j e
          · rw [List.getElem?_append_right (by omega), hl]
            by_cases e1 : j = 2 * i
            · subst e1; simp
            · obtain rfl : j = 2 * i + 1 := by omega
              rw [show 2 * i + 1 - 2 * i = 1 by omega]; rfl)
        clear hown hgrow hat hlt k1 k2
        go_wp2_with fail
        go_roundw
        case rel => exact ⟨i + 1, .slice (some ⟨g, 0, none⟩) (2 * i + 2) cap, _, by omega, rfl, by go_num, HO2.out, HE2.out, HX2.out⟩
        case measure => simp [intOf]; omega
    · obtain rfl : i = n := by omega
      have hvc : ∃ g cap, v = .slice (some ⟨g, 0, none⟩) (2 * i) cap ∧ w.heap.size ≤ g ∧ g < wr.heap.size ∧ 2 * i ≤ cap ∧ cap ≤ 9223372036854775807 := by
        rcases HV.out.2 with ⟨_, h2⟩ | ⟨g, cap, cur, h1, h2, h3, h4, h5, _⟩
        · omega
        · exact ⟨g, cap, h1, h2, (Array.getElem?_eq_some_iff.1 h3).1, h4, by simp only [maxLen] at h5; omega⟩
      obtain ⟨g, cap, rfl, hg1, hg2, hg3, hg4⟩ := hvc
      have HRW : Hid (Rows w0.heap.size (2 * i) g P C X X wr) := ⟨fun j hj => (HV.out.cellAt j (by omega)).trans (HE.out j hj), fun j hj => (HR.out j hj).ext HW.out⟩
      have HNE : Hid (∀ j, j < 2 * i → ∀ a, P j = some a → a.block ≠ g) := fun j hj a ha e => by
        have h1 := HR.out j hj
        rw [ha] at h1
        have := h1.block.2
        omega
      have HCA := Lib.hid (kapartW_any w0 wr (2 * i) g cap P C X HRW.out (H0.out.trans HW.out) (by omega) hg3 hg4 hg2 HNE.out HAP.out HX.out)
      clear HV HE
      go_wp2_with fail
      refine HCA.out.mono ?_; rintro e w3 ⟨rfl, hx⟩
      have HX3 := Lib.hid hx
      clear hx
      go_wp2_with fail
      go_ret
      exact ⟨rfl, HX3.out⟩

end Go.Proofs.YtifonmdcicegdaaGreat

/- Fractions side by side, variables that hold one. -/
namespace Go.Proofs.YtifonmdcicegdaaGreat
open Go Go.RowKit

/-- fractions side by side from gr, o on -/
structure Fs (gr o n : Nat) (P : Nat → Option Addr) (C : Nat → Nat) (L : Nat → Fr) (w : World) : Prop where
  neg : ∀ j, j < n → w.cell? ⟨gr, o + j * 3, none⟩ = some (.bool (L j).neg)
  num : ∀ j, j < n → w.cell? ⟨gr, o + j * 3 + 1, none⟩ = some (.slice (P (2 * j)) (L j).num.length (C (2 * j)))
  den : ∀ j, j < n → w.cell? ⟨gr, o + j * 3 + 2, none⟩ = some (.slice (P (2 * j + 1)) (L j).den.length (C (2 * j + 1)))
  rnum : ∀ j, j < n → Rd w (P (2 * j)) (C (2 * j)) (L j).num
  rden : ∀ j, j < n → Rd w (P (2 * j + 1)) (C (2 * j + 1)) (L j).den
theorem Fs.ext {gr o n : Nat} {P : Nat → Option Addr} {C : Nat → Nat} {L : Nat → Fr} {w w' : World} (h : Fs gr o n P C L w) (e : Ext w w') : Fs gr o n P C L w' :=
  ⟨fun j hj => e.cell (h.neg j hj), fun j hj => e.cell (h.num j hj), fun j hj => e.cell (h.den j hj), fun j hj => (h.rnum j hj).ext e, fun j hj => (h.rden j hj).ext e⟩

/-- .. behind whatever slice -/
def FsA (A : Option Addr) (n : Nat) (P : Nat → Option Addr) (C : Nat → Nat) (L : Nat → Fr) (w : World) : Prop := (∀ j, j < n → ∃ gr o, A = some ⟨gr, o, none⟩) ∧ ∀ gr o, A = some ⟨gr, o, none⟩ → Fs gr o n P C L w
theorem FsA.ext {A : Option Addr} {n : Nat} {P : Nat → Option Addr} {C : Nat → Nat} {L : Nat → Fr} {w w' : World} (h : FsA A n P C L w) (e : Ext w w') : FsA A n P C L w' := ⟨h.1, fun gr o ha => (h.2 gr o ha).ext e⟩
theorem Fs.any {gr o n : Nat} {P : Nat → Option Addr} {C : Nat → Nat} {L : Nat → Fr} {w : World} (h : Fs gr o n P C L w) : FsA (some ⟨gr, o, none⟩) n P C L w := ⟨fun _ _ => ⟨gr, o, rfl⟩, fun gr' o' e => by cases e; exact h⟩

theorem grown_setCell (w : World) (p : Addr) (u : Value) : w.grownBy (w.setCell p u) (some p.block) :=
  ⟨rfl, rfl, rfl, by simp [World.setCell], fun k hk hne => Below.heap_setCell _ _ _ _ (fun e => hne (by rw [e]))⟩
theorem cell_keep {w w' : World} {row : Option Nat} (h : w.grownBy w' row) {g j : Nat} {v : Value} (hc : w.cell? ⟨g, j, none⟩ = some v) (hne : some g ≠ row) : w'.cell? ⟨g, j, none⟩ = some v := h.cell hc hne
theorem own_set {w : World} {base c : Nat} {A : Option Addr} {xs : List Int} {p : Addr} {u : Value} (h : Own w base A c xs) (hp : ∀ a, A = some a → a.block ≠ p.block) : Own (w.setCell p u) base A c xs :=
  h.kept (grown_setCell w p u) (fun a ha e => hp a ha (Option.some.inj e))
/-- a variable that holds a fraction in the call's own memory -/
structure VarF (g base : Nat) (f : Fr) (A : Option Addr) (c : Nat) (B : Option Addr) (d : Nat) (w : World) : Prop where
  c0 : w.cell? ⟨g, 0, none⟩ = some (.bool f.neg)
  c1 : w.cell? ⟨g, 1, none⟩ = some (.slice A f.num.length c)
  c2 : w.cell? ⟨g, 2, none⟩ = some (.slice B f.den.length d)
  fr : ∀ o, w.frozen? ⟨g, o, none⟩ = false
  onum : Own w base A c f.num
  oden : Own w base B d f.den
  ap : ∀ a b, A = some a → B = some b → a.block ≠ b.block
  n1 : ∀ a, A = some a → a.block ≠ g
  n2 : ∀ a, B = some a → a.block ≠ g
theorem VarF.ext {g base : Nat} {f : Fr} {A B : Option Addr} {c d : Nat} {w w' : World} (h : VarF g base f A c B d w) (e : Ext w w') : VarF g base f A c B d w' :=
  ⟨e.cell h.c0, e.cell h.c1, e.cell h.c2, fun o => (Below.frozen (p := ⟨g, o, none⟩) e (World.block_lt_of_cell? w ⟨g, 0, none⟩ h.c0)).trans (h.fr o), h.onum.ext e, h.oden.ext e, h.ap, h.n1, h.n2⟩
/-- another fraction is laid into it -/
theorem VarF.store {g base : Nat} {f k : Fr} {A B C D : Option Addr} {c d a b : Nat} {w : World} (h : VarF g base f A c B d w) (o1 : Own w base C a k.num) (o2 : Own w base D b k.den) (ap : ∀ a b, C = some a → D = some b → a.block ≠ b.block) (n1 : ∀ a, C = some a → a.block ≠ g) (n2 : ∀ a, D = some a → a.block ≠ g) :
    VarF g base k C a D b (((w.setCell ⟨g, 0, none⟩ (.bool k.neg)).setCell ⟨g, 1, none⟩ (.slice C k.num.length a)).setCell ⟨g, 2, none⟩ (.slice D k.den.length b)) := by
  have k0 : (w.setCell ⟨g, 0, none⟩ (.bool k.neg)).cell? ⟨g, 0, none⟩ = some (.bool k.neg) := World.cell?_setCell_same _ _ _ h.c0
  have k1 : (w.setCell ⟨g, 0, none⟩ (.bool k.neg)).cell? ⟨g, 1, none⟩ = _ := (World.cell?_setCell_other _ _ _ _ (by simp)).trans h.c1
  have k2 : (w.setCell ⟨g, 0, none⟩ (.bool k.neg)).cell? ⟨g, 2, none⟩ = _ := (World.cell?_setCell_other _ _ _ _ (by simp)).trans h.c2
  have m0 : ((w.setCell ⟨g, 0, none⟩ (.bool k.neg)).setCell ⟨g, 1, none⟩ (.slice C k.num.length a)).cell? ⟨g, 0, none⟩ = _ := (World.cell?_setCell_other _ _ _ _ (by simp)).trans k0
  have m1 : ((w.setCell ⟨g, 0, none⟩ (.bool k.neg)).setCell ⟨g, 1, none⟩ (.slice C k.num.length a)).cell? ⟨g, 1, none⟩ = _ := World.cell?_setCell_same _ _ _ k1
  have m2 : ((w.setCell ⟨g, 0, none⟩ (.bool k.neg)).setCell ⟨g, 1, none⟩ (.slice C k.num.length a)).cell? ⟨g, 2, none⟩ = _ := (World.cell?_setCell_other _ _ _ _ (by simp)).trans k2
  refine ⟨(World.cell?_setCell_other _ _ _ _ (by simp)).trans m0, (World.cell?_setCell_other _ _ _ _ (by simp)).trans m1, World.cell?_setCell_same _ _ _ m2, fun o => ?_, ?_, ?_, ap, n1, n2⟩
  · have := h.fr o
    simp only [World.frozen?_setCell]
    exact this
  · exact own_set (own_set (own_set o1 n1) n1) n1
  · exact own_set (own_set (own_set o2 n2) n2) n2

theorem VarF.new {base : Nat} {k : Fr} {C D : Option Addr} {a b : Nat} {w : World} (o1 : Own w base C a k.num) (o2 : Own w base D b k.den) (ap : ∀ a b, C = some a → D = some b → a.block ≠ b.block) :
    VarF w.heap.size base k C a D b (w.alloc (.cells #[.bool k.neg, .slice C k.num.length a, .slice D k.den.length b] 24)) :=
  ⟨by simp [go_sem], by simp [go_sem], by simp [go_sem], fun o => by simp [go_sem], o1.ext ((Ext.refl w).alloc _), o2.ext ((Ext.refl w).alloc _), ap,
    fun a ha e => by rw [ha] at o1; have := o1.block.2; omega, fun a ha e => by rw [ha] at o2; have := o2.block.2; omega⟩
theorem VarF.zero (w : World) (base : Nat) : VarF w.heap.size base Fr.zero none 0 none 0 (w.alloc (.cells #[.bool false, .slice none 0 0, .slice none 0 0] 24)) :=
  VarF.new (k := Fr.zero) (Own.nil w base) (Own.nil w base) (fun _ _ h => by cases h)
theorem VarF.lower {g base base' : Nat} {f : Fr} {A B : Option Addr} {c d : Nat} {w : World} (h : VarF g base f A c B d w) (hb : base' ≤ base) : VarF g base' f A c B d w :=
  ⟨h.c0, h.c1, h.c2, h.fr, h.onum.lower hb, h.oden.lower hb, h.ap, h.n1, h.n2⟩
theorem VarF.lt {g base : Nat} {f : Fr} {A B : Option Addr} {c d : Nat} {w : World} (h : VarF g base f A c B d w) : g < w.heap.size := World.block_lt_of_cell? w ⟨g, 0, none⟩ h.c0

abbrev Six2 (w : World) (g h o : Nat) (a b c d e f : Value) : Prop := w.cell? ⟨g, 0, none⟩ = some a ∧ w.cell? ⟨g, 1, none⟩ = some b ∧ w.cell? ⟨g, 2, none⟩ = some c ∧ w.cell? ⟨h, o, none⟩ = some d ∧ w.cell? ⟨h, o + 1, none⟩ = some e ∧ w.cell? ⟨h, o + 2, none⟩ = some f
theorem six2_ext {w w' : World} {g h o : Nat} {a b c d e f : Value} (x : Ext w w') (H : Six2 w g h o a b c d e f) : Six2 w' g h o a b c d e f := ⟨x.cell H.1, x.cell H.2.1, x.cell H.2.2.1, x.cell H.2.2.2.1, x.cell H.2.2.2.2.1, x.cell H.2.2.2.2.2⟩
theorem six2_drew {w : World} {g h o : Nat} {a b c d e f : Value} (H : Six2 w g h o a b c d e f) : Six2 w.drew g h o a b c d e f := H
theorem six2_alloc {w : World} {g h o : Nat} {a b c d e f : Value} {ob : Obj} (H : Six2 w g h o a b c d e f) : Six2 (w.alloc ob) g h o a b c d e f := six2_ext ((Ext.refl w).alloc ob) H
theorem six2_set {w : World} {g h o : Nat} {a b c d e f : Value} {p : Addr} {u : Value} (H : Six2 w g h o a b c d e f) (h1 : p.block ≠ g) (h2 : p.block ≠ h) : Six2 (w.setCell p u) g h o a b c d e f :=
  have hg := grown_setCell w p u
  ⟨cell_keep hg H.1 (fun e => h1 (Option.some.inj e).symm), cell_keep hg H.2.1 (fun e => h1 (Option.some.inj e).symm), cell_keep hg H.2.2.1 (fun e => h1 (Option.some.inj e).symm), cell_keep hg H.2.2.2.1 (fun e => h2 (Option.some.inj e).symm), cell_keep hg H.2.2.2.2.1 (fun e => h2 (Option.some.inj e).symm), cell_keep hg H.2.2.2.2.2 (fun e => h2 (Option.some.inj e).symm)⟩

end Go.Proofs.YtifonmdcicegdaaGreat

/- Three cells; a fraction in new memory. -/
namespace Go.Proofs.YtifonmdcicegdaaGreat
open Go Go.RowKit

/-- a fraction that is in new memory -/
def NewP (w : World) (s : Bool) (xs ys : List Int) (e : Ending) (w' : World) : Prop :=
  ∃ A c B d, e = .returned (.agg #[.bool s, .slice A xs.length c, .slice B ys.length d]) ∧ Own w' w.heap.size A c xs ∧ Own w' w.heap.size B d ys ∧ (∀ a b, A = some a → B = some b → a.block ≠ b.block) ∧ Ext w w'
/-- a block that is the call's own: what it holds -/
structure Var (g : Nat) (vs : List Value) (w : World) : Prop where
  lt : g < w.heap.size
  at_ : ∀ j v, vs[j]? = some v → w.cell? ⟨g, j, none⟩ = some v
  fr : ∀ o, w.frozen? ⟨g, o, none⟩ = false
theorem Var.ext {g : Nat} {vs : List Value} {w w' : World} (h : Var g vs w) (e : Ext w w') : Var g vs w' :=
  ⟨Nat.lt_of_lt_of_le h.lt e.size, fun j v hj => e.cell (h.at_ j v hj), fun o => (Below.frozen (p := ⟨g, o, none⟩) e h.lt).trans (h.fr o)⟩
theorem Var.new (w : World) (vs : List Value) (t : TypeId) : Var w.heap.size vs (w.alloc (.cells vs.toArray t)) :=
  ⟨by simp, fun j v hj => by rw [World.cell?_alloc_at (hn := rfl)]; simpa using hj, fun o => by simp [go_sem]⟩
/-- words without a nought at the end, not too many -/
def TrimW (xs : List Int) : Prop := xs.length ≤ 8192 ∧ tl xs xs.length = xs.length
theorem trimW_wd (n : Nat) (h : (wd n).length ≤ 8192) : TrimW (wd n) := ⟨h, tl_wd n⟩
theorem trimW_ok {a : Fr} (wa : a.Wf) (h : fchk a = 0) : TrimW a.num ∧ TrimW a.den := by
  obtain ⟨q, rfl, lq⟩ := fchk_ok wa h
  have := not_lng lq
  exact ⟨trimW_wd _ (by omega), trimW_wd _ (by omega)⟩
abbrev Thr (w : World) (g : Nat) (a b c : Value) : Prop := w.cell? ⟨g, 0, none⟩ = some a ∧ w.cell? ⟨g, 1, none⟩ = some b ∧ w.cell? ⟨g, 2, none⟩ = some c
theorem thr_ext {w w' : World} {g : Nat} {a b c : Value} (x : Ext w w') (H : Thr w g a b c) : Thr w' g a b c := ⟨x.cell H.1, x.cell H.2.1, x.cell H.2.2⟩
theorem thr_drew {w : World} {g : Nat} {a b c : Value} (H : Thr w g a b c) : Thr w.drew g a b c := H
theorem thr_set {w : World} {g : Nat} {a b c : Value} {p : Addr} {u : Value} (H : Thr w g a b c) (h1 : p.block ≠ g) : Thr (w.setCell p u) g a b c :=
  have hg := grown_setCell w p u
  ⟨cell_keep hg H.1 (fun e => h1 (Option.some.inj e).symm), cell_keep hg H.2.1 (fun e => h1 (Option.some.inj e).symm), cell_keep hg H.2.2 (fun e => h1 (Option.some.inj e).symm)⟩

end Go.Proofs.YtifonmdcicegdaaGreat

/- ratio.Check. -/
namespace Go.Proofs.YtifonmdcicegdaaGreat
open Go Go.RowKit

theorem cmp_eq_iff {m n : Nat} : cmp m n = 0 ↔ m = n := by unfold cmp; split <;> (try split) <;> omega

theorem compare_one (A : Option Addr) (g c : Nat) (w : World) (h : Rd w A c (wd g)) (b : Nat) (hb : Rd w (some ⟨b, 0, none⟩) 1 [1]) :
    Calls Tryz.prog 146 #[.slice A (wd g).length c, .slice (some ⟨b, 0, none⟩) 1 1] w fun e w' => e = .returned (.int .i64 (cmp g 1)) ∧ Ext w w' := by
  have h1 := compare_any A (some ⟨b, 0, none⟩) g 1 c 1 w h (by rw [wd_one]; exact hb)
  rw [show (wd 1).length = 1 by rw [wd_one]; rfl] at h1
  exact h1

set_option maxHeartbeats 2000000 in
theorem rcheck_any (s : Bool) (A B : Option Addr) (xs ys : List Int) (c d : Nat) (w : World) (ha : Rd w A c xs) (hb : Rd w B d ys) (hx : Wf xs) (hy : Wf ys) :
    Calls Tryz.prog 29 #[.agg #[.bool s, .slice A xs.length c, .slice B ys.length d]] w fun e w' => e = .returned (.int .i64 (fchk ⟨s, xs, ys⟩)) ∧ Ext w w' := by
  have hl := ha.lim
  have hly := hb.lim
  have HX := Lib.hid ((Ext.refl w).alloc (.cells #[.bool s, .slice A xs.length c, .slice B ys.length d] 24))
  have HA := Lib.hid (ha.ext HX.out)
  have HB := Lib.hid (hb.ext HX.out)
  clear ha hb
  by_cases h1 : 2048 < xs.length
  · have HE := Lib.hid (show fchk ⟨s, xs, ys⟩ = 3 from if_pos h1)
    rw [HE.out]
    go_enter Tryz.func29, Tryz.ntmps29
    go_wp2_with fail
    refine (long_any _ _ _ _ (by omega)).mono ?_; rintro e w' ⟨rfl, rfl⟩
    go_wp2_with fail
    go_ret
    exact ⟨rfl, HX.out⟩
  by_cases h2 : 2048 < ys.length
  · have HE := Lib.hid (show fchk ⟨s, xs, ys⟩ = 3 by unfold fchk; rw [if_neg h1, if_pos h2])
    rw [HE.out]
    go_enter Tryz.func29, Tryz.ntmps29
    go_wp2_with fail
    refine (long_any _ _ _ _ (by omega)).mono ?_; rintro e w' ⟨rfl, rfl⟩
    go_wp2_with fail
    refine (long_any _ _ _ _ (by omega)).mono ?_; rintro e w' ⟨rfl, rfl⟩
    go_wp2_with fail
    go_ret
    exact ⟨rfl, HX.out⟩
  by_cases h3 : chk xs ≠ 0
  · have HE := Lib.hid (show fchk ⟨s, xs, ys⟩ = 11 by unfold fchk; rw [if_neg h1, if_neg h2, if_pos h3])
    have hb1 : (chk xs != 0) = true := bne_iff_ne.2 h3
    rw [HE.out]
    clear h3
    go_enter Tryz.func29, Tryz.ntmps29
    go_wp2_with fail
    refine (long_any _ _ _ _ (by omega)).mono ?_; rintro e w' ⟨rfl, rfl⟩
    go_wp2_with fail
    refine (long_any _ _ _ _ (by omega)).mono ?_; rintro e w' ⟨rfl, rfl⟩
    go_wp2_with fail
    refine (check_any _ _ _ _ HA.out).mono ?_; rintro e w' ⟨rfl, rfl⟩
    go_wp2_with fail
    go_ret
    exact ⟨rfl, HX.out⟩
  have hb1 : (chk xs != 0) = false := bne_eq_false_iff_eq.2 (by simpa using h3)
  by_cases h4 : chk ys ≠ 0
  · have HE := Lib.hid (show fchk ⟨s, xs, ys⟩ = 11 by unfold fchk; rw [if_neg h1, if_neg h2, if_neg h3, if_pos h4])
    have hb2 : (chk ys != 0) = true := bne_iff_ne.2 h4
    rw [HE.out]
    clear h3 h4
    go_enter Tryz.func29, Tryz.ntmps29
    go_wp2_with fail
    refine (long_any _ _ _ _ (by omega)).mono ?_; rintro e w' ⟨rfl, rfl⟩
    go_wp2_with fail
    refine (long_any _ _ _ _ (by omega)).mono ?_; rintro e w' ⟨rfl, rfl⟩
    go_wp2_with fail
    refine (check_any _ _ _ _ HA.out).mono ?_; rintro e w' ⟨rfl, rfl⟩
    go_wp2_with fail
    refine (check_any _ _ _ _ HB.out).mono ?_; rintro e w' ⟨rfl, rfl⟩
    go_wp2_with fail
    go_ret
    exact ⟨rfl, HX.out⟩
  have hb2 : (chk ys != 0) = false := bne_eq_false_iff_eq.2 (by simpa using h4)
  by_cases h5 : ys.length = 0
  · have HE := Lib.hid (show fchk ⟨s, xs, ys⟩ = 11 by unfold fchk; rw [if_neg h1, if_neg h2, if_neg h3, if_neg h4, if_pos h5])
    have hb3 : ((ys.length : Int) == 0) = true := beq_iff_eq.2 (by omega)
    rw [HE.out]
    clear h3 h4 h5
    go_enter Tryz.func29, Tryz.ntmps29
    go_wp2_with fail
    refine (long_any _ _ _ _ (by omega)).mono ?_; rintro e w' ⟨rfl, rfl⟩
    go_wp2_with fail
    refine (long_any _ _ _ _ (by omega)).mono ?_; rintro e w' ⟨rfl, rfl⟩
    go_wp2_with fail
    refine (check_any _ _ _ _ HA.out).mono ?_; rintro e w' ⟨rfl, rfl⟩
    go_wp2_with fail
    refine (check_any _ _ _ _ HB.out).mono ?_; rintro e w' ⟨rfl, rfl⟩
    go_wp2_with fail
    go_ret
    exact ⟨rfl, HX.out⟩
  have hb3 : ((ys.length : Int) == 0) = false := beq_eq_false_iff_ne.2 (by omega)
  by_cases h6 : xs.length = 0 ∧ s = true
  · have HE := Lib.hid (show fchk ⟨s, xs, ys⟩ = 11 by unfold fchk; rw [if_neg h1, if_neg h2, if_neg h3, if_neg h4, if_neg h5, if_pos h6])
    have hb4 : ((xs.length : Int) == 0) = true := beq_iff_eq.2 (by omega)
    obtain rfl : s = true := h6.2
    rw [HE.out]
    clear h3 h4 h5 h6
    go_enter Tryz.func29, Tryz.ntmps29
    go_wp2_with fail
    refine (long_any _ _ _ _ (by omega)).mono ?_; rintro e w' ⟨rfl, rfl⟩
    go_wp2_with fail
    refine (long_any _ _ _ _ (by omega)).mono ?_; rintro e w' ⟨rfl, rfl⟩
    go_wp2_with fail
    refine (check_any _ _ _ _ HA.out).mono ?_; rintro e w' ⟨rfl, rfl⟩
    go_wp2_with fail
    refine (check_any _ _ _ _ HB.out).mono ?_; rintro e w' ⟨rfl, rfl⟩
    go_wp2_with fail
    go_ret
    exact ⟨rfl, HX.out⟩
  obtain ⟨ex, lx⟩ := chk_ok hx (by simpa using h3)
  obtain ⟨ey, ly⟩ := chk_ok hy (by simpa using h4)
  obtain ⟨m, hm⟩ : ∃ m, m = (val xs).toNat := ⟨_, rfl⟩
  obtain ⟨n, hn⟩ : ∃ n, n = (val ys).toNat := ⟨_, rfl⟩
  rw [← hm] at ex
  rw [← hn] at ey
  have HE : (Nat.gcd m n = 1 → fchk ⟨s, xs, ys⟩ = 0) ∧ (Nat.gcd m n ≠ 1 → fchk ⟨s, xs, ys⟩ = 11) := by
    unfold fchk
    rw [if_neg h1, if_neg h2, if_neg h3, if_neg h4, if_neg h5, if_neg h6, hm, hn]
    exact ⟨fun e => if_neg (fun h => h e), fun e => if_pos e⟩
  have hb4 : ((xs.length : Int) == 0) = false ∨ (((xs.length : Int) == 0) = true ∧ s = false) := by
    by_cases h : xs.length = 0
    · refine .inr ⟨beq_iff_eq.2 (by omega), ?_⟩
      cases s with
      | false => rfl
      | true => exact absurd ⟨h, rfl⟩ h6
    · exact .inl (beq_eq_false_iff_ne.2 (by omega))
  have HGC := Lib.hid (show ∀ wx, Rd wx A c xs → Rd wx B d ys → Calls Tryz.prog 155 #[.slice A xs.length c, .slice B ys.length d] wx (One wx (Nat.gcd m n)) from fun wx a b => by
    have := gcd_any A B m n c d wx (ex ▸ a) (ey ▸ b) (by rw [← ex]; omega) (by rw [← ey]; omega)
    rw [← ex, ← ey] at this
    exact this)
  obtain ⟨g, hg⟩ : ∃ g, g = Nat.gcd m n := ⟨_, rfl⟩
  rw [← hg] at HE HGC
  clear h3 h4 h5 h6 hm hn ex ey hg hx hy
  have HCM : Hid (cmp g 1 = 0 ↔ g = 1) := cmp_eq_iff
  by_cases hg1 : g = 1
  · have hcc : (cmp g 1 != 0) = false := bne_eq_false_iff_eq.2 (HCM.out.2 hg1)
    have HF := Lib.hid (show fchk ⟨s, xs, ys⟩ = 0 from HE.1 hg1)
    rw [HF.out]
    clear HE hg1
    rcases hb4 with hb4 | ⟨hb4, rfl⟩
    all_goals
      go_enter Tryz.func29, Tryz.ntmps29
      go_wp2_with fail
      refine (long_any _ _ _ _ (by omega)).mono ?_; rintro e w' ⟨rfl, rfl⟩
      go_wp2_with fail
      refine (long_any _ _ _ _ (by omega)).mono ?_; rintro e w' ⟨rfl, rfl⟩
      go_wp2_with fail
      refine (check_any _ _ _ _ HA.out).mono ?_; rintro e w' ⟨rfl, rfl⟩
      go_wp2_with fail
      refine (check_any _ _ _ _ HB.out).mono ?_; rintro e w' ⟨rfl, rfl⟩
      go_wp2_with fail
      refine (HGC.out _ HA.out HB.out).mono ?_; rintro e w1 ⟨A1, c1, rfl, k1, hx1⟩
      have H1 := Lib.hid k1
      have HX1 := Lib.hid (HX.out.trans hx1)
      clear k1 hx1
      go_wp2_with fail
      refine (compare_one _ _ _ _ (H1.out.rd.ext ((Ext.refl _).alloc _)) _ (Own.lit w1 _ [1] rfl (by decide)).rd).mono ?_; rintro e w2 ⟨rfl, hx2⟩
      have HX2 := Lib.hid ((HX1.out.alloc _).trans hx2)
      clear hx2
      go_wp2_with fail
      go_ret
      exact ⟨rfl, HX2.out⟩
  · have hcc : (cmp g 1 != 0) = true := bne_iff_ne.2 (fun e => hg1 (HCM.out.1 e))
    have HF := Lib.hid (show fchk ⟨s, xs, ys⟩ = 11 from HE.2 hg1)
    rw [HF.out]
    clear HE hg1
    rcases hb4 with hb4 | ⟨hb4, rfl⟩
    all_goals
      go_enter Tryz.func29, Tryz.ntmps29
      go_wp2_with fail
      refine (long_any _ _ _ _ (by omega)).mono ?_; rintro e w' ⟨rfl, rfl⟩
      go_wp2_with fail
      refine (long_any _ _ _ _ (by omega)).mono ?_; rintro e w' ⟨rfl, rfl⟩
      go_wp2_with fail
      refine (check_any _ _ _ _ HA.out).mono ?_; rintro e w' ⟨rfl, rfl⟩
      go_wp2_with fail
      refine (check_any _ _ _ _ HB.out).mono ?_; rintro e w' ⟨rfl, rfl⟩
      go_wp2_with fail
      refine (HGC.out _ HA.out HB.out).mono ?_; rintro e w1 ⟨A1, c1, rfl, k1, hx1⟩
      have H1 := Lib.hid k1
      have HX1 := Lib.hid (HX.out.trans hx1)
      clear k1 hx1
      go_wp2_with fail
      refine (compare_one _ _ _ _ (H1.out.rd.ext ((Ext.refl _).alloc _)) _ (Own.lit w1 _ [1] rfl (by decide)).rd).mono ?_; rintro e w2 ⟨rfl, hx2⟩
      have HX2 := Lib.hid ((HX1.out.alloc _).trans hx2)
      clear hx2
      go_wp2_with fail
      go_ret
      exact ⟨rfl, HX2.out⟩

end Go.Proofs.YtifonmdcicegdaaGreat

/- ratio.plus. -/
namespace Go.Proofs.YtifonmdcicegdaaGreat
open Go Go.RowKit

abbrev Six (w : World) (h : Nat) (a b c d e f : Value) : Prop := w.cell? ⟨h, 0, none⟩ = some a ∧ w.cell? ⟨h, 1, none⟩ = some b ∧ w.cell? ⟨h, 2, none⟩ = some c ∧ w.cell? ⟨h + 1, 0, none⟩ = some d ∧ w.cell? ⟨h + 1, 1, none⟩ = some e ∧ w.cell? ⟨h + 1, 2, none⟩ = some f
theorem six_ext {w w' : World} {h : Nat} {a b c d e f : Value} (x : Ext w w') (H : Six w h a b c d e f) : Six w' h a b c d e f := ⟨x.cell H.1, x.cell H.2.1, x.cell H.2.2.1, x.cell H.2.2.2.1, x.cell H.2.2.2.2.1, x.cell H.2.2.2.2.2⟩
theorem six_drew {w : World} {h : Nat} {a b c d e f : Value} (H : Six w h a b c d e f) : Six w.drew h a b c d e f := H

/-- a sum as the program makes it: the size and the sign -/
theorem plus_cases (p q : Rat) : (decide (p.num < 0) = decide (q.num < 0) ∧ mkRat (sg (decide (p.num < 0)) (p.num.natAbs * q.den + q.num.natAbs * p.den)) (p.den * q.den) = p + q)
    ∨ (decide (p.num < 0) ≠ decide (q.num < 0) ∧ p.num.natAbs * q.den < q.num.natAbs * p.den ∧ mkRat (sg (decide (q.num < 0)) (q.num.natAbs * p.den - p.num.natAbs * q.den)) (p.den * q.den) = p + q)
    ∨ (decide (p.num < 0) ≠ decide (q.num < 0) ∧ q.num.natAbs * p.den ≤ p.num.natAbs * q.den ∧ mkRat (sg (decide (p.num < 0)) (p.num.natAbs * q.den - q.num.natAbs * p.den)) (p.den * q.den) = p + q) := by
  by_cases h : decide (p.num < 0) = decide (q.num < 0)
  · exact .inl ⟨h, add_same p q h⟩
  · rcases Nat.lt_or_ge (p.num.natAbs * q.den) (q.num.natAbs * p.den) with hl | hl
    · exact .inr (.inl ⟨h, hl, add_less p q h hl⟩)
    · exact .inr (.inr ⟨h, hl, add_more p q h hl⟩)

set_option maxRecDepth 4000 in
set_option maxHeartbeats 2000000 in
theorem plus_gen (s t : Bool) (A B C D : Option Addr) (a b a' b' : Nat) (c1 c2 c3 c4 : Nat) (w : World) (r : Rat) (ha : Rd w A c1 (wd a)) (hb : Rd w B c2 (wd b)) (hc : Rd w C c3 (wd a')) (hd : Rd w D c4 (wd b')) (hb0 : b ≠ 0) (hb0' : b' ≠ 0)
    (la : (wd a).length ≤ 2048) (lb : (wd b).length ≤ 2048) (la' : (wd a').length ≤ 2048) (lb' : (wd b').length ≤ 2048)
    (hr : (s = t ∧ mkRat (sg s (a * b' + a' * b)) (b * b') = r) ∨ (s ≠ t ∧ a * b' < a' * b ∧ mkRat (sg t (a' * b - a * b')) (b * b') = r) ∨ (s ≠ t ∧ a' * b ≤ a * b' ∧ mkRat (sg s (a * b' - a' * b)) (b * b') = r)) :
    Calls Tryz.prog 136 #[.agg #[.bool s, .slice A (wd a).length c1, .slice B (wd b).length c2], .agg #[.bool t, .slice C (wd a').length c3, .slice D (wd b').length c4]] w (RatP w (tell r)) := by
  have lX := wd_len_mul a b'
  have lY := wd_len_mul a' b
  have lZ := wd_len_mul b b'
  have hZ0 : b * b' ≠ 0 := Nat.mul_ne_zero hb0 hb0'
  obtain ⟨X, hX⟩ : ∃ X, X = a * b' := ⟨_, rfl⟩
  obtain ⟨Y, hY⟩ : ∃ Y, Y = a' * b := ⟨_, rfl⟩
  obtain ⟨Z, hZ⟩ : ∃ Z, Z = b * b' := ⟨_, rfl⟩
  have HT1 := Lib.hid (fun wx x1 x2 => times_any A D a b' c1 c4 wx x1 x2 (by omega))
  have HT2 := Lib.hid (fun wx x1 x2 => times_any C B a' b c3 c2 wx x1 x2 (by omega))
  have HT3 := Lib.hid (fun wx x1 x2 => times_any B D b b' c2 c4 wx x1 x2 (by omega))
  rw [← hX] at lX HT1
  rw [← hY] at lY HT2
  rw [← hZ] at lZ hZ0 HT3
  rw [← hX, ← hY, ← hZ] at hr
  have HR := Lib.hid hr
  have HA := Lib.hid ha
  have HB := Lib.hid hb
  have HC := Lib.hid hc
  have HD := Lib.hid hd
  clear hX hY hZ hr ha hb hc hd hb0 hb0'
  obtain ⟨tt, htt⟩ : ∃ tt, tt = tell r := ⟨_, rfl⟩
  have HT := Lib.hid htt.symm
  clear htt
  go_enter Tryz.func136, Tryz.ntmps136
  go_wp2_with fail
  have HX := Lib.hid ((((Ext.refl w).alloc (.cells #[.bool s, .slice A (wd a).length c1, .slice B (wd b).length c2] 24)).alloc (.cells #[.bool t, .slice C (wd a').length c3, .slice D (wd b').length c4] 24)).alloc (.cells #[.bool false, .slice none 0 0, .slice none 0 0] 24))
  obtain ⟨W, hW⟩ : ∃ W, W = (((w.alloc (.cells #[.bool s, .slice A (wd a).length c1, .slice B (wd b).length c2] 24)).alloc (.cells #[.bool t, .slice C (wd a').length c3, .slice D (wd b').length c4] 24)).alloc (.cells #[.bool false, .slice none 0 0, .slice none 0 0] 24)) := ⟨_, rfl⟩
  have F0 : Six W w.heap.size (.bool s) (.slice A (wd a).length c1) (.slice B (wd b).length c2) (.bool t) (.slice C (wd a').length c3) (.slice D (wd b').length c4) := by rw [hW]; refine ⟨?_, ?_, ?_, ?_, ?_, ?_⟩ <;> simp [go_sem]
  have R0 : W.cell? ⟨w.heap.size + 2, 0, none⟩ = some (.bool false) ∧ W.cell? ⟨w.heap.size + 2, 1, none⟩ = some (.slice none 0 0) ∧ W.cell? ⟨w.heap.size + 2, 2, none⟩ = some (.slice none 0 0) := by rw [hW]; refine ⟨?_, ?_, ?_⟩ <;> simp [go_sem]
  have Z0 : W.heap.size = w.heap.size + 3 := by rw [hW]; simp
  have RF : ∀ o, W.frozen? ⟨w.heap.size + 2, o, none⟩ = false := by intro o; rw [hW]; simp [go_sem]
  rw [← hW] at HX
  have HR0 := Lib.hid R0
  have HRF := Lib.hid RF
  have HZ0 := Lib.hid Z0
  try rw [← hW]
  clear hW R0 RF Z0
  go_region_held3 (fun w' => w'.cell? ⟨w.heap.size, 0, none⟩ = some (.bool s) ∧ w'.cell? ⟨w.heap.size, 1, none⟩ = some (.slice A (wd a).length c1) ∧ w'.cell? ⟨w.heap.size, 2, none⟩ = some (.slice B (wd b).length c2) ∧ w'.cell? ⟨w.heap.size + 1, 0, none⟩ = some (.bool t) ∧ w'.cell? ⟨w.heap.size + 1, 1, none⟩ = some (.slice C (wd a').length c3) ∧ w'.cell? ⟨w.heap.size + 1, 2, none⟩ = some (.slice D (wd b').length c4)) (repeat (first | (with_reducible exact F0) | (with_reducible exact F1) | (with_reducible exact F2) | (with_reducible exact F3) | (with_reducible refine six_drew ?_)))
    (first
      | (go_at_call 142; with_reducible refine (HT1.out _ (HA.out.ext HX.out.drew) (HD.out.ext HX.out.drew)).mono ?_; rintro e w1 ⟨A1, d1, rfl, k1, hx1⟩; have K1 := Lib.hid k1; have HX1 := Lib.hid hx1; have F1 := six_ext hx1 (six_drew F0); clear k1 hx1)
      | (go_at_call 142; with_reducible refine (HT2.out _ (HC.out.ext (HX.out.drew.trans HX1.out)) (HB.out.ext (HX.out.drew.trans HX1.out))).mono ?_; rintro e w2 ⟨A2, d2, rfl, k2, hx2⟩; have K2 := Lib.hid k2; have HX2 := Lib.hid hx2; have F2 := six_ext hx2 F1; clear k2 hx2)
      | (go_at_call 142; with_reducible refine (HT3.out _ (HB.out.ext ((HX.out.drew.trans HX1.out).trans HX2.out)) (HD.out.ext ((HX.out.drew.trans HX1.out).trans HX2.out))).mono ?_; rintro e w3 ⟨A3, d3, rfl, k3, hx3⟩; have K3 := Lib.hid k3; have HX3 := Lib.hid hx3; have F3 := six_ext hx3 F2; clear k3 hx3))
  all_goals
    have K1x := Lib.hid (K1.out.ext (HX2.out.trans HX3.out))
    have K2x := Lib.hid (K2.out.ext HX3.out)
    have HXa := Lib.hid (show Ext W w3 from (((Ext.refl W).drew.trans HX1.out).trans HX2.out).trans HX3.out)
    clear F0 F1 F2
    obtain ⟨u0, u1, u2, v0, v1, v2⟩ := id F3
    rcases HR.out with ⟨rfl, hr⟩ | ⟨hne, hlt, hr⟩ | ⟨hne, hle, hr⟩
    · have hst : (s == s) = true := beq_self_eq_true s
      go_wp2_with fail
      refine (add_any A1 A2 X Y d1 d2 _ K1x.out.rd K2x.out.rd (by omega) (by omega)).mono ?_
      rintro e w4 ⟨A4, d4, rfl, k4, hx4⟩
      have K4 := Lib.hid k4
      have HX4 := Lib.hid (HXa.out.trans hx4)
      obtain ⟨u0, u1, u2, v0, v1, v2⟩ := six_ext hx4 F3
      have KZ := Lib.hid (K3.out.ext hx4)
      clear k4 hx4 F3
      go_wp2_with fail
      refine (lowest_any s A4 A3 (X + Y) Z d4 d3 _ K4.out.rd KZ.out.rd hZ0 (by have := wd_len_add X Y; omega) (by omega)).mono ?_
      rw [hr, HT.out]
      rintro e w5 ⟨A5, d5, B5, e5, rfl, k5, k6, k7, hx5⟩
      have K5 := Lib.hid (k5.lower (show w.heap.size + 3 ≤ w4.heap.size by have := HX4.out.size; have := HZ0.out; omega))
      have K6 := Lib.hid (k6.lower (show w.heap.size + 3 ≤ w4.heap.size by have := HX4.out.size; have := HZ0.out; omega))
      have K7 := Lib.hid k7
      have HX5 := Lib.hid (HX4.out.trans hx5)
      have HXw := Lib.hid (HX.out.trans HX5.out)
      have r0 := HX5.out.cell HR0.out.1
      have r1 := HX5.out.cell HR0.out.2.1
      have r2 := HX5.out.cell HR0.out.2.2
      have f0 := (HX5.out.frozen HR0.out.1).trans (HRF.out 0)
      have f1 := (HX5.out.frozen HR0.out.2.1).trans (HRF.out 1)
      have f2 := (HX5.out.frozen HR0.out.2.2).trans (HRF.out 2)
      clear k5 k6 k7 hx5 u0 u1 u2 v0 v1 v2
      go_wp2_with fail
      exact bodyPost_ret (v := .tuple #[.agg #[.bool tt.1.neg, .slice A5 tt.1.num.length d5, .slice B5 tt.1.den.length e5], .int .i64 tt.2]) (by simp [results, Tryz.results136, go_sem, r0, r1, r2]) rfl (RatP.mk HT.out rfl (by refine Own.lower ?_ (show w.heap.size ≤ w.heap.size + 3 by omega); repeat (first | (with_reducible exact K5.out) | refine Own.setBelow ?_ (by simp; try omega) _)) (by refine Own.lower ?_ (show w.heap.size ≤ w.heap.size + 3 by omega); repeat (first | (with_reducible exact K6.out) | refine Own.setBelow ?_ (by simp; try omega) _)) K7.out (by repeat (first | (with_reducible exact HXw.out) | refine Ext.setCell ?_ (by simp; try omega) _)))
    · have hst : (s == t) = false := beq_eq_false_iff_ne.2 hne
      have hc : cmp X Y < 0 := cmp_lt_iff.2 hlt
      go_wp2_with fail
      refine (compare_any A1 A2 X Y _ _ _ (K1x.out.rd) (K2x.out.rd)).mono ?_; rintro e wc ⟨rfl, hxc⟩
      have K1x := Lib.hid (K1x.out.ext hxc)
      have K2x := Lib.hid (K2x.out.ext hxc)
      have K3 := Lib.hid (K3.out.ext hxc)
      have HXa := Lib.hid (HXa.out.trans hxc)
      have F3 := six_ext hxc F3
      clear hxc
      go_wp2_with fail
      refine (sub_any A2 A1 Y X d2 d1 _ K2x.out.rd K1x.out.rd (by omega) (by omega)).mono ?_
      rintro e w4 ⟨A4, d4, rfl, k4, hx4⟩
      have K4 := Lib.hid k4
      have HX4 := Lib.hid (HXa.out.trans hx4)
      obtain ⟨u0, u1, u2, v0, v1, v2⟩ := six_ext hx4 F3
      have KZ := Lib.hid (K3.out.ext hx4)
      clear k4 hx4 F3
      go_wp2_with fail
      refine (lowest_any t A4 A3 (Y - X) Z d4 d3 _ K4.out.rd KZ.out.rd hZ0 (by have := wd_len_mono (Nat.sub_le Y X); omega) (by omega)).mono ?_
      rw [hr, HT.out]
      rintro e w5 ⟨A5, d5, B5, e5, rfl, k5, k6, k7, hx5⟩
      have K5 := Lib.hid (k5.lower (show w.heap.size + 3 ≤ w4.heap.size by have := HX4.out.size; have := HZ0.out; omega))
      have K6 := Lib.hid (k6.lower (show w.heap.size + 3 ≤ w4.heap.size by have := HX4.out.size; have := HZ0.out; omega))
      have K7 := Lib.hid k7
      have HX5 := Lib.hid (HX4.out.trans hx5)
      have HXw := Lib.hid (HX.out.trans HX5.out)
      have r0 := HX5.out.cell HR0.out.1
      have r1 := HX5.out.cell HR0.out.2.1
      have r2 := HX5.out.cell HR0.out.2.2
      have f0 := (HX5.out.frozen HR0.out.1).trans (HRF.out 0)
      have f1 := (HX5.out.frozen HR0.out.2.1).trans (HRF.out 1)
      have f2 := (HX5.out.frozen HR0.out.2.2).trans (HRF.out 2)
      clear k5 k6 k7 hx5 u0 u1 u2 v0 v1 v2
      go_wp2_with fail
      exact bodyPost_ret (v := .tuple #[.agg #[.bool tt.1.neg, .slice A5 tt.1.num.length d5, .slice B5 tt.1.den.length e5], .int .i64 tt.2]) (by simp [results, Tryz.results136, go_sem, r0, r1, r2]) rfl (RatP.mk HT.out rfl (by refine Own.lower ?_ (show w.heap.size ≤ w.heap.size + 3 by omega); repeat (first | (with_reducible exact K5.out) | refine Own.setBelow ?_ (by simp; try omega) _)) (by refine Own.lower ?_ (show w.heap.size ≤ w.heap.size + 3 by omega); repeat (first | (with_reducible exact K6.out) | refine Own.setBelow ?_ (by simp; try omega) _)) K7.out (by repeat (first | (with_reducible exact HXw.out) | refine Ext.setCell ?_ (by simp; try omega) _)))
    · have hst : (s == t) = false := beq_eq_false_iff_ne.2 hne
      have hc : ¬ cmp X Y < 0 := fun h => by have := cmp_lt_iff.1 h; omega
      go_wp2_with fail
      refine (compare_any A1 A2 X Y _ _ _ (K1x.out.rd) (K2x.out.rd)).mono ?_; rintro e wc ⟨rfl, hxc⟩
      have K1x := Lib.hid (K1x.out.ext hxc)
      have K2x := Lib.hid (K2x.out.ext hxc)
      have K3 := Lib.hid (K3.out.ext hxc)
      have HXa := Lib.hid (HXa.out.trans hxc)
      have F3 := six_ext hxc F3
      clear hxc
      go_wp2_with fail
      refine (sub_any A1 A2 X Y d1 d2 _ K1x.out.rd K2x.out.rd (by omega) (by omega)).mono ?_
      rintro e w4 ⟨A4, d4, rfl, k4, hx4⟩
      have K4 := Lib.hid k4
      have HX4 := Lib.hid (HXa.out.trans hx4)
      obtain ⟨u0, u1, u2, v0, v1, v2⟩ := six_ext hx4 F3
      have KZ := Lib.hid (K3.out.ext hx4)
      clear k4 hx4 F3
      go_wp2_with fail
      refine (lowest_any s A4 A3 (X - Y) Z d4 d3 _ K4.out.rd KZ.out.rd hZ0 (by have := wd_len_mono (Nat.sub_le X Y); omega) (by omega)).mono ?_
      rw [hr, HT.out]
      rintro e w5 ⟨A5, d5, B5, e5, rfl, k5, k6, k7, hx5⟩
      have K5 := Lib.hid (k5.lower (show w.heap.size + 3 ≤ w4.heap.size by have := HX4.out.size; have := HZ0.out; omega))
      have K6 := Lib.hid (k6.lower (show w.heap.size + 3 ≤ w4.heap.size by have := HX4.out.size; have := HZ0.out; omega))
      have K7 := Lib.hid k7
      have HX5 := Lib.hid (HX4.out.trans hx5)
      have HXw := Lib.hid (HX.out.trans HX5.out)
      have r0 := HX5.out.cell HR0.out.1
      have r1 := HX5.out.cell HR0.out.2.1
      have r2 := HX5.out.cell HR0.out.2.2
      have f0 := (HX5.out.frozen HR0.out.1).trans (HRF.out 0)
      have f1 := (HX5.out.frozen HR0.out.2.1).trans (HRF.out 1)
      have f2 := (HX5.out.frozen HR0.out.2.2).trans (HRF.out 2)
      clear k5 k6 k7 hx5 u0 u1 u2 v0 v1 v2
      go_wp2_with fail
      exact bodyPost_ret (v := .tuple #[.agg #[.bool tt.1.neg, .slice A5 tt.1.num.length d5, .slice B5 tt.1.den.length e5], .int .i64 tt.2]) (by simp [results, Tryz.results136, go_sem, r0, r1, r2]) rfl (RatP.mk HT.out rfl (by refine Own.lower ?_ (show w.heap.size ≤ w.heap.size + 3 by omega); repeat (first | (with_reducible exact K5.out) | refine Own.setBelow ?_ (by simp; try omega) _)) (by refine Own.lower ?_ (show w.heap.size ≤ w.heap.size + 3 by omega); repeat (first | (with_reducible exact K6.out) | refine Own.setBelow ?_ (by simp; try omega) _)) K7.out (by repeat (first | (with_reducible exact HXw.out) | refine Ext.setCell ?_ (by simp; try omega) _)))

end Go.Proofs.YtifonmdcicegdaaGreat

/- LentRatio, KeptRatio. -/
namespace Go.Proofs.YtifonmdcicegdaaGreat
open Go Go.RowKit

/-- a fraction whose words have room behind them -/
def LentP (w : World) (f : Fr) (e : Ending) (w' : World) : Prop :=
  ∃ A c B d, e = .returned (.agg #[.bool f.neg, .slice A f.num.length c, .slice B f.den.length d]) ∧ Own w' w.heap.size A c (f.num ++ marks) ∧ Own w' w.heap.size B d (f.den ++ marks) ∧ (∀ a b, A = some a → B = some b → a.block ≠ b.block) ∧ Ext w w'

set_option maxHeartbeats 2000000 in
theorem klentR_any (f : Fr) (A B : Option Addr) (c d : Nat) (w : World) (ha : Rd w A c f.num) (hb : Rd w B d f.den) (hm : f.num.length ≤ 1000000) (hm' : f.den.length ≤ 1000000) :
    Calls Tryz.prog 13 #[.agg #[.bool f.neg, .slice A f.num.length c, .slice B f.den.length d]] w (LentP w f) := by
  obtain ⟨s, xs, ys⟩ := f
  simp only at *
  have HA := Lib.hid ha
  have HB := Lib.hid hb
  obtain ⟨l, hl⟩ : ∃ l, xs.length = l := ⟨_, rfl⟩
  obtain ⟨n, hn⟩ : ∃ n, ys.length = n := ⟨_, rfl⟩
  have HL := Lib.hid hl
  have HN := Lib.hid hn
  rw [hl] at hm ⊢
  rw [hn] at hm' ⊢
  clear ha hb hl hn
  have HS1 := Lib.hid (fun wx (hx : Ext w wx) => klent_any A xs c l wx (HA.out.ext hx) HL.out (by omega))
  have HS2 := Lib.hid (fun wx (hx : Ext w wx) => klent_any B ys d n wx (HB.out.ext hx) HN.out (by omega))
  have HX := Lib.hid (((Ext.refl w).alloc (.cells #[.bool s, .slice A l c, .slice B n d] 24)).alloc (.cells #[.bool false, .slice none 0 0, .slice none 0 0] 24))
  go_enter Tryz.func13, Tryz.ntmps13
  go_wp2_with fail
  obtain ⟨W, hW⟩ : ∃ W, W = (w.alloc (.cells #[.bool s, .slice A l c, .slice B n d] 24)).alloc (.cells #[.bool false, .slice none 0 0, .slice none 0 0] 24) := ⟨_, rfl⟩
  have F0 : Thr W w.heap.size (.bool s) (.slice A l c) (.slice B n d) := by rw [hW]; refine ⟨?_, ?_, ?_⟩ <;> simp [go_sem]
  have HV : Hid (VarF (w.heap.size + 1) W.heap.size Fr.zero none 0 none 0 W) := by
    have h1 := VarF.zero (w.alloc (.cells #[.bool s, .slice A l c, .slice B n d] 24)) W.heap.size
    rw [← hW] at h1
    unfold Hid
    simpa using h1
  have HZ := Lib.hid (show W.heap.size = w.heap.size + 2 by rw [hW]; simp)
  rw [← hW] at HX
  try rw [← hW]
  clear hW
  go_region_held3 (fun w' => w'.cell? ⟨w.heap.size, 0, none⟩ = some (.bool s) ∧ w'.cell? ⟨w.heap.size, 1, none⟩ = some (.slice A l c) ∧ w'.cell? ⟨w.heap.size, 2, none⟩ = some (.slice B n d)) (repeat (first | (with_reducible exact F0) | (with_reducible exact F1) | (with_reducible exact F2) | (with_reducible refine thr_drew ?_) | (with_reducible refine thr_set ?_ (by simp only; omega))))
    (first
      | (go_at_call 134; (with_reducible refine (HS1.out _ HX.out.drew).mono ?_); rintro e w1 ⟨A1, d1, rfl, k1, hx1⟩; have K1 := Lib.hid k1; have HX1 := Lib.hid hx1; have F1 := thr_ext hx1 (thr_drew F0); have hc1 : l + 3 ≤ d1 := (by have := k1.rd.cap; rw [List.length_append, HL.out] at this; exact this); have hc2 : (l : Int) ≤ (d1 : Int) := (by omega); have hc3 : (0 : Int) ≤ (l : Int) := (by omega); clear k1 hx1)
      | (go_at_call 134; (with_reducible refine (HS2.out _ (HX.out.drew.trans HX1.out)).mono ?_); rintro e w2 ⟨A2, d2, rfl, k2, hx2⟩; have K2 := Lib.hid k2; have HX2 := Lib.hid hx2; have F2 := thr_ext hx2 F1; have hd1 : n + 3 ≤ d2 := (by have := k2.rd.cap; rw [List.length_append, HN.out] at this; exact this); have hd2 : (n : Int) ≤ (d2 : Int) := (by omega); have hd3 : (0 : Int) ≤ (n : Int) := (by omega); have HVx := HV.out.ext ((((Ext.refl W).drew.trans HX1.out).trans hx2)); have v0 := HVx.c0; have v1 := HVx.c1; have v2 := HVx.c2; have fv0 := HVx.fr 0; have fv1 := HVx.fr 1; have fv2 := HVx.fr 2; clear k2 hx2 HVx))
  all_goals
    have hz := HZ.out
    have hy1 := HX1.out.size
    have bA := fun a (e : A1 = some a) => (show Own w1 _ (some a) d1 _ from e ▸ K1.out).block
    have bB := fun a (e : A2 = some a) => (show Own w2 _ (some a) d2 _ from e ▸ K2.out).block
    simp only [World.size_drew] at bA bB hy1
    have HO1 := Lib.hid ((K1.out.ext HX2.out).lower (show w.heap.size ≤ W.drew.heap.size by simp only [World.size_drew]; omega))
    have HO2 := Lib.hid (K2.out.lower (show w.heap.size ≤ w1.heap.size by omega))
    have HXw := Lib.hid (HX.out.trans (((Ext.refl W).drew.trans HX1.out).trans HX2.out))
    have HAp := Lib.hid (show ∀ a b, A1 = some a → A2 = some b → a.block ≠ b.block from fun a b ea eb e => by have h1 := bA a ea; have h2 := bB b eb; omega)
    have N1 := Lib.hid (show ∀ a, A1 = some a → a.block ≠ w.heap.size + 1 from fun a ea => by have h1 := bA a ea; omega)
    have N2 := Lib.hid (show ∀ a, A2 = some a → a.block ≠ w.heap.size + 1 from fun a ea => by have h1 := bB a ea; omega)
    clear bA bB hz hy1
    go_wp2_with fail
    exact bodyPost_ret (v := .agg #[.bool s, .slice A1 l d1, .slice A2 n d2]) (by simp [results, Tryz.results13, go_sem, v0, v1, v2]) rfl ⟨A1, d1, A2, d2, by simp only; rw [HL.out, HN.out], own_set (own_set (own_set HO1.out N1.out) N1.out) N1.out, own_set (own_set (own_set HO2.out N2.out) N2.out) N2.out, HAp.out, ((HXw.out.setCell (Nat.le_succ _) _).setCell (Nat.le_succ _) _).setCell (Nat.le_succ _) _⟩

set_option maxRecDepth 8000 in
set_option maxHeartbeats 2000000 in
theorem kkeptR_any (f : Fr) (A B C D : Option Addr) (a b c d : Nat) (w : World) (ha : Rd w A a (f.num ++ marks)) (hb : Rd w B b (f.den ++ marks)) (hc : Rd w C c f.num) (hd : Rd w D d f.den) (hm : f.num.length ≤ 1000000) (hm' : f.den.length ≤ 1000000) :
    Calls Tryz.prog 36 #[.agg #[.bool f.neg, .slice A f.num.length a, .slice B f.den.length b], .agg #[.bool f.neg, .slice C f.num.length c, .slice D f.den.length d]] w fun e w' => e = .returned (.bool true) ∧ Ext w w' := by
  obtain ⟨s, xs, ys⟩ := f
  simp only at *
  have HA := Lib.hid ha
  have HB := Lib.hid hb
  have HC := Lib.hid hc
  have HD := Lib.hid hd
  have cA : xs.length + 3 ≤ a := by have := ha.cap; rw [List.length_append] at this; exact this
  have cB : ys.length + 3 ≤ b := by have := hb.cap; rw [List.length_append] at this; exact this
  have mA := ha.capm
  have mB := hb.capm
  obtain ⟨l, hl⟩ : ∃ l, xs.length = l := ⟨_, rfl⟩
  obtain ⟨n, hn⟩ : ∃ n, ys.length = n := ⟨_, rfl⟩
  have HL := Lib.hid hl
  have HN := Lib.hid hn
  rw [hl] at hm cA ⊢
  rw [hn] at hm' cB ⊢
  clear ha hb hc hd hl hn
  have HS1 := Lib.hid (fun wx (hx : Ext w wx) => kkept_any A C xs a c l ((l : Int) + 3).toNat wx (HA.out.ext hx) (HC.out.ext hx) HL.out (by omega) (by omega))
  have HS2 := Lib.hid (fun wx (hx : Ext w wx) => kkept_any B D ys b d n ((n : Int) + 3).toNat wx (HB.out.ext hx) (HD.out.ext hx) HN.out (by omega) (by omega))
  have HX := Lib.hid (((Ext.refl w).alloc (.cells #[.bool s, .slice A l a, .slice B n b] 24)).alloc (.cells #[.bool s, .slice C l c, .slice D n d] 24))
  go_enter Tryz.func36, Tryz.ntmps36
  go_wp2_with fail
  obtain ⟨W, hW⟩ : ∃ W, W = (w.alloc (.cells #[.bool s, .slice A l a, .slice B n b] 24)).alloc (.cells #[.bool s, .slice C l c, .slice D n d] 24) := ⟨_, rfl⟩
  have F0 : Six W w.heap.size (.bool s) (.slice A l a) (.slice B n b) (.bool s) (.slice C l c) (.slice D n d) := by rw [hW]; refine ⟨?_, ?_, ?_, ?_, ?_, ?_⟩ <;> simp [go_sem]
  rw [← hW] at HX
  try rw [← hW]
  clear hW
  have hs1 : IntKind.i64.wrap ((l : Int) + 3) = (l : Int) + 3 := IntWalk.i64_in _ (by omega)
  have hs2 : IntKind.i64.wrap ((n : Int) + 3) = (n : Int) + 3 := IntWalk.i64_in _ (by omega)
  have hc2 : (l : Int) + 3 ≤ (a : Int) := by omega
  have hc3 : (0 : Int) ≤ (l : Int) + 3 := by omega
  have hd2 : (n : Int) + 3 ≤ (b : Int) := by omega
  have hd3 : (0 : Int) ≤ (n : Int) + 3 := by omega
  have hss : (s == s) = true := beq_self_eq_true s
  have hll : ((l : Int) == (l : Int)) = true := beq_self_eq_true _
  have hnn : ((n : Int) == (n : Int)) = true := beq_self_eq_true _
  go_region_held3 (fun w' => w'.cell? ⟨w.heap.size, 0, none⟩ = some (.bool s) ∧ w'.cell? ⟨w.heap.size, 1, none⟩ = some (.slice A l a) ∧ w'.cell? ⟨w.heap.size, 2, none⟩ = some (.slice B n b) ∧ w'.cell? ⟨w.heap.size + 1, 0, none⟩ = some (.bool s) ∧ w'.cell? ⟨w.heap.size + 1, 1, none⟩ = some (.slice C l c) ∧ w'.cell? ⟨w.heap.size + 1, 2, none⟩ = some (.slice D n d)) (repeat (first | (with_reducible exact F0) | (with_reducible exact F1) | (with_reducible exact F2) | (with_reducible refine six_drew ?_)))
    (first
      | (go_at_call 161; (with_reducible refine (HS1.out _ HX.out.drew).mono ?_); rintro e w1 ⟨rfl, hx1⟩; have HX1 := Lib.hid hx1; have F1 := six_ext hx1 (six_drew F0); clear hx1)
      | (go_at_call 161; (with_reducible refine (HS2.out _ (HX.out.drew.trans HX1.out)).mono ?_); rintro e w2 ⟨rfl, hx2⟩; have HX2 := Lib.hid hx2; have F2 := six_ext hx2 F1; clear hx2))
  all_goals
    go_wp2_with fail
    go_ret
    exact ⟨rfl, (HX.out.drew.trans HX1.out).trans HX2.out⟩

end Go.Proofs.YtifonmdcicegdaaGreat

/- Blocks that a law's variables are. -/
namespace Go.Proofs.YtifonmdcicegdaaGreat
open Go Go.RowKit

/-- what a block holds -/
def Cells (w : World) (g : Nat) (vs : List Value) : Prop := g < w.heap.size ∧ ∀ j v, vs[j]? = some v → w.cell? ⟨g, j, none⟩ = some v
theorem Cells.ext {w w' : World} {g : Nat} {vs : List Value} (h : Cells w g vs) (e : Ext w w') : Cells w' g vs := ⟨Nat.lt_of_lt_of_le h.1 e.size, fun j v hj => e.cell (h.2 j v hj)⟩
theorem Cells.at {w : World} {g : Nat} {vs : List Value} (h : Cells w g vs) (j : Nat) (v : Value) (hj : vs[j]? = some v) : w.cell? ⟨g, j, none⟩ = some v := h.2 j v hj
theorem Cells.past {w : World} {g : Nat} {vs : List Value} (h : Cells w g vs) (j : Nat) (v : Value) (hj : vs[j]? = some v) : ∀ o, (w.alloc o).cell? ⟨g, j, none⟩ = some v := fun o => ((Ext.refl w).alloc o).cell (h.2 j v hj)
theorem Cells.past2 {w : World} {g : Nat} {vs : List Value} (h : Cells w g vs) (j : Nat) (v : Value) (hj : vs[j]? = some v) : ∀ o o', ((w.alloc o).alloc o').cell? ⟨g, j, none⟩ = some v := fun o o' => (((Ext.refl w).alloc o).alloc o').cell (h.2 j v hj)
theorem Cells.new (w : World) (vs : List Value) (t : TypeId) : Cells (w.alloc (.cells vs.toArray t)) w.heap.size vs :=
  ⟨by simp, fun j v hj => by rw [World.cell?_alloc_at (hn := rfl)]; simpa using hj⟩

theorem own_pre {w : World} {base c : Nat} {A : Option Addr} {xs ys zs : List Int} (h : Own w base A c zs) (e : zs = xs ++ ys) : Own w base A c xs := by
  subst e
  have h1 := h.take xs.length
  rwa [List.take_left' rfl] at h1
/-- what may be handed about -/
def Small (a : Fr) : Prop := (a.num.length ≤ 1000000 ∧ Wf a.num) ∧ (a.den.length ≤ 1000000 ∧ Wf a.den)
theorem small_zero : Small Fr.zero := ⟨⟨by decide, Fr.zero_wf.num⟩, ⟨by decide, Fr.zero_wf.den⟩⟩
theorem small_enc {q : Rat} (h : ¬ lng q = true) : Small (enc q) := by
  have := not_lng h
  exact ⟨⟨Nat.le_trans this.1 (by omega), wf_wd _⟩, ⟨Nat.le_trans this.2 (by omega), wf_wd _⟩⟩
theorem tell_small (q : Rat) : Small (tell q).1 := by
  unfold tell
  split
  · exact small_zero
  · rename_i h
    exact small_enc h
theorem Small.wf {a : Fr} (h : Small a) : a.Wf := ⟨h.1.2, h.2.2⟩

end Go.Proofs.YtifonmdcicegdaaGreat

