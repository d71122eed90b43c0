/- The law RatioMakes. -/
import Derived.Test.YtnhgagfkepmanaaK5
namespace Go.Proofs.Ytnhgagfkepmanaa
open Go Go.RowKit

/-- what a block holds -/
def Cells (w : World) (g : Nat) (vs : List Value) : Prop := g < w.heap.size ∧ ∀ j v, vs[j]? = some v → w.cell? ⟨g, j, none⟩ = some v
theorem Cells.ext {w w' : World} {g : Nat} {vs : List Value} (h : Cells w g vs) (e : Ext w w') : Cells w' g vs := ⟨Nat.lt_of_lt_of_le h.1 e.size, fun j v hj => e.cell (h.2 j v hj)⟩
theorem Cells.at {w : World} {g : Nat} {vs : List Value} (h : Cells w g vs) (j : Nat) (v : Value) (hj : vs[j]? = some v) : w.cell? ⟨g, j, none⟩ = some v := h.2 j v hj
theorem Cells.past {w : World} {g : Nat} {vs : List Value} (h : Cells w g vs) (j : Nat) (v : Value) (hj : vs[j]? = some v) : ∀ o, (w.alloc o).cell? ⟨g, j, none⟩ = some v := fun o => ((Ext.refl w).alloc o).cell (h.2 j v hj)
theorem Cells.new (w : World) (vs : List Value) (t : TypeId) : Cells (w.alloc (.cells vs.toArray t)) w.heap.size vs :=
  ⟨by simp, fun j v hj => by rw [World.cell?_alloc_at (hn := rfl)]; simpa using hj⟩

theorem rd_take {w : World} {base c l : Nat} {A : Option Addr} {xs ys : List Int} (h : Own w base A c (xs ++ ys)) (hl : xs.length = l) : Rd w A c xs := by
  have h1 := (h.take l).rd
  rwa [List.take_left' hl] at h1

theorem own_rd {w : World} {base c : Nat} {A : Option Addr} {xs : List Int} (h : Own w base A c xs) : Rd w A c xs := h.rd

theorem own_take {w : World} {base c : Nat} {A : Option Addr} {xs ys : List Int} (h : Own w base A c (xs ++ ys)) : Own w base A c xs := by
  have h1 := h.take xs.length
  rwa [List.take_left' rfl] at h1
/-- what may be handed about -/
def Small (a : Fr) : Prop := (a.num.length ≤ 1000000 ∧ Wf a.num) ∧ (a.den.length ≤ 1000000 ∧ Wf a.den)
theorem small_zero : Small Fr.zero := ⟨⟨by decide, Fr.zero_wf.num⟩, ⟨by decide, Fr.zero_wf.den⟩⟩
theorem tell_small (q : Rat) : Small (tell q).1 := by
  unfold tell
  split
  · exact small_zero
  · rename_i h
    have := not_lng h
    exact ⟨⟨Nat.le_trans this.1 (by omega), wf_wd _⟩, ⟨Nat.le_trans this.2 (by omega), wf_wd _⟩⟩
theorem fmake_small (s1 : Bool) (xs : List Int) (s2 : Bool) (ys : List Int) : Small (fmake s1 xs s2 ys).1 := by
  unfold fmake
  split
  · exact small_zero
  · split
    · exact small_zero
    · split
      · exact small_zero
      · exact tell_small _
theorem fsmall_small (n d : Int) : Small (fsmall n d).1 := by
  unfold fsmall
  split
  · exact small_zero
  · exact tell_small _

theorem grown_setCell (w : World) (p : Addr) (u : Value) : w.grownBy (w.setCell p u) (some p.block) :=
  ⟨rfl, rfl, rfl, by simp [World.setCell], fun k hk hne => Below.heap_setCell _ _ _ _ (fun e => hne (by rw [e]))⟩

theorem cells_two {w : World} {g : Nat} {a b : Value} (h0 : w.cell? ⟨g, 0, none⟩ = some a) (h1 : w.cell? ⟨g, 1, none⟩ = some b) : Cells w g [a, b] :=
  ⟨World.block_lt_of_cell? w _ h0, fun j v hj => by
    match j, hj with
    | 0, hj => simp at hj; rw [h0, hj]
    | 1, hj => simp at hj; rw [h1, hj]⟩
theorem own_alloc {w : World} {base c : Nat} {A : Option Addr} {xs : List Int} {o : Obj} (h : Own w base A c xs) : Own (w.alloc o) base A c xs := h.ext ((Ext.refl w).alloc o)
theorem own_set {w : World} {base c : Nat} {A : Option Addr} {xs : List Int} {p : Addr} {u : Value} (h : Own w base A c xs) (hp : ∀ a, A = some a → a.block ≠ p.block) : Own (w.setCell p u) base A c xs :=
  h.kept (grown_setCell w p u) (fun a ha e => hp a ha (Option.some.inj e))

theorem cells_set {w : World} {g : Nat} {a b : Value} (h : Cells w g [.bool false, .slice none 0 0]) : Cells ((w.setCell ⟨g, 0, none⟩ a).setCell ⟨g, 1, none⟩ b) g [a, b] := by
  have h0 := h.2 0 _ rfl
  have h1 := h.2 1 _ rfl
  have k0 : (w.setCell ⟨g, 0, none⟩ a).cell? ⟨g, 0, none⟩ = some a := World.cell?_setCell_same _ _ _ h0
  have k1 : (w.setCell ⟨g, 0, none⟩ a).cell? ⟨g, 1, none⟩ = some (.slice none 0 0) := (World.cell?_setCell_other _ _ _ _ (by simp)).trans h1
  exact cells_two ((World.cell?_setCell_other _ _ _ _ (by simp)).trans k0) (World.cell?_setCell_same _ _ _ k1)
theorem cells_far {w : World} {g : Nat} {vs : List Value} {p : Addr} {u : Value} (h : Cells w g vs) (hp : p.block ≠ g) : Cells (w.setCell p u) g vs :=
  ⟨by have := h.1; simpa using this, fun j v hj => cell_kept' (grown_setCell w p u) (h.2 j v hj) (fun e => hp (Option.some.inj e).symm)⟩
theorem cells_alloc {w : World} {g : Nat} {vs : List Value} {o : Obj} (h : Cells w g vs) : Cells (w.alloc o) g vs := h.ext ((Ext.refl w).alloc o)
theorem cells_drew {w : World} {g : Nat} {vs : List Value} (h : Cells w g vs) : Cells w.drew g vs := h.ext (Ext.refl w).drew
theorem cells_new {w : World} {g : Nat} {a b : Value} {t : TypeId} (hg : g = w.heap.size) : Cells (w.alloc (.cells #[a, b] t)) g [a, b] := by subst hg; exact Cells.new w [a, b] t

abbrev Four (w : World) (h : Nat) (a b c d : Value) : Prop := w.cell? ⟨h, 0, none⟩ = some a ∧ w.cell? ⟨h, 1, none⟩ = some b ∧ w.cell? ⟨h + 1, 0, none⟩ = some c ∧ w.cell? ⟨h + 1, 1, none⟩ = some d
theorem four_ext {w w' : World} {h : Nat} {a b c d : Value} (e : Ext w w') (H : Four w h a b c d) : Four w' h a b c d := ⟨e.cell H.1, e.cell H.2.1, e.cell H.2.2.1, e.cell H.2.2.2⟩
theorem four_alloc {w : World} {h : Nat} {a b c d : Value} {o : Obj} (H : Four w h a b c d) : Four (w.alloc o) h a b c d := four_ext ((Ext.refl w).alloc o) H
theorem four_drew {w : World} {h : Nat} {a b c d : Value} (H : Four w h a b c d) : Four w.drew h a b c d := H
theorem four_set {w : World} {h : Nat} {a b c d : Value} {p : Addr} {u : Value} (H : Four w h a b c d) (h1 : p.block ≠ h) (h2 : p.block ≠ h + 1) : Four (w.setCell p u) h a b c d :=
  have hg := grown_setCell w p u
  ⟨cell_kept' hg H.1 (fun e => h1 (Option.some.inj e).symm), cell_kept' hg H.2.1 (fun e => h1 (Option.some.inj e).symm), cell_kept' hg H.2.2.1 (fun e => h2 (Option.some.inj e).symm), cell_kept' hg H.2.2.2 (fun e => h2 (Option.some.inj e).symm)⟩

set_option maxRecDepth 8000 in
set_option maxHeartbeats 4000000 in
theorem ratioMakes_any (s1 s2 : Bool) (A B : Option Addr) (xs ys : List Int) (c1 c2 l1 l2 : Nat) (n d : Int) (w : World) (ha : Rd w A c1 xs) (hb : Rd w B c2 ys) (hx : Wf xs) (hy : Wf ys) (hl1 : xs.length = l1) (hl2 : ys.length = l2)
    (n0 : -9223372036854775808 ≤ n) (n1 : n ≤ 9223372036854775807) (d0 : -9223372036854775808 ≤ d) (d1 : d ≤ 9223372036854775807) :
    Calls Try.prog 3 #[.agg #[.bool s1, .slice A l1 c1], .agg #[.bool s2, .slice B l2 c2], .int .i64 n, .int .i64 d] w fun e w' => e = .returned (.bool true) ∧ Ext w w' := by
  have HA := Lib.hid ha
  have HB := Lib.hid hb
  have HWX := Lib.hid hx
  have HWY := Lib.hid hy
  have HL1 := Lib.hid hl1
  have HL2 := Lib.hid hl2
  have hm1 : l1 ≤ 9223372036854775807 := hl1 ▸ ha.lim
  have hm2 : l2 ≤ 9223372036854775807 := hl2 ▸ hb.lim
  clear ha hb hx hy hl1 hl2
  obtain ⟨b, hb⟩ : ∃ b, b = decide (∃ j, j < 2 * 1 ∧ isLong ((fun j => if j = 0 then l1 else l2) j) = true) := ⟨_, rfl⟩
  have HBB := Lib.hid hb
  clear hb
  obtain ⟨h, hh⟩ : ∃ h, h = w.heap.size := ⟨_, rfl⟩
  have HLong := Lib.hid (fun (wx : World) (g : Nat) (hc : Cells wx g [.bool false, .slice A l1 c1, .slice B l2 c2]) => klongR_any wx g 0 1 1 (fun j => if j = 0 then A else B) (fun j => if j = 0 then c1 else c2) (fun j => if j = 0 then l1 else l2)
    ⟨fun j hj => by obtain rfl : j = 0 := by omega
                    exact hc.at 1 _ rfl, fun j hj => by obtain rfl : j = 0 := by omega
                                                        exact hc.at 2 _ rfl⟩ (by omega) (fun j hj => by split <;> omega) b HBB.out.symm)
  go_enter Try.func3, Try.ntmps3
  go_wp2_with fail
  refine (HLong.out _ _ ?hc).mono ?_
  case hc =>
    have := Cells.new ((w.alloc (.cells #[.bool s1, .slice A l1 c1] 24)).alloc (.cells #[.bool s2, .slice B l2 c2] 24)) [.bool false, .slice A l1 c1, .slice B l2 c2] 27
    simpa using this
  rintro e w1 ⟨rfl, hw1⟩
  have HX1 : Hid (Ext w w1) := by rw [hw1]; exact (((Ext.refl w).alloc _).alloc _).alloc _
  have HN : Hid (Cells w1 w.heap.size [.bool s1, .slice A l1 c1]) := by rw [hw1]; exact (Cells.new w _ _).ext (((Ext.refl _).alloc _).alloc _)
  have HD : Hid (Cells w1 (w.heap.size + 1) [.bool s2, .slice B l2 c2]) := by
    rw [hw1]
    have := (Cells.new (w.alloc (.cells #[.bool s1, .slice A l1 c1] 24)) [.bool s2, .slice B l2 c2] 24).ext ((Ext.refl _).alloc (.cells #[.bool false, .slice A l1 c1, .slice B l2 c2] 27))
    unfold Hid
    simpa using this
  have HZ1 : Hid (w.heap.size + 1 < w1.heap.size) := HD.out.1
  clear hw1 HLong
  have e0 := HN.out.at 0 _ rfl
  have e1 := HN.out.at 1 _ rfl
  have f0 := HD.out.at 0 _ rfl
  have f1 := HD.out.at 1 _ rfl
  cases b with
  | true =>
    go_wp2_with fail
    go_ret
    exact ⟨rfl, HX1.out⟩
  | false =>
    have hb1 : l1 ≤ 2056 := by
      have h1 := of_decide_eq_false HBB.out.symm
      have h2 : ¬ isLong l1 = true := fun e => h1 ⟨0, by omega, by simpa using e⟩
      unfold isLong at h2
      simp at h2
      omega
    have hb2 : l2 ≤ 2056 := by
      have h1 := of_decide_eq_false HBB.out.symm
      have h2 : ¬ isLong l2 = true := fun e => h1 ⟨1, by omega, by simpa using e⟩
      unfold isLong at h2
      simp at h2
      omega
    clear hm1 hm2
    have HLA := Lib.hid (fun wx (hx : Ext w wx) => klentW_any s1 A xs c1 l1 wx (HA.out.ext hx) HL1.out (by omega))
    have HLB := Lib.hid (fun wx (hx : Ext w wx) => klentW_any s2 B ys c2 l2 wx (HB.out.ext hx) HL2.out (by omega))
    go_upto_region 3 with fail
    go_cut [9, 10] (fun s9 s10 wx => ∃ (g1 g2 : Nat) (A2 A3 : Option Addr) (c3 c4 : Nat), s9 = .pointer (some ⟨g1, 0, none⟩) ∧ s10 = .pointer (some ⟨g2, 0, none⟩) ∧ Hid (Cells wx g1 [.bool s1, .slice A2 l1 c3]) ∧ Hid (Cells wx g2 [.bool s2, .slice A3 l2 c4]) ∧ Hid (Own wx w.heap.size A2 c3 (xs ++ marks)) ∧ Hid (Own wx w.heap.size A3 c4 (ys ++ marks)) ∧ Hid (∀ a b, A2 = some a → A3 = some b → a.block ≠ b.block) ∧ Hid (Ext w1 wx))
    case first =>
      have hez := HZ1.out
      have F1 : Four w1 w.heap.size (.bool s1) (.slice A l1 c1) (.bool s2) (.slice B l2 c2) := ⟨e0, e1, f0, f1⟩
      clear hh
      go_region_held3 (fun w' => w'.cell? ⟨w.heap.size, 0, none⟩ = some (.bool s1) ∧ w'.cell? ⟨w.heap.size, 1, none⟩ = some (.slice A l1 c1) ∧ w'.cell? ⟨w.heap.size + 1, 0, none⟩ = some (.bool s2) ∧ w'.cell? ⟨w.heap.size + 1, 1, none⟩ = some (.slice B l2 c2)) (repeat (first | (with_reducible exact F1) | (with_reducible exact F2) | (with_reducible exact F3) | (with_reducible refine four_alloc ?_) | (with_reducible refine four_drew ?_) | (with_reducible refine four_set ?_ (by simp only; omega) (by simp only; omega))))
        (first
          | (go_at_call 6; with_reducible refine (HLA.out _ ?hx).mono ?_; (case hx => repeat (first | (with_reducible exact HX1.out) | (with_reducible refine Ext.drew ?_) | (with_reducible refine Ext.alloc ?_ _))); rintro e w2 ⟨A2, c3, rfl, h2, hx2⟩; have H2 := Lib.hid h2; have HX2 := Lib.hid hx2; have F2 : Four w2 w.heap.size (.bool s1) (.slice A l1 c1) (.bool s2) (.slice B l2 c2) := four_ext hx2 (by repeat (first | (with_reducible exact F1) | (with_reducible refine four_alloc ?_) | (with_reducible refine four_drew ?_))); obtain ⟨hc2, hf2⟩ := bcell hx2; have hz2 := hx2.size; (try simp only [World.size_alloc, World.size_drew] at hz2); (try have q1 : w1.heap.size < w2.heap.size := by omega); (try have q2 : w1.heap.size + 1 < w2.heap.size := by omega); clear h2 hx2)
          | (go_at_call 6; with_reducible refine (HLB.out _ ?hx).mono ?_; (case hx => repeat (first | (with_reducible exact HX1.out) | (with_reducible refine Ext.trans ?_ HX2.out) | (with_reducible refine Ext.drew ?_) | (with_reducible refine Ext.alloc ?_ _))); rintro e w3 ⟨A3, c4, rfl, h3, hx3⟩; have H3 := Lib.hid h3; have HX3 := Lib.hid hx3; have F3 : Four w3 w.heap.size (.bool s1) (.slice A l1 c1) (.bool s2) (.slice B l2 c2) := four_ext hx3 (by repeat (first | (with_reducible exact F2) | (with_reducible refine four_alloc ?_) | (with_reducible refine four_drew ?_))); obtain ⟨hc3, hf3⟩ := bcell hx3; have hz3 := hx3.size; (try simp only [World.size_alloc, World.size_drew] at hz3); (try have q3 : w1.heap.size < w3.heap.size := by omega); (try have q4 : w1.heap.size + 1 < w3.heap.size := by omega); (try have q5 : w2.heap.size < w3.heap.size := by omega); (try have q6 : w2.heap.size + 1 < w3.heap.size := by omega); clear h3 hx3))
      all_goals
        have hb2 := fun a (e : A2 = some a) => (show Own w2 _ (some a) c3 _ from e ▸ H2.out).block
        have hb3 := fun a (e : A3 = some a) => (show Own w3 _ (some a) c4 _ from e ▸ H3.out).block
        have hy2 := HX2.out.size
        have hy3 := HX3.out.size
        have hy1 := HX1.out.size
        (try simp only [World.size_alloc, World.size_drew] at hb2)
        (try simp only [World.size_alloc, World.size_drew] at hb3)
        (try simp only [World.size_alloc, World.size_drew] at hy2)
        (try simp only [World.size_alloc, World.size_drew] at hy3)
        go_wp2_with fail
        go_meet
        refine ⟨_, _, A2, A3, c3, c4, rfl, rfl, ?_, ?_, ?_, ?_, ?_, ?_⟩
        · unfold Hid
          (repeat (first | ((with_reducible refine cells_new ?_); (first | (with_reducible rfl) | (simp only [World.size_alloc, World.size_drew, World.size_setCell]; done))) | (with_reducible refine cells_alloc ?_) | (with_reducible refine cells_set ?_) | (with_reducible refine cells_far ?_ (by simp only; omega)) | (with_reducible refine Cells.ext ?_ HX3.out) | (with_reducible refine Cells.ext ?_ HX2.out) | (with_reducible refine cells_drew ?_)))
        · unfold Hid
          (repeat (first | ((with_reducible refine cells_new ?_); (first | (with_reducible rfl) | (simp only [World.size_alloc, World.size_drew, World.size_setCell]; done))) | (with_reducible refine cells_alloc ?_) | (with_reducible refine cells_set ?_) | (with_reducible refine cells_far ?_ (by simp only; omega)) | (with_reducible refine Cells.ext ?_ HX3.out) | (with_reducible refine Cells.ext ?_ HX2.out) | (with_reducible refine cells_drew ?_)))
        · unfold Hid
          refine Own.lower (base := w1.heap.size) ?_ (by omega)
          repeat (first | (with_reducible refine own_alloc ?_) | (with_reducible refine own_set ?_ (fun a e => by have := hb2 a e; simp only; omega)) | (with_reducible refine Own.ext ?_ HX3.out))
          exact H2.out.lower (by first | exact Nat.le_refl _ | (simp only [World.size_alloc, World.size_drew]; omega))
        · unfold Hid
          refine Own.lower (base := w1.heap.size) ?_ (by omega)
          repeat (first | (with_reducible refine own_alloc ?_) | (with_reducible refine own_set ?_ (fun a e => by have := hb3 a e; simp only; omega)))
          exact H3.out.lower (by first | omega | (simp only [World.size_alloc, World.size_drew]; omega))
        · exact fun a b e1 e2 => by have h1 := hb2 a e1; have h2 := hb3 b e2; omega
        · unfold Hid
          repeat (first | (with_reducible exact Ext.refl w1) | (with_reducible refine Ext.alloc ?_ _) | (with_reducible refine Ext.setCell ?_ (by simp only; omega) _) | (with_reducible refine Ext.trans ?_ HX3.out) | (with_reducible refine Ext.trans ?_ HX2.out) | (with_reducible refine Ext.drew ?_))
    case rest =>
      obtain ⟨g1, g2, A2, A3, c3, c4, rfl, rfl, HP, HQ, HR1, HR2, HAP, HXX⟩ := hcut
      clear e0 e1 f0 f1
      obtain ⟨t1, ht1⟩ : ∃ t1, t1 = fmake s1 xs s2 ys := ⟨_, rfl⟩
      obtain ⟨t2, ht2⟩ : ∃ t2, t2 = fsmall n d := ⟨_, rfl⟩
      have HMK := Lib.hid (fun wx (hx : Ext wc wx) => by
        have h1 := make_any s1 s2 A2 A3 xs ys c3 c4 wx ((rd_take HR1.out HL1.out).ext hx) ((rd_take HR2.out HL2.out).ext hx) HWX.out HWY.out
        rw [HL1.out, HL2.out, ← ht1] at h1
        exact h1)
      have HGM := Lib.hid (fun wx (hx : Ext w wx) => by
        have h1 := gmake3_any s1 s2 A B xs ys c1 c2 wx (HA.out.ext hx) (HB.out.ext hx) HWX.out HWY.out
        rw [HL1.out, HL2.out, ← ht1] at h1
        exact h1)
      have HSM := Lib.hid (fun wx => by
        have h1 := small_frac n d wx n0 n1 d0 d1
        rw [← ht2] at h1
        exact h1)
      have HGS := Lib.hid (fun wx => by
        have h1 := gsmall3_any n d wx n0 n1 d0 d1
        rw [← ht2] at h1
        exact h1)
      have HT1 := Lib.hid ht1
      have HT2 := Lib.hid ht2
      clear ht1 ht2
      have HN := Lib.hid (HN.out.ext HXX.out)
      have HD := Lib.hid (HD.out.ext HXX.out)
      have HXC := Lib.hid (HX1.out.trans HXX.out)
      clear HXX HX1
      have p0 := HP.out.at 0 _ rfl
      have p1 := HP.out.at 1 _ rfl
      have q0 := HQ.out.at 0 _ rfl
      have q1 := HQ.out.at 1 _ rfl
      go_wp2_with fail
      clear p0 p1 q0 q1
      refine (HMK.out _ (Ext.refl wc)).mono ?_; rintro e w2 ⟨A4, c5, B4, d4, rfl, h1, h2, h3, hx⟩
      have HX2 := Lib.hid hx
      have HO4 := Lib.hid h1
      have HO4' := Lib.hid h2
      have HA4 := Lib.hid h3
      clear h1 h2 h3 hx
      have HNd := HN.out.ext HX2.out
      have HDd := HD.out.ext HX2.out
      have e0 := HNd.past 0 _ rfl
      have e1 := HNd.past 1 _ rfl
      have f0 := HDd.past 0 _ rfl
      have f1 := HDd.past 1 _ rfl
      go_wp2_with fail
      clear e0 e1 f0 f1
      refine (HGM.out _ ?hx).mono ?_
      case hx => exact (HXC.out.trans HX2.out).alloc _
      rintro e w3 ⟨A5, c6, B5, d5, rfl, h1, h2, h3, hx⟩
      have HO5 := Lib.hid h1
      have HO5' := Lib.hid h2
      have HCA := Lib.hid ((Cells.new w2 [.bool t1.1.neg, .slice A4 t1.1.num.length c5, .slice B4 t1.1.den.length d4] 27).ext hx)
      have HX3 := Lib.hid (((Ext.refl w2).alloc _).trans hx)
      clear h1 h2 h3 hx HNd HDd
      go_wp2_with fail
      refine (HSM.out _).mono ?_
      rintro e w4 ⟨A6, c7, B6, d6, rfl, h1, h2, h3, hx⟩
      have HO6 := Lib.hid h1
      have HO6' := Lib.hid h2
      have HA6 := Lib.hid h3
      have HCB := Lib.hid ((Cells.new w3 [.bool t1.1.neg, .slice A5 t1.1.num.length c6, .slice B5 t1.1.den.length d5] 27).ext hx)
      have HX4 := Lib.hid (((Ext.refl w3).alloc _).trans hx)
      clear h1 h2 h3 hx
      go_wp2_with fail
      refine (HGS.out _).mono ?_
      rintro e w5 ⟨A7, c8, B7, d7, rfl, h1, h2, h3, hx⟩
      have HO7 := Lib.hid h1
      have HO7' := Lib.hid h2
      have HCC := Lib.hid ((Cells.new w4 [.bool t2.1.neg, .slice A6 t2.1.num.length c7, .slice B6 t2.1.den.length d6] 27).ext hx)
      have HX5 := Lib.hid (((Ext.refl w4).alloc _).trans hx)
      have HCD := Lib.hid (Cells.new w5 [.bool t2.1.neg, .slice A7 t2.1.num.length c8, .slice B7 t2.1.den.length d7] 27)
      have HX6 := Lib.hid ((Ext.refl w5).alloc (.cells #[.bool t2.1.neg, .slice A7 t2.1.num.length c8, .slice B7 t2.1.den.length d7] 27))
      clear h1 h2 h3 hx
      have HCA5 := HCA.out.ext (HX4.out.trans HX5.out)
      have HCB5 := HCB.out.ext HX5.out
      have e0 := HCA5.past 0 _ rfl
      have e1 := HCA5.past 1 _ rfl
      have e2 := HCA5.past 2 _ rfl
      have f0 := HCB5.past 0 _ rfl
      have f1 := HCB5.past 1 _ rfl
      have f2 := HCB5.past 2 _ rfl
      have hee : (t1.2 != t1.2) = false := bne_self_eq_false _
      have hff : (t2.2 != t2.2) = false := bne_self_eq_false _
      go_wp2_with fail
      clear e0 e1 e2 f0 f1 f2 HCA5 HCB5
      refine (ksameR_any t1.1.neg t1.1.neg A4 B4 A5 B5 t1.1.num t1.1.den t1.1.num t1.1.den c5 d4 c6 d5 _ (HO4.out.rd.ext ?hx1) (HO4'.out.rd.ext ?hx1) (HO5.out.rd.ext ?hx2) (HO5'.out.rd.ext ?hx2) true (decide_eq_true rfl)).mono ?_
      case hx1 => exact (HX3.out.trans (HX4.out.trans HX5.out)).trans HX6.out
      case hx2 => exact (HX4.out.trans HX5.out).trans HX6.out
      rintro e w6 ⟨rfl, hx⟩
      have HX7 := Lib.hid (HX6.out.trans hx)
      have HCD := Lib.hid (HCD.out.ext hx)
      have HCC := Lib.hid (HCC.out.ext HX7.out)
      clear hx HX6
      have e0 := HCC.out.at 0 _ rfl
      have e1 := HCC.out.at 1 _ rfl
      have e2 := HCC.out.at 2 _ rfl
      have f0 := HCD.out.at 0 _ rfl
      have f1 := HCD.out.at 1 _ rfl
      have f2 := HCD.out.at 2 _ rfl
      go_wp2_with fail
      clear e0 e1 e2 f0 f1 f2
      refine (ksameR_any t2.1.neg t2.1.neg A6 B6 A7 B7 t2.1.num t2.1.den t2.1.num t2.1.den c7 d6 c8 d7 _ (HO6.out.rd.ext ?hx1) (HO6'.out.rd.ext ?hx1) (HO7.out.rd.ext ?hx2) (HO7'.out.rd.ext ?hx2) true (decide_eq_true rfl)).mono ?_
      case hx1 => exact HX5.out.trans HX7.out
      case hx2 => exact HX7.out
      rintro e w7 ⟨rfl, hx⟩
      have HX8 := Lib.hid (HX7.out.trans hx)
      have HCC := Lib.hid (HCC.out.ext hx)
      have HXC7 := Lib.hid (HX2.out.trans (HX3.out.trans (HX4.out.trans (HX5.out.trans HX8.out))))
      clear hx HX7 HCD
      have p0 := (HP.out.ext HXC7.out).at 0 _ rfl
      have p1 := (HP.out.ext HXC7.out).at 1 _ rfl
      have n0 := (HN.out.ext HXC7.out).at 0 _ rfl
      have n1 := (HN.out.ext HXC7.out).at 1 _ rfl
      go_wp2_with fail
      clear p0 p1 n0 n1
      refine (kkeptW_any s1 A2 A xs c3 c1 l1 _ (own_rd (HR1.out.ext HXC7.out)) (HA.out.ext (HXC.out.trans HXC7.out)) HL1.out (by omega)).mono ?_
      rintro e w8 ⟨rfl, hx⟩
      have HX9 := Lib.hid (HX8.out.trans hx)
      have HCC := Lib.hid (HCC.out.ext hx)
      have HXC8 := Lib.hid (HXC7.out.trans hx)
      clear hx HX8 HXC7
      have p0 := (HQ.out.ext HXC8.out).at 0 _ rfl
      have p1 := (HQ.out.ext HXC8.out).at 1 _ rfl
      have n0 := (HD.out.ext HXC8.out).at 0 _ rfl
      have n1 := (HD.out.ext HXC8.out).at 1 _ rfl
      go_wp2_with fail
      clear p0 p1 n0 n1
      refine (kkeptW_any s2 A3 B ys c4 c2 l2 _ (own_rd (HR2.out.ext HXC8.out)) (HB.out.ext (HXC.out.trans HXC8.out)) HL2.out (by omega)).mono ?_
      rintro e w9 ⟨rfl, hx⟩
      have HX10 := Lib.hid (HX9.out.trans hx)
      have HCC := Lib.hid (HCC.out.ext hx)
      have HXC9 := Lib.hid (HXC8.out.trans hx)
      have HCA := Lib.hid (HCA.out.ext (HX4.out.trans (HX5.out.trans HX10.out)))
      clear hx HX9 HXC8
      have p1 := (HP.out.ext HXC9.out).at 1 _ rfl
      have q1 := (HQ.out.ext HXC9.out).at 1 _ rfl
      have e0 := HCA.out.at 0 _ rfl
      have e1 := HCA.out.at 1 _ rfl
      have e2 := HCA.out.at 2 _ rfl
      have f0 := HCC.out.at 0 _ rfl
      have f1 := HCC.out.at 1 _ rfl
      have f2 := HCC.out.at 2 _ rfl
      go_wp2_with fail
      clear p1 q1 e0 e1 e2 f0 f1 f2
      have hl1 := HL1.out
      have hl2 := HL2.out
      subst hl1
      subst hl2
      have HCL := Lib.hid (Cells.new w9 [.bool t1.1.neg, .slice A4 t1.1.num.length c5, .slice B4 t1.1.den.length d4, .bool t2.1.neg, .slice A6 t2.1.num.length c7, .slice B6 t2.1.den.length d6, .bool false, .slice A2 xs.length c3, .slice A3 ys.length c4] 27)
      have HXL := Lib.hid ((Ext.refl w9).alloc (.cells #[.bool t1.1.neg, .slice A4 t1.1.num.length c5, .slice B4 t1.1.den.length d4, .bool t2.1.neg, .slice A6 t2.1.num.length c7, .slice B6 t2.1.den.length d6, .bool false, .slice A2 xs.length c3, .slice A3 ys.length c4] 27))
      have HTW1 := Lib.hid (fmake_small s1 xs s2 ys)
      have HTW2 := Lib.hid (fsmall_small n d)
      rw [← HT1.out] at HTW1
      rw [← HT2.out] at HTW2
      have HX49 := Lib.hid (HX3.out.trans (HX4.out.trans (HX5.out.trans HX10.out)))
      have HX69 := Lib.hid (HX5.out.trans HX10.out)
      have HXW9 := Lib.hid (HXC.out.trans HXC9.out)
      have z1 := HXC.out.size
      have z2 := HX3.out.size
      have z4 := HX2.out.size
      have bA4 : ∀ a, A4 = some a → wc.heap.size ≤ a.block ∧ a.block < w2.heap.size := fun a e => by have h := HO4.out; rw [e] at h; exact h.block
      have bB4 : ∀ a, B4 = some a → wc.heap.size ≤ a.block ∧ a.block < w2.heap.size := fun a e => by have h := HO4'.out; rw [e] at h; exact h.block
      have bA6 : ∀ a, A6 = some a → w2.heap.size ≤ a.block := fun a e => by have h := HO6.out; rw [e] at h; have := h.block.1; simp at this; omega
      have bB6 : ∀ a, B6 = some a → w2.heap.size ≤ a.block := fun a e => by have h := HO6'.out; rw [e] at h; have := h.block.1; simp at this; omega
      have bA2 : ∀ a, A2 = some a → a.block < wc.heap.size := fun a e => by have h := HR1.out; rw [e] at h; exact h.block.2
      have bA3 : ∀ a, A3 = some a → a.block < wc.heap.size := fun a e => by have h := HR2.out; rw [e] at h; exact h.block.2
      have z3 : w.heap.size ≤ (w3.alloc (.cells #[.bool t1.1.neg, .slice A5 t1.1.num.length c6, .slice B5 t1.1.den.length d5] 27)).heap.size := by have := HX2.out.size; simp; omega
      have HAPR := Lib.hid (kapartR_any w _ w9.heap.size 0 3 3 (fun j => [A4, B4, A6, B6, A2, A3].getD j none) (fun j => [c5, d4, c7, d6, c3, c4].getD j 0) (fun j => [t1.1.num, t1.1.den, t2.1.num, t2.1.den, xs, ys].getD j [])
        ⟨fun j hj => by
          match j, hj with
          | 0, _ => exact HCL.out.at 1 _ rfl
          | 1, _ => exact HCL.out.at 4 _ rfl
          | 2, _ => exact HCL.out.at 7 _ rfl, fun j hj => by
          match j, hj with
          | 0, _ => exact HCL.out.at 2 _ rfl
          | 1, _ => exact HCL.out.at 5 _ rfl
          | 2, _ => exact HCL.out.at 8 _ rfl⟩ (HXW9.out.trans HXL.out) (by omega) (by omega) (fun j hj => by
          match j, hj with
          | 0, _ => exact ((HO4.out.ext HX49.out).ext HXL.out).lower z1
          | 1, _ => exact ((HO4'.out.ext HX49.out).ext HXL.out).lower z1
          | 2, _ => exact ((HO6.out.ext HX69.out).ext HXL.out).lower z3
          | 3, _ => exact ((HO6'.out.ext HX69.out).ext HXL.out).lower z3
          | 4, _ => exact own_take ((HR1.out.ext HXC9.out).ext HXL.out)
          | 5, _ => exact own_take ((HR2.out.ext HXC9.out).ext HXL.out)) (fun i j hi hj hne a b ha hb => by
          have q1 := HA4.out
          have q2 := HA6.out
          have q3 := HAP.out
          match i, hi, j, hj with
          | 0, _, 0, _ => exact absurd rfl hne
          | 1, _, 1, _ => exact absurd rfl hne
          | 2, _, 2, _ => exact absurd rfl hne
          | 3, _, 3, _ => exact absurd rfl hne
          | 4, _, 4, _ => exact absurd rfl hne
          | 5, _, 5, _ => exact absurd rfl hne
          | 0, _, 1, _ => exact q1 a b ha hb
          | 1, _, 0, _ => exact fun e => q1 b a hb ha e.symm
          | 2, _, 3, _ => exact q2 a b ha hb
          | 3, _, 2, _ => exact fun e => q2 b a hb ha e.symm
          | 4, _, 5, _ => exact q3 a b ha hb
          | 5, _, 4, _ => exact fun e => q3 b a hb ha e.symm
          | 0, _, 2, _ => have h1 := bA4 a ha; have h2 := bA6 b hb; omega
          | 0, _, 3, _ => have h1 := bA4 a ha; have h2 := bB6 b hb; omega
          | 0, _, 4, _ => have h1 := bA4 a ha; have h2 := bA2 b hb; omega
          | 0, _, 5, _ => have h1 := bA4 a ha; have h2 := bA3 b hb; omega
          | 1, _, 2, _ => have h1 := bB4 a ha; have h2 := bA6 b hb; omega
          | 1, _, 3, _ => have h1 := bB4 a ha; have h2 := bB6 b hb; omega
          | 1, _, 4, _ => have h1 := bB4 a ha; have h2 := bA2 b hb; omega
          | 1, _, 5, _ => have h1 := bB4 a ha; have h2 := bA3 b hb; omega
          | 2, _, 0, _ => have h1 := bA6 a ha; have h2 := bA4 b hb; omega
          | 2, _, 1, _ => have h1 := bA6 a ha; have h2 := bB4 b hb; omega
          | 2, _, 4, _ => have h1 := bA6 a ha; have h2 := bA2 b hb; omega
          | 2, _, 5, _ => have h1 := bA6 a ha; have h2 := bA3 b hb; omega
          | 3, _, 0, _ => have h1 := bB6 a ha; have h2 := bA4 b hb; omega
          | 3, _, 1, _ => have h1 := bB6 a ha; have h2 := bB4 b hb; omega
          | 3, _, 4, _ => have h1 := bB6 a ha; have h2 := bA2 b hb; omega
          | 3, _, 5, _ => have h1 := bB6 a ha; have h2 := bA3 b hb; omega
          | 4, _, 0, _ => have h1 := bA2 a ha; have h2 := bA4 b hb; omega
          | 4, _, 1, _ => have h1 := bA2 a ha; have h2 := bB4 b hb; omega
          | 4, _, 2, _ => have h1 := bA2 a ha; have h2 := bA6 b hb; omega
          | 4, _, 3, _ => have h1 := bA2 a ha; have h2 := bB6 b hb; omega
          | 5, _, 0, _ => have h1 := bA3 a ha; have h2 := bA4 b hb; omega
          | 5, _, 1, _ => have h1 := bA3 a ha; have h2 := bB4 b hb; omega
          | 5, _, 2, _ => have h1 := bA3 a ha; have h2 := bA6 b hb; omega
          | 5, _, 3, _ => have h1 := bA3 a ha; have h2 := bB6 b hb; omega) (fun j hj => by
          match j, hj with
          | 0, _ => exact HTW1.out.1
          | 1, _ => exact HTW1.out.2
          | 2, _ => exact HTW2.out.1
          | 3, _ => exact HTW2.out.2
          | 4, _ => exact ⟨Nat.le_trans hb1 (by omega), HWX.out⟩
          | 5, _ => exact ⟨Nat.le_trans hb2 (by omega), HWY.out⟩))
      refine HAPR.out.mono ?_
      rintro e w10 ⟨rfl, hx⟩
      have HXF := Lib.hid hx
      clear hx
      go_wp2_with fail
      go_ret
      exact ⟨rfl, HXF.out⟩

end Go.Proofs.Ytnhgagfkepmanaa
