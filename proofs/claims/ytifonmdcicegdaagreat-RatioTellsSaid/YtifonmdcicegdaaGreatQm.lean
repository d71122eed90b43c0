/- Texts of this claim, joined: L5. -/
import Derived.Test.YtifonmdcicegdaaGreatQl
/- The law RatioTells. -/
namespace Go.Proofs.YtifonmdcicegdaaGreat
open Go Go.RowKit

theorem both_small {a b : Fr} {r : Rat → Rat → Fr × Int} (h : ∀ p q, Small (r p q).1) : Small (both a b r).1 := by
  unfold both
  split
  · exact small_zero
  · split
    · exact small_zero
    · exact h _ _
theorem fneg_small {a : Fr} (wa : a.Wf) : Small (fneg a).1 := by
  by_cases h : fchk a ≠ 0
  · unfold fneg; rw [if_pos h]; exact small_zero
  · have h0 : fchk a = 0 := by simpa using h
    have hl := fchk_small h0
    rw [fneg_ok wa h0]
    exact ⟨⟨show a.num.length ≤ 1000000 by omega, wa.num⟩, ⟨show a.den.length ≤ 1000000 by omega, wa.den⟩⟩
theorem ffloor_small {a : Fr} (wa : a.Wf) : Small ⟨false, (ffloor a).2.1, []⟩ := by
  by_cases h : fchk a ≠ 0
  · unfold ffloor; rw [if_pos h]; exact ⟨⟨Nat.zero_le _, wf_nil⟩, ⟨Nat.zero_le _, wf_nil⟩⟩
  · obtain ⟨q, eq, lq⟩ := fchk_ok wa (by simpa using h)
    unfold ffloor
    rw [if_neg h, eq, dec_enc]
    refine ⟨⟨?_, wf_wd _⟩, ⟨Nat.zero_le _, wf_nil⟩⟩
    show (wd q.floor.natAbs).length ≤ 1000000
    have h1 : q.floor.natAbs ≤ q.num.natAbs + 1 := by
      have hd := Nat.div_le_self q.num.natAbs q.den
      by_cases hn : q.num < 0
      · obtain ⟨f1, f2, _⟩ := floor_neg q hn
        by_cases hr : q.num.natAbs % q.den = 0
        · rw [f1 hr]; omega
        · rw [f2 hr]; omega
      · rw [(floor_pos q hn).1]; omega
    have h2 := wd_len_mono h1
    have h3 := wd_len_add q.num.natAbs 1
    have h4 := (not_lng lq).1
    have h5 : (wd 1).length = 1 := by rw [wd_one]; rfl
    omega
theorem var_alloc {g : Nat} {vs : List Value} {w : World} {o : Obj} (h : Var g vs w) : Var g vs (w.alloc o) := h.ext ((Ext.refl w).alloc o)
theorem var_drew {g : Nat} {vs : List Value} {w : World} (h : Var g vs w) : Var g vs w.drew := h.ext (Ext.refl w).drew
theorem var_new3 {g : Nat} {a b c : Value} {w : World} {t : TypeId} (hg : g = w.heap.size) : Var g [a, b, c] (w.alloc (.cells #[a, b, c] t)) := by subst hg; exact Var.new w [a, b, c] t
theorem var_set3 {g : Nat} {a b c : Value} {w : World} (h : Var g [.bool false, .slice none 0 0, .slice none 0 0] w) : Var g [a, b, c] (((w.setCell ⟨g, 0, none⟩ a).setCell ⟨g, 1, none⟩ b).setCell ⟨g, 2, none⟩ c) :=
  ((h.set 0 a (by simp)).set 1 b (by simp)).set 2 c (by simp)
theorem var_far {g : Nat} {vs : List Value} {w : World} {p : Addr} {u : Value} (h : Var g vs w) (hp : p.block ≠ g) : Var g vs (w.setCell p u) := h.setNe hp
theorem var_far3 {g n : Nat} {vs : List Value} {w : World} {x y z : Value} (h : Var g vs w) (hp : n ≠ g) : Var g vs (((w.setCell ⟨n, 0, none⟩ x).setCell ⟨n, 1, none⟩ y).setCell ⟨n, 2, none⟩ z) := ((h.setNe hp).setNe hp).setNe hp
theorem own_set3 {w : World} {base c n : Nat} {A : Option Addr} {xs : List Int} {x y z : Value} (h : Own w base A c xs) (hp : ∀ a, A = some a → a.block ≠ n) : Own (((w.setCell ⟨n, 0, none⟩ x).setCell ⟨n, 1, none⟩ y).setCell ⟨n, 2, none⟩ z) base A c xs := own_set (own_set (own_set h hp) hp) hp
theorem ext_set3 {a w : World} {n : Nat} {x y z : Value} (h : Ext a w) (hp : a.heap.size ≤ n) : Ext a (((w.setCell ⟨n, 0, none⟩ x).setCell ⟨n, 1, none⟩ y).setCell ⟨n, 2, none⟩ z) := ((h.setCell hp _).setCell hp _).setCell hp _
theorem thr_var {g : Nat} {a b c : Value} {w : World} (h : Var g [a, b, c] w) : Thr w g a b c := ⟨h.at_ 0 _ rfl, h.at_ 1 _ rfl, h.at_ 2 _ rfl⟩
theorem own_alloc {w : World} {base c : Nat} {A : Option Addr} {xs : List Int} {o : Obj} (h : Own w base A c xs) : Own (w.alloc o) base A c xs := h.ext ((Ext.refl w).alloc o)
theorem six_alloc {w : World} {h : Nat} {a b c d e f : Value} {ob : Obj} (H : Six w h a b c d e f) : Six (w.alloc ob) h a b c d e f := six_ext ((Ext.refl w).alloc ob) H

set_option maxRecDepth 8000 in
set_option maxHeartbeats 8000000 in
theorem ratioTells_any (a b : Fr) (A B C D : Option Addr) (c1 c2 c3 c4 : Nat) (w : World) (ha : Rd w A c1 a.num) (hb : Rd w B c2 a.den) (hc : Rd w C c3 b.num) (hd : Rd w D c4 b.den) (wa : a.Wf) (wb : b.Wf) :
    Calls Tryz.prog 3 #[.agg #[.bool a.neg, .slice A a.num.length c1, .slice B a.den.length c2], .agg #[.bool b.neg, .slice C b.num.length c3, .slice D b.den.length c4]] w fun e w' => e = .returned (.bool true) ∧ Ext w w' := by
  have la := ha.lim
  have lb := hb.lim
  have lc := hc.lim
  have ld := hd.lim
  have HA := Lib.hid ha
  have HB := Lib.hid hb
  have HC := Lib.hid hc
  have HD := Lib.hid hd
  clear ha hb hc hd
  obtain ⟨bb, hbb⟩ : ∃ bb, bb = decide (∃ j, j < 2 * 2 ∧ isLong ((fun j => [a.num.length, a.den.length, b.num.length, b.den.length].getD j 0) j) = true) := ⟨_, rfl⟩
  have HBB := Lib.hid hbb
  clear hbb
  have HLong := Lib.hid (fun (wx : World) (g : Nat) (hc : Var g [.bool a.neg, .slice A a.num.length c1, .slice B a.den.length c2, .bool b.neg, .slice C b.num.length c3, .slice D b.den.length c4] wx) => klongR_any wx g 0 2 2 (fun j => [A, B, C, D].getD j none) (fun j => [c1, c2, c3, c4].getD j 0) (fun j => [a.num.length, a.den.length, b.num.length, b.den.length].getD j 0)
    ⟨fun j hj => by
      match j, hj with
      | 0, _ => exact hc.at_ 1 _ rfl
      | 1, _ => exact hc.at_ 4 _ rfl, fun j hj => by
      match j, hj with
      | 0, _ => exact hc.at_ 2 _ rfl
      | 1, _ => exact hc.at_ 5 _ rfl⟩ (by omega) (fun j hj => by
      match j, hj with
      | 0, _ => exact la
      | 1, _ => exact lb
      | 2, _ => exact lc
      | 3, _ => exact ld) bb HBB.out.symm)
  go_enter Tryz.func3, Tryz.ntmps3
  go_wp2_with fail
  refine (HLong.out _ _ ?hc).mono ?_
  case hc =>
    have := Var.new ((w.alloc (.cells #[.bool a.neg, .slice A a.num.length c1, .slice B a.den.length c2] 24)).alloc (.cells #[.bool b.neg, .slice C b.num.length c3, .slice D b.den.length c4] 24)) [.bool a.neg, .slice A a.num.length c1, .slice B a.den.length c2, .bool b.neg, .slice C b.num.length c3, .slice D b.den.length c4] 24
    simpa using this
  rintro e w1 ⟨rfl, hw1⟩
  have HX1 : Hid (Ext w w1) := by rw [hw1]; exact (((Ext.refl w).alloc _).alloc _).alloc _
  have F1 : Six w1 w.heap.size (.bool a.neg) (.slice A a.num.length c1) (.slice B a.den.length c2) (.bool b.neg) (.slice C b.num.length c3) (.slice D b.den.length c4) := by rw [hw1]; refine ⟨?_, ?_, ?_, ?_, ?_, ?_⟩ <;> simp [go_sem]
  have HZ1 : Hid (w.heap.size + 1 < w1.heap.size) := by rw [hw1]; unfold Hid; simp
  clear hw1 HLong
  obtain ⟨e0, e1, e2, f0, f1, f2⟩ := id F1
  cases bb with
  | true =>
    go_wp2_with fail
    go_ret
    exact ⟨rfl, HX1.out⟩
  | false =>
    have hnl : ∀ j, j < 4 → [a.num.length, a.den.length, b.num.length, b.den.length].getD j 0 ≤ 2056 := fun j hj => by
      have h1 := of_decide_eq_false HBB.out.symm
      have h2 : ¬ isLong ([a.num.length, a.den.length, b.num.length, b.den.length].getD j 0) = true := fun e => h1 ⟨j, by omega, e⟩
      unfold isLong at h2
      simp only [decide_eq_true_eq] at h2
      omega
    have na := hnl 0 (by omega)
    have nb := hnl 1 (by omega)
    have nc := hnl 2 (by omega)
    have nd := hnl 3 (by omega)
    simp only [List.getD_cons_zero, List.getD_cons_succ] at na nb nc nd
    clear hnl la lb lc ld
    have HLA := Lib.hid (fun wx (hx : Ext w wx) => klentR_any a A B c1 c2 wx (HA.out.ext hx) (HB.out.ext hx) (by omega) (by omega))
    have HLB := Lib.hid (fun wx (hx : Ext w wx) => klentR_any b C D c3 c4 wx (HC.out.ext hx) (HD.out.ext hx) (by omega) (by omega))
    go_upto_region 3 with fail
    go_cut [5, 6] (fun s5 s6 wx => ∃ (gp gq : Nat) (A' B' C' D' : Option Addr) (d1 d2 d3 d4 : Nat), s5 = .pointer (some ⟨gp, 0, none⟩) ∧ s6 = .pointer (some ⟨gq, 0, none⟩) ∧ Hid (Var gp [.bool a.neg, .slice A' a.num.length d1, .slice B' a.den.length d2] wx) ∧ Hid (Var gq [.bool b.neg, .slice C' b.num.length d3, .slice D' b.den.length d4] wx) ∧ Hid (Own wx w.heap.size A' d1 (a.num ++ marks)) ∧ Hid (Own wx w.heap.size B' d2 (a.den ++ marks)) ∧ Hid (Own wx w.heap.size C' d3 (b.num ++ marks)) ∧ Hid (Own wx w.heap.size D' d4 (b.den ++ marks)) ∧ Hid (Ap4 A' B' C' D') ∧ Hid (Ext w1 wx))
    case first =>
      have hez := HZ1.out
      go_region_held3 (fun w' => w'.cell? ⟨w.heap.size, 0, none⟩ = some (.bool a.neg) ∧ w'.cell? ⟨w.heap.size, 1, none⟩ = some (.slice A a.num.length c1) ∧ w'.cell? ⟨w.heap.size, 2, none⟩ = some (.slice B a.den.length c2) ∧ w'.cell? ⟨w.heap.size + 1, 0, none⟩ = some (.bool b.neg) ∧ w'.cell? ⟨w.heap.size + 1, 1, none⟩ = some (.slice C b.num.length c3) ∧ w'.cell? ⟨w.heap.size + 1, 2, none⟩ = some (.slice D b.den.length c4)) (repeat (first | (with_reducible exact F1) | (with_reducible exact F2) | (with_reducible exact F3) | (with_reducible refine six_alloc ?_) | (with_reducible refine six_drew ?_) | (with_reducible refine six_set ?_ (by simp only; omega) (by simp only; omega))))
        (first
          | (go_at_call 13; ((with_reducible refine (HLA.out _ ?hx).mono ?_); (case hx => repeat (first | (with_reducible exact HX1.out) | (with_reducible refine Ext.drew ?_) | (with_reducible refine Ext.alloc ?_ _)))); rintro e w2 ⟨A', d1, B', d2, rfl, o1, o2, ap, hx2⟩; have O1 := Lib.hid o1; have O2 := Lib.hid o2; have AP := Lib.hid ap; have HX2 := Lib.hid hx2; have F2 : Six w2 w.heap.size (.bool a.neg) (.slice A a.num.length c1) (.slice B a.den.length c2) (.bool b.neg) (.slice C b.num.length c3) (.slice D b.den.length c4) := six_ext hx2 (by repeat (first | (with_reducible exact F1) | (with_reducible refine six_alloc ?_) | (with_reducible refine six_drew ?_))); obtain ⟨hc2, hf2⟩ := bcell hx2; have hz2 := hx2.size; (try simp only [World.size_alloc, World.size_drew] at hz2); (try have q1 : w1.heap.size < w2.heap.size := by omega); (try have q2 : w1.heap.size + 1 < w2.heap.size := by omega); clear o1 o2 ap hx2)
          | (go_at_call 13; ((with_reducible refine (HLB.out _ ?hx).mono ?_); (case hx => repeat (first | (with_reducible exact HX1.out) | (with_reducible refine Ext.trans ?_ HX2.out) | (with_reducible refine Ext.drew ?_) | (with_reducible refine Ext.alloc ?_ _)))); rintro e w3 ⟨C', d3, D', d4, rfl, o1, o2, ap, hx3⟩; have O3 := Lib.hid o1; have O4 := Lib.hid o2; have AQ := Lib.hid ap; have HX3 := Lib.hid hx3; have F3 : Six w3 w.heap.size (.bool a.neg) (.slice A a.num.length c1) (.slice B a.den.length c2) (.bool b.neg) (.slice C b.num.length c3) (.slice D b.den.length c4) := six_ext hx3 (by repeat (first | (with_reducible exact F2) | (with_reducible refine six_alloc ?_) | (with_reducible refine six_drew ?_))); obtain ⟨hc3, hf3⟩ := bcell hx3; have hz3 := hx3.size; (try simp only [World.size_alloc, World.size_drew] at hz3); (try have q3 : w1.heap.size < w3.heap.size := by omega); (try have q4 : w1.heap.size + 1 < w3.heap.size := by omega); (try have q5 : w2.heap.size < w3.heap.size := by omega); (try have q6 : w2.heap.size + 1 < w3.heap.size := by omega); clear o1 o2 ap hx3))
      all_goals
        have b1 := fun x (e : A' = some x) => (show Own w2 _ (some x) d1 _ from e ▸ O1.out).block
        have b2 := fun x (e : B' = some x) => (show Own w2 _ (some x) d2 _ from e ▸ O2.out).block
        have b3 := fun x (e : C' = some x) => (show Own w3 _ (some x) d3 _ from e ▸ O3.out).block
        have b4 := fun x (e : D' = some x) => (show Own w3 _ (some x) d4 _ from e ▸ O4.out).block
        have hy2 := HX2.out.size
        have hy3 := HX3.out.size
        have hy1 := HX1.out.size
        (try simp only [World.size_alloc, World.size_drew] at b1 b2)
        (try simp only [World.size_alloc, World.size_drew] at b3 b4)
        (try simp only [World.size_alloc, World.size_drew] at hy2)
        (try simp only [World.size_alloc, World.size_drew] at hy3)
        go_wp2_with fail
        go_meet
        refine ⟨_, _, A', B', C', D', d1, d2, d3, d4, rfl, rfl, ?_, ?_, ?_, ?_, ?_, ?_, ?_, ?_⟩
        · unfold Hid
          (repeat (first | ((with_reducible refine var_new3 ?_); (first | (with_reducible rfl) | (simp only [World.size_alloc, World.size_drew, World.size_setCell]; done))) | (with_reducible refine var_alloc ?_) | (with_reducible refine var_set3 ?_) | (with_reducible refine var_far3 ?_ (by omega)) | (with_reducible refine Var.ext ?_ HX3.out) | (with_reducible refine Var.ext ?_ HX2.out) | (with_reducible refine var_drew ?_)))
        · unfold Hid
          (repeat (first | ((with_reducible refine var_new3 ?_); (first | (with_reducible rfl) | (simp only [World.size_alloc, World.size_drew, World.size_setCell]; done))) | (with_reducible refine var_alloc ?_) | (with_reducible refine var_set3 ?_) | (with_reducible refine var_far3 ?_ (by omega)) | (with_reducible refine Var.ext ?_ HX3.out) | (with_reducible refine Var.ext ?_ HX2.out) | (with_reducible refine var_drew ?_)))
        · unfold Hid
          refine Own.lower (base := w1.heap.size) ?_ (by omega)
          repeat (first | (with_reducible refine own_alloc ?_) | (with_reducible refine own_set3 ?_ (fun a e => by have := b1 a e; omega)) | (with_reducible refine Own.ext ?_ HX3.out))
          exact O1.out.lower (by first | omega | (simp only [World.size_alloc, World.size_drew]; omega))
        · unfold Hid
          refine Own.lower (base := w1.heap.size) ?_ (by omega)
          repeat (first | (with_reducible refine own_alloc ?_) | (with_reducible refine own_set3 ?_ (fun a e => by have := b2 a e; omega)) | (with_reducible refine Own.ext ?_ HX3.out))
          exact O2.out.lower (by first | omega | (simp only [World.size_alloc, World.size_drew]; omega))
        · unfold Hid
          refine Own.lower (base := w1.heap.size) ?_ (by omega)
          repeat (first | (with_reducible refine own_alloc ?_) | (with_reducible refine own_set3 ?_ (fun a e => by have := b3 a e; omega)))
          exact O3.out.lower (by first | omega | (simp only [World.size_alloc, World.size_drew]; omega))
        · unfold Hid
          refine Own.lower (base := w1.heap.size) ?_ (by omega)
          repeat (first | (with_reducible refine own_alloc ?_) | (with_reducible refine own_set3 ?_ (fun a e => by have := b4 a e; omega)))
          exact O4.out.lower (by first | omega | (simp only [World.size_alloc, World.size_drew]; omega))
        · exact ⟨AP.out, AQ.out, fun x y e1 e2 => by have h1 := b1 x e1; have h2 := b3 y e2; omega, fun x y e1 e2 => by have h1 := b1 x e1; have h2 := b4 y e2; omega, fun x y e1 e2 => by have h1 := b2 x e1; have h2 := b3 y e2; omega, fun x y e1 e2 => by have h1 := b2 x e1; have h2 := b4 y e2; omega⟩
        · unfold Hid
          repeat (first | (with_reducible exact Ext.refl w1) | (with_reducible refine Ext.alloc ?_ _) | (with_reducible refine ext_set3 ?_ (by omega)) | (with_reducible refine Ext.trans ?_ HX3.out) | (with_reducible refine Ext.trans ?_ HX2.out) | (with_reducible refine Ext.drew ?_))
    case rest =>
      obtain ⟨gp, gq, A', B', C', D', d1, d2, d3, d4, rfl, rfl, HP, HQ, HRA, HRB, HRC, HRD, HAP, HXX⟩ := hcut
      clear e0 e1 e2 f0 f1 f2
      have lp := HP.out.lt
      have lq := HQ.out.lt
      have hwx := HXX.out.size
      have hww := HX1.out.size
      have hez := HZ1.out
      obtain ⟨t0, ht0⟩ : ∃ t, t = fadd a b := ⟨_, rfl⟩
      obtain ⟨t1, ht1⟩ : ∃ t, t = fsub a b := ⟨_, rfl⟩
      obtain ⟨t2, ht2⟩ : ∃ t, t = fmul a b := ⟨_, rfl⟩
      obtain ⟨t3, ht3⟩ : ∃ t, t = fquo a b := ⟨_, rfl⟩
      obtain ⟨t4, ht4⟩ : ∃ t, t = fneg a := ⟨_, rfl⟩
      obtain ⟨tc, htc⟩ : ∃ t, t = fcmp a b := ⟨_, rfl⟩
      obtain ⟨tf, htf⟩ : ∃ t, t = ffloor a := ⟨_, rfl⟩
      obtain ⟨F, hF⟩ : ∃ F : Nat → Fr, F = fun j => [t0.1, t1.1, t2.1, t3.1, t4.1, ⟨false, tf.2.1, []⟩, a, b].getD j Fr.zero := ⟨_, rfl⟩
      obtain ⟨X, hX⟩ : ∃ X : Nat → List Int, X = fun j => if j % 2 = 0 then (F (j / 2)).num else (F (j / 2)).den := ⟨_, rfl⟩
      have Fv0 : Hid (F 0 = t0.1) := by rw [hF]; exact rfl
      have Nv0 : Hid (X (2 * 0) = t0.1.num) := by rw [hX, hF]; exact rfl
      have Dv0 : Hid (X (2 * 0 + 1) = t0.1.den) := by rw [hX, hF]; exact rfl
      have Fv1 : Hid (F 1 = t1.1) := by rw [hF]; exact rfl
      have Nv1 : Hid (X (2 * 1) = t1.1.num) := by rw [hX, hF]; exact rfl
      have Dv1 : Hid (X (2 * 1 + 1) = t1.1.den) := by rw [hX, hF]; exact rfl
      have Fv2 : Hid (F 2 = t2.1) := by rw [hF]; exact rfl
      have Nv2 : Hid (X (2 * 2) = t2.1.num) := by rw [hX, hF]; exact rfl
      have Dv2 : Hid (X (2 * 2 + 1) = t2.1.den) := by rw [hX, hF]; exact rfl
      have Fv3 : Hid (F 3 = t3.1) := by rw [hF]; exact rfl
      have Nv3 : Hid (X (2 * 3) = t3.1.num) := by rw [hX, hF]; exact rfl
      have Dv3 : Hid (X (2 * 3 + 1) = t3.1.den) := by rw [hX, hF]; exact rfl
      have Fv4 : Hid (F 4 = t4.1) := by rw [hF]; exact rfl
      have Nv4 : Hid (X (2 * 4) = t4.1.num) := by rw [hX, hF]; exact rfl
      have Dv4 : Hid (X (2 * 4 + 1) = t4.1.den) := by rw [hX, hF]; exact rfl
      have Fv5 : Hid (F 5 = (⟨false, tf.2.1, []⟩ : Fr)) := by rw [hF]; exact rfl
      have Nv5 : Hid (X (2 * 5) = (⟨false, tf.2.1, []⟩ : Fr).num) := by rw [hX, hF]; exact rfl
      have Dv5 : Hid (X (2 * 5 + 1) = (⟨false, tf.2.1, []⟩ : Fr).den) := by rw [hX, hF]; exact rfl
      have Fv6 : Hid (F 6 = a) := by rw [hF]; exact rfl
      have Nv6 : Hid (X (2 * 6) = a.num) := by rw [hX, hF]; exact rfl
      have Dv6 : Hid (X (2 * 6 + 1) = a.den) := by rw [hX, hF]; exact rfl
      have Fv7 : Hid (F 7 = b) := by rw [hF]; exact rfl
      have Nv7 : Hid (X (2 * 7) = b.num) := by rw [hX, hF]; exact rfl
      have Dv7 : Hid (X (2 * 7 + 1) = b.den) := by rw [hX, hF]; exact rfl
      have HXN : Hid (∀ j, X (2 * j) = (F j).num) := fun j => by rw [hX]; simp only; rw [if_pos (by omega), show 2 * j / 2 = j by omega]
      have HXD : Hid (∀ j, X (2 * j + 1) = (F j).den) := fun j => by rw [hX]; simp only; rw [if_neg (by omega), show (2 * j + 1) / 2 = j by omega]
      obtain ⟨gx, hgx⟩ : ∃ gx, gx = wc.heap.size := ⟨_, rfl⟩
      have L : Hid (Lts w w.heap.size gp gq gx A' B' C' D') := ⟨by omega, by omega, by omega, by omega, fun a e => by have h := HRA.out; rw [e] at h; have := h.block.2; omega, fun a e => by have h := HRB.out; rw [e] at h; have := h.block.2; omega, fun a e => by have h := HRC.out; rw [e] at h; have := h.block.2; omega, fun a e => by have h := HRD.out; rw [e] at h; have := h.block.2; omega⟩
      have S0 : Hid (St w w.heap.size gp gq gx a b A B C D c1 c2 c3 c4 A' B' C' D' d1 d2 d3 d4 (.slice none 0 0) 0 F X (wc.alloc (.cells #[.slice none 0 0, .bool true] 29))) := by
        have e1 : Ext wc (wc.alloc (.cells #[.slice none 0 0, .bool true] 29)) := (Ext.refl wc).alloc _
        exact ⟨(HX1.out.trans HXX.out).trans e1, six_ext (HXX.out.trans e1) F1, thr_ext e1 (thr_var HP.out), thr_ext e1 (thr_var HQ.out), by rw [hgx]; exact Var.new wc [.slice none 0 0, .bool true] _, HRA.out.ext e1, HRB.out.ext e1, HRC.out.ext e1, HRD.out.ext e1, _, _, Rows2.nil _ _ F X⟩
      have P0 := Lib.hid (fun v k wx (S : St w w.heap.size gp gq gx a b A B C D c1 c2 c3 c4 A' B' C' D' d1 d2 d3 d4 v k F X wx) => show Calls Tryz.prog 14 #[.agg #[.bool a.neg, .slice A' a.num.length d1, .slice B' a.den.length d2], .agg #[.bool b.neg, .slice C' b.num.length d3, .slice D' b.den.length d4]] wx (RatP wx t0) by
        have h1 := add_fr a b A' B' C' D' d1 d2 d3 d4 wx (own_pre S.oA rfl).rd (own_pre S.oB rfl).rd (own_pre S.oC rfl).rd (own_pre S.oD rfl).rd wa wb
        rw [← ht0] at h1
        exact h1)
      have G0 := Lib.hid (fun wx (hx : Ext w wx) => show Calls Tryz.prog 15 #[.agg #[.bool a.neg, .slice A a.num.length c1, .slice B a.den.length c2], .agg #[.bool b.neg, .slice C b.num.length c3, .slice D b.den.length c4]] wx (RatP wx t0) by
        have h1 := gaddF_fr a b A B C D c1 c2 c3 c4 wx (HA.out.ext hx) (HB.out.ext hx) (HC.out.ext hx) (HD.out.ext hx) wa wb
        rw [← ht0] at h1
        exact h1)
      have P1 := Lib.hid (fun v k wx (S : St w w.heap.size gp gq gx a b A B C D c1 c2 c3 c4 A' B' C' D' d1 d2 d3 d4 v k F X wx) => show Calls Tryz.prog 17 #[.agg #[.bool a.neg, .slice A' a.num.length d1, .slice B' a.den.length d2], .agg #[.bool b.neg, .slice C' b.num.length d3, .slice D' b.den.length d4]] wx (RatP wx t1) by
        have h1 := sub_fr a b A' B' C' D' d1 d2 d3 d4 wx (own_pre S.oA rfl).rd (own_pre S.oB rfl).rd (own_pre S.oC rfl).rd (own_pre S.oD rfl).rd wa wb
        rw [← ht1] at h1
        exact h1)
      have G1 := Lib.hid (fun wx (hx : Ext w wx) => show Calls Tryz.prog 18 #[.agg #[.bool a.neg, .slice A a.num.length c1, .slice B a.den.length c2], .agg #[.bool b.neg, .slice C b.num.length c3, .slice D b.den.length c4]] wx (RatP wx t1) by
        have h1 := gsub_fr a b A B C D c1 c2 c3 c4 wx (HA.out.ext hx) (HB.out.ext hx) (HC.out.ext hx) (HD.out.ext hx) wa wb
        rw [← ht1] at h1
        exact h1)
      have P2 := Lib.hid (fun v k wx (S : St w w.heap.size gp gq gx a b A B C D c1 c2 c3 c4 A' B' C' D' d1 d2 d3 d4 v k F X wx) => show Calls Tryz.prog 19 #[.agg #[.bool a.neg, .slice A' a.num.length d1, .slice B' a.den.length d2], .agg #[.bool b.neg, .slice C' b.num.length d3, .slice D' b.den.length d4]] wx (RatP wx t2) by
        have h1 := mul_fr a b A' B' C' D' d1 d2 d3 d4 wx (own_pre S.oA rfl).rd (own_pre S.oB rfl).rd (own_pre S.oC rfl).rd (own_pre S.oD rfl).rd wa wb
        rw [← ht2] at h1
        exact h1)
      have G2 := Lib.hid (fun wx (hx : Ext w wx) => show Calls Tryz.prog 20 #[.agg #[.bool a.neg, .slice A a.num.length c1, .slice B a.den.length c2], .agg #[.bool b.neg, .slice C b.num.length c3, .slice D b.den.length c4]] wx (RatP wx t2) by
        have h1 := gmul_fr a b A B C D c1 c2 c3 c4 wx (HA.out.ext hx) (HB.out.ext hx) (HC.out.ext hx) (HD.out.ext hx) wa wb
        rw [← ht2] at h1
        exact h1)
      have P3 := Lib.hid (fun v k wx (S : St w w.heap.size gp gq gx a b A B C D c1 c2 c3 c4 A' B' C' D' d1 d2 d3 d4 v k F X wx) => show Calls Tryz.prog 21 #[.agg #[.bool a.neg, .slice A' a.num.length d1, .slice B' a.den.length d2], .agg #[.bool b.neg, .slice C' b.num.length d3, .slice D' b.den.length d4]] wx (RatP wx t3) by
        have h1 := quo_fr a b A' B' C' D' d1 d2 d3 d4 wx (own_pre S.oA rfl).rd (own_pre S.oB rfl).rd (own_pre S.oC rfl).rd (own_pre S.oD rfl).rd wa wb
        rw [← ht3] at h1
        exact h1)
      have G3 := Lib.hid (fun wx (hx : Ext w wx) => show Calls Tryz.prog 22 #[.agg #[.bool a.neg, .slice A a.num.length c1, .slice B a.den.length c2], .agg #[.bool b.neg, .slice C b.num.length c3, .slice D b.den.length c4]] wx (RatP wx t3) by
        have h1 := gquo_fr a b A B C D c1 c2 c3 c4 wx (HA.out.ext hx) (HB.out.ext hx) (HC.out.ext hx) (HD.out.ext hx) wa wb
        rw [← ht3] at h1
        exact h1)
      have P4 := Lib.hid (fun v k wx (S : St w w.heap.size gp gq gx a b A B C D c1 c2 c3 c4 A' B' C' D' d1 d2 d3 d4 v k F X wx) => show Calls Tryz.prog 23 #[.agg #[.bool a.neg, .slice A' a.num.length d1, .slice B' a.den.length d2]] wx (RatP wx t4) by
        have h1 := neg_fr a A' B' d1 d2 wx (own_pre S.oA rfl).rd (own_pre S.oB rfl).rd  wa 
        rw [← ht4] at h1
        exact h1)
      have G4 := Lib.hid (fun wx (hx : Ext w wx) => show Calls Tryz.prog 24 #[.agg #[.bool a.neg, .slice A a.num.length c1, .slice B a.den.length c2]] wx (RatP wx t4) by
        have h1 := gneg_fr a A B c1 c2 wx (HA.out.ext hx) (HB.out.ext hx) wa 
        rw [← ht4] at h1
        exact h1)
      have PC := Lib.hid (fun v k wx (S : St w w.heap.size gp gq gx a b A B C D c1 c2 c3 c4 A' B' C' D' d1 d2 d3 d4 v k F X wx) => show Calls Tryz.prog 25 #[.agg #[.bool a.neg, .slice A' a.num.length d1, .slice B' a.den.length d2], .agg #[.bool b.neg, .slice C' b.num.length d3, .slice D' b.den.length d4]] wx (IntP wx tc) by
        have h1 := compare_fr a b A' B' C' D' d1 d2 d3 d4 wx (own_pre S.oA rfl).rd (own_pre S.oB rfl).rd (own_pre S.oC rfl).rd (own_pre S.oD rfl).rd wa wb
        rw [← htc] at h1
        exact h1)
      have GC := Lib.hid (fun wx (hx : Ext w wx) => show Calls Tryz.prog 26 #[.agg #[.bool a.neg, .slice A a.num.length c1, .slice B a.den.length c2], .agg #[.bool b.neg, .slice C b.num.length c3, .slice D b.den.length c4]] wx (IntP wx tc) by
        have h1 := gcompare_fr a b A B C D c1 c2 c3 c4 wx (HA.out.ext hx) (HB.out.ext hx) (HC.out.ext hx) (HD.out.ext hx) wa wb
        rw [← htc] at h1
        exact h1)
      have PF := Lib.hid (fun v k wx (S : St w w.heap.size gp gq gx a b A B C D c1 c2 c3 c4 A' B' C' D' d1 d2 d3 d4 v k F X wx) => show Calls Tryz.prog 27 #[.agg #[.bool a.neg, .slice A' a.num.length d1, .slice B' a.den.length d2]] wx (FlP wx tf) by
        have h1 := floor_fr a A' B' d1 d2 wx (own_pre S.oA rfl).rd (own_pre S.oB rfl).rd wa
        rw [← htf] at h1
        exact h1)
      have GF := Lib.hid (fun wx (hx : Ext w wx) => show Calls Tryz.prog 28 #[.agg #[.bool a.neg, .slice A a.num.length c1, .slice B a.den.length c2]] wx (FlP wx tf) by
        have h1 := gfloor_fr a A B c1 c2 wx (HA.out.ext hx) (HB.out.ext hx) wa
        rw [← htf] at h1
        exact h1)
      obtain ⟨ck, hck⟩ : ∃ t, t = fchk a := ⟨_, rfl⟩
      obtain ⟨sg', hsg⟩ : ∃ t, t = fsign a := ⟨_, rfl⟩
      obtain ⟨rr, hrr⟩ : ∃ t, t = decide (a = b) := ⟨_, rfl⟩
      have K1 := Lib.hid (fun v k wx (S : St w w.heap.size gp gq gx a b A B C D c1 c2 c3 c4 A' B' C' D' d1 d2 d3 d4 v k F X wx) => show Calls Tryz.prog 29 #[.agg #[.bool a.neg, .slice A' a.num.length d1, .slice B' a.den.length d2]] wx (fun e w' => e = .returned (.int .i64 ck) ∧ Ext wx w') by
        rw [hck]; exact rcheck_fr a A' B' d1 d2 wx (own_pre S.oA rfl).rd (own_pre S.oB rfl).rd wa)
      have K2 := Lib.hid (fun wx (hx : Ext w wx) => show Calls Tryz.prog 30 #[.agg #[.bool a.neg, .slice A a.num.length c1, .slice B a.den.length c2]] wx (fun e w' => e = .returned (.int .i64 ck) ∧ Ext wx w') by
        rw [hck]; exact gcheck_fr a A B c1 c2 wx (HA.out.ext hx) (HB.out.ext hx) wa)
      have K3 := Lib.hid (fun v k wx (S : St w w.heap.size gp gq gx a b A B C D c1 c2 c3 c4 A' B' C' D' d1 d2 d3 d4 v k F X wx) => show Calls Tryz.prog 31 #[.agg #[.bool a.neg, .slice A' a.num.length d1, .slice B' a.den.length d2]] wx (fun e w' => e = .returned (.int .i64 sg') ∧ Ext wx w') by
        rw [hsg]; exact sign_fr a A' B' d1 d2 wx (own_pre S.oA rfl).rd (own_pre S.oB rfl).rd wa)
      have K4 := Lib.hid (fun wx (hx : Ext w wx) => show Calls Tryz.prog 32 #[.agg #[.bool a.neg, .slice A a.num.length c1, .slice B a.den.length c2]] wx (fun e w' => e = .returned (.int .i64 sg') ∧ Ext wx w') by
        rw [hsg]; exact gsign_fr a A B c1 c2 wx (HA.out.ext hx) (HB.out.ext hx) wa)
      have K5 := Lib.hid (fun v k wx (S : St w w.heap.size gp gq gx a b A B C D c1 c2 c3 c4 A' B' C' D' d1 d2 d3 d4 v k F X wx) => show Calls Tryz.prog 33 #[.agg #[.bool a.neg, .slice A' a.num.length d1, .slice B' a.den.length d2], .agg #[.bool b.neg, .slice C' b.num.length d3, .slice D' b.den.length d4]] wx (fun e w' => e = .returned (.bool rr) ∧ Ext wx w') from
        same_fr a b A' B' C' D' d1 d2 d3 d4 wx (own_pre S.oA rfl).rd (own_pre S.oB rfl).rd (own_pre S.oC rfl).rd (own_pre S.oD rfl).rd rr hrr.symm)
      have K6 := Lib.hid (fun wx (hx : Ext w wx) => show Calls Tryz.prog 34 #[.agg #[.bool a.neg, .slice A a.num.length c1, .slice B a.den.length c2], .agg #[.bool b.neg, .slice C b.num.length c3, .slice D b.den.length c4]] wx (fun e w' => e = .returned (.bool rr) ∧ Ext wx w') from
        gsame_fr a b A B C D c1 c2 c3 c4 wx (HA.out.ext hx) (HB.out.ext hx) (HC.out.ext hx) (HD.out.ext hx) rr hrr.symm)
      have K7 := Lib.hid (fun v k wx (S : St w w.heap.size gp gq gx a b A B C D c1 c2 c3 c4 A' B' C' D' d1 d2 d3 d4 v k F X wx) => show Calls Tryz.prog 33 #[.agg #[.bool a.neg, .slice A' a.num.length d1, .slice B' a.den.length d2], .agg #[.bool a.neg, .slice A' a.num.length d1, .slice B' a.den.length d2]] wx (fun e w' => e = .returned (.bool true) ∧ Ext wx w') from
        same_fr a a A' B' A' B' d1 d2 d1 d2 wx (own_pre S.oA rfl).rd (own_pre S.oB rfl).rd (own_pre S.oA rfl).rd (own_pre S.oB rfl).rd true (decide_eq_true rfl))
      clear hck hsg hrr
      have HXS := Lib.hid (show ∀ j, j < 2 * 8 → (X j).length ≤ 1000000 ∧ Wf (X j) from fun j hj => by
        have hs : ∀ i, i < 8 → Small (F i) := fun i hi => by
          match i, hi with
          | 0, _ => rw [Fv0.out, ht0]; exact both_small (fun _ _ => tell_small _)
          | 1, _ => rw [Fv1.out, ht1]; exact both_small (fun _ _ => tell_small _)
          | 2, _ => rw [Fv2.out, ht2]; exact both_small (fun _ _ => tell_small _)
          | 3, _ => rw [Fv3.out, ht3]; exact both_small (fun _ _ => by split; exact small_zero; exact tell_small _)
          | 4, _ => rw [Fv4.out, ht4]; exact fneg_small wa
          | 5, _ => rw [Fv5.out, htf]; exact ffloor_small wa
          | 6, _ => rw [Fv6.out]; exact ⟨⟨by omega, wa.num⟩, ⟨by omega, wa.den⟩⟩
          | 7, _ => rw [Fv7.out]; exact ⟨⟨by omega, wb.num⟩, ⟨by omega, wb.den⟩⟩
        obtain ⟨i, hi⟩ : ∃ i, j = 2 * i ∨ j = 2 * i + 1 := ⟨j / 2, by omega⟩
        rcases hi with rfl | rfl
        · rw [HXN.out]; exact (hs i (by omega)).1
        · rw [HXD.out]; exact (hs i (by omega)).2)
      have HTM := Lib.hid (And.intro ht0 (And.intro ht1 (And.intro ht2 (And.intro ht3 (And.intro ht4 (And.intro htc htf))))))
      have HGX := Lib.hid hgx
      clear ht0 ht1 ht2 ht3 ht4 htc htf hF hX hgx F1 HP HQ HRA HRB HRC HRD HXX lp lq hwx hww
      obtain ⟨p0, p1, p2⟩ := S0.out.cp
      obtain ⟨q0, q1, q2⟩ := S0.out.cq
      go_wp2_with fail
      clear p0 p1 p2 q0 q1 q2
      rw [← HGX.out]
      refine (P0.out _ _ _ S0.out).mono ?_; rintro e u0 ⟨A0, e0, B0, k0, rfl, o1, o2, ap, hx⟩
      have U0 := Lib.hid o1
      have V0 := Lib.hid o2
      have Z0 := Lib.hid ap
      have HXa0 := Lib.hid hx
      have Sa0 := Lib.hid (S0.out.lay hx)
      clear o1 o2 ap hx
      have s0 := fun ob => ((Sa0.out.lay ((Ext.refl _).alloc ob)).ca).1
      have s1 := fun ob => ((Sa0.out.lay ((Ext.refl _).alloc ob)).ca).2.1
      have s2 := fun ob => ((Sa0.out.lay ((Ext.refl _).alloc ob)).ca).2.2.1
      have s3 := fun ob => ((Sa0.out.lay ((Ext.refl _).alloc ob)).ca).2.2.2.1
      have s4 := fun ob => ((Sa0.out.lay ((Ext.refl _).alloc ob)).ca).2.2.2.2.1
      have s5 := fun ob => ((Sa0.out.lay ((Ext.refl _).alloc ob)).ca).2.2.2.2.2
      go_wp2_with fail
      clear s0 s1 s2 s3 s4 s5
      refine (G0.out _ ?hx).mono ?_
      case hx => exact (Sa0.out.lay ((Ext.refl _).alloc _)).ext
      rintro e w2 ⟨C0, i0, D0', j0, rfl, o1, o2, ap, hx⟩
      have RA := Lib.hid o1.rd
      have RB := Lib.hid o2.rd
      have VA := Lib.hid ((Var.new u0 [.bool t0.1.neg, .slice A0 t0.1.num.length e0, .slice B0 t0.1.den.length k0] 24).ext hx)
      have HXb := Lib.hid (((Ext.refl u0).alloc (.cells #[.bool t0.1.neg, .slice A0 t0.1.num.length e0, .slice B0 t0.1.den.length k0] 24)).trans hx)
      have HXc := Lib.hid (HXb.out.trans ((Ext.refl _).alloc (.cells #[.bool t0.1.neg, .slice C0 t0.1.num.length i0, .slice D0' t0.1.den.length j0] 24)))
      have Sb0 := Lib.hid (Sa0.out.lay HXc.out)
      clear o1 o2 ap hx
      have x0 := Sb0.out.x.at_ 0 _ rfl
      have x1 := Sb0.out.x.at_ 1 _ rfl
      have v0 := fun ob => (var_alloc (o := ob) VA.out).at_ 0 _ rfl
      have v1 := fun ob => (var_alloc (o := ob) VA.out).at_ 1 _ rfl
      have v2 := fun ob => (var_alloc (o := ob) VA.out).at_ 2 _ rfl
      go_wp2_with fail
      clear x0 x1 v0 v1 v2
      refine (S0.out.hears U0.out V0.out Z0.out HXa0.out HXc.out (RA.out.ext ((Ext.refl _).alloc _)) (RB.out.ext ((Ext.refl _).alloc _)) Fv0.out Nv0.out Dv0.out (by omega)).mono ?_
      rintro e y0 ⟨g0, m0, P', Q', rfl, hr, hg⟩
      have S1 : Hid (St w w.heap.size gp gq gx a b A B C D c1 c2 c3 c4 A' B' C' D' d1 d2 d3 d4 (.slice (some ⟨g0, 0, none⟩) 1 m0) 1 F X ((y0.setCell ⟨gx, 0, none⟩ (.slice (some ⟨g0, 0, none⟩) 1 m0)).setCell ⟨gx, 1, none⟩ (.bool true))) := Sb0.out.told L.out hr hg
      have VX := Sb0.out.var hg
      have x0 := VX.at_ 0 _ rfl
      have x1 := VX.at_ 1 _ rfl
      have f0 := VX.fr 0
      have f1 := VX.fr 1
      clear hr hg VX RA RB VA HXb HXc
      obtain ⟨p0, p1, p2⟩ := S1.out.cp
      obtain ⟨q0, q1, q2⟩ := S1.out.cq
      go_wp2_with fail
      clear p0 p1 p2 q0 q1 q2
      clear x0 x1 f0 f1
      refine (P1.out _ _ _ S1.out).mono ?_; rintro e u1 ⟨A1, e1, B1, k1, rfl, o1, o2, ap, hx⟩
      have U1 := Lib.hid o1
      have V1 := Lib.hid o2
      have Z1 := Lib.hid ap
      have HXa1 := Lib.hid hx
      have Sa1 := Lib.hid (S1.out.lay hx)
      clear o1 o2 ap hx
      have s0 := fun ob => ((Sa1.out.lay ((Ext.refl _).alloc ob)).ca).1
      have s1 := fun ob => ((Sa1.out.lay ((Ext.refl _).alloc ob)).ca).2.1
      have s2 := fun ob => ((Sa1.out.lay ((Ext.refl _).alloc ob)).ca).2.2.1
      have s3 := fun ob => ((Sa1.out.lay ((Ext.refl _).alloc ob)).ca).2.2.2.1
      have s4 := fun ob => ((Sa1.out.lay ((Ext.refl _).alloc ob)).ca).2.2.2.2.1
      have s5 := fun ob => ((Sa1.out.lay ((Ext.refl _).alloc ob)).ca).2.2.2.2.2
      go_wp2_with fail
      clear s0 s1 s2 s3 s4 s5
      refine (G1.out _ ?hx).mono ?_
      case hx => exact (Sa1.out.lay ((Ext.refl _).alloc _)).ext
      rintro e w3 ⟨C1, i1, D1', j1, rfl, o1, o2, ap, hx⟩
      have RA := Lib.hid o1.rd
      have RB := Lib.hid o2.rd
      have VA := Lib.hid ((Var.new u1 [.bool t1.1.neg, .slice A1 t1.1.num.length e1, .slice B1 t1.1.den.length k1] 24).ext hx)
      have HXb := Lib.hid (((Ext.refl u1).alloc (.cells #[.bool t1.1.neg, .slice A1 t1.1.num.length e1, .slice B1 t1.1.den.length k1] 24)).trans hx)
      have HXc := Lib.hid (HXb.out.trans ((Ext.refl _).alloc (.cells #[.bool t1.1.neg, .slice C1 t1.1.num.length i1, .slice D1' t1.1.den.length j1] 24)))
      have Sb1 := Lib.hid (Sa1.out.lay HXc.out)
      clear o1 o2 ap hx
      have x0 := Sb1.out.x.at_ 0 _ rfl
      have x1 := Sb1.out.x.at_ 1 _ rfl
      have v0 := fun ob => (var_alloc (o := ob) VA.out).at_ 0 _ rfl
      have v1 := fun ob => (var_alloc (o := ob) VA.out).at_ 1 _ rfl
      have v2 := fun ob => (var_alloc (o := ob) VA.out).at_ 2 _ rfl
      go_wp2_with fail
      clear x0 x1 v0 v1 v2
      refine (S1.out.hears U1.out V1.out Z1.out HXa1.out HXc.out (RA.out.ext ((Ext.refl _).alloc _)) (RB.out.ext ((Ext.refl _).alloc _)) Fv1.out Nv1.out Dv1.out (by omega)).mono ?_
      rintro e y1 ⟨g1, m1, P', Q', rfl, hr, hg⟩
      have S2 : Hid (St w w.heap.size gp gq gx a b A B C D c1 c2 c3 c4 A' B' C' D' d1 d2 d3 d4 (.slice (some ⟨g1, 0, none⟩) 2 m1) 2 F X ((y1.setCell ⟨gx, 0, none⟩ (.slice (some ⟨g1, 0, none⟩) 2 m1)).setCell ⟨gx, 1, none⟩ (.bool true))) := Sb1.out.told L.out hr hg
      have VX := Sb1.out.var hg
      have x0 := VX.at_ 0 _ rfl
      have x1 := VX.at_ 1 _ rfl
      have f0 := VX.fr 0
      have f1 := VX.fr 1
      clear hr hg VX RA RB VA HXb HXc
      obtain ⟨p0, p1, p2⟩ := S2.out.cp
      obtain ⟨q0, q1, q2⟩ := S2.out.cq
      go_wp2_with fail
      clear p0 p1 p2 q0 q1 q2
      clear x0 x1 f0 f1
      refine (P2.out _ _ _ S2.out).mono ?_; rintro e u2 ⟨A2, e2, B2, k2, rfl, o1, o2, ap, hx⟩
      have U2 := Lib.hid o1
      have V2 := Lib.hid o2
      have Z2 := Lib.hid ap
      have HXa2 := Lib.hid hx
      have Sa2 := Lib.hid (S2.out.lay hx)
      clear o1 o2 ap hx
      have s0 := fun ob => ((Sa2.out.lay ((Ext.refl _).alloc ob)).ca).1
      have s1 := fun ob => ((Sa2.out.lay ((Ext.refl _).alloc ob)).ca).2.1
      have s2 := fun ob => ((Sa2.out.lay ((Ext.refl _).alloc ob)).ca).2.2.1
      have s3 := fun ob => ((Sa2.out.lay ((Ext.refl _).alloc ob)).ca).2.2.2.1
      have s4 := fun ob => ((Sa2.out.lay ((Ext.refl _).alloc ob)).ca).2.2.2.2.1
      have s5 := fun ob => ((Sa2.out.lay ((Ext.refl _).alloc ob)).ca).2.2.2.2.2
      go_wp2_with fail
      clear s0 s1 s2 s3 s4 s5
      refine (G2.out _ ?hx).mono ?_
      case hx => exact (Sa2.out.lay ((Ext.refl _).alloc _)).ext
      rintro e w4 ⟨C2, i2, D2', j2, rfl, o1, o2, ap, hx⟩
      have RA := Lib.hid o1.rd
      have RB := Lib.hid o2.rd
      have VA := Lib.hid ((Var.new u2 [.bool t2.1.neg, .slice A2 t2.1.num.length e2, .slice B2 t2.1.den.length k2] 24).ext hx)
      have HXb := Lib.hid (((Ext.refl u2).alloc (.cells #[.bool t2.1.neg, .slice A2 t2.1.num.length e2, .slice B2 t2.1.den.length k2] 24)).trans hx)
      have HXc := Lib.hid (HXb.out.trans ((Ext.refl _).alloc (.cells #[.bool t2.1.neg, .slice C2 t2.1.num.length i2, .slice D2' t2.1.den.length j2] 24)))
      have Sb2 := Lib.hid (Sa2.out.lay HXc.out)
      clear o1 o2 ap hx
      have x0 := Sb2.out.x.at_ 0 _ rfl
      have x1 := Sb2.out.x.at_ 1 _ rfl
      have v0 := fun ob => (var_alloc (o := ob) VA.out).at_ 0 _ rfl
      have v1 := fun ob => (var_alloc (o := ob) VA.out).at_ 1 _ rfl
      have v2 := fun ob => (var_alloc (o := ob) VA.out).at_ 2 _ rfl
      go_wp2_with fail
      clear x0 x1 v0 v1 v2
      refine (S2.out.hears U2.out V2.out Z2.out HXa2.out HXc.out (RA.out.ext ((Ext.refl _).alloc _)) (RB.out.ext ((Ext.refl _).alloc _)) Fv2.out Nv2.out Dv2.out (by omega)).mono ?_
      rintro e y2 ⟨g2, m2, P', Q', rfl, hr, hg⟩
      have S3 : Hid (St w w.heap.size gp gq gx a b A B C D c1 c2 c3 c4 A' B' C' D' d1 d2 d3 d4 (.slice (some ⟨g2, 0, none⟩) 3 m2) 3 F X ((y2.setCell ⟨gx, 0, none⟩ (.slice (some ⟨g2, 0, none⟩) 3 m2)).setCell ⟨gx, 1, none⟩ (.bool true))) := Sb2.out.told L.out hr hg
      have VX := Sb2.out.var hg
      have x0 := VX.at_ 0 _ rfl
      have x1 := VX.at_ 1 _ rfl
      have f0 := VX.fr 0
      have f1 := VX.fr 1
      clear hr hg VX RA RB VA HXb HXc
      obtain ⟨p0, p1, p2⟩ := S3.out.cp
      obtain ⟨q0, q1, q2⟩ := S3.out.cq
      go_wp2_with fail
      clear p0 p1 p2 q0 q1 q2
      clear x0 x1 f0 f1
      refine (P3.out _ _ _ S3.out).mono ?_; rintro e u3 ⟨A3, e3, B3, k3, rfl, o1, o2, ap, hx⟩
      have U3 := Lib.hid o1
      have V3 := Lib.hid o2
      have Z3 := Lib.hid ap
      have HXa3 := Lib.hid hx
      have Sa3 := Lib.hid (S3.out.lay hx)
      clear o1 o2 ap hx
      have s0 := fun ob => ((Sa3.out.lay ((Ext.refl _).alloc ob)).ca).1
      have s1 := fun ob => ((Sa3.out.lay ((Ext.refl _).alloc ob)).ca).2.1
      have s2 := fun ob => ((Sa3.out.lay ((Ext.refl _).alloc ob)).ca).2.2.1
      have s3 := fun ob => ((Sa3.out.lay ((Ext.refl _).alloc ob)).ca).2.2.2.1
      have s4 := fun ob => ((Sa3.out.lay ((Ext.refl _).alloc ob)).ca).2.2.2.2.1
      have s5 := fun ob => ((Sa3.out.lay ((Ext.refl _).alloc ob)).ca).2.2.2.2.2
      go_wp2_with fail
      clear s0 s1 s2 s3 s4 s5
      refine (G3.out _ ?hx).mono ?_
      case hx => exact (Sa3.out.lay ((Ext.refl _).alloc _)).ext
      rintro e w5 ⟨C3, i3, D3', j3, rfl, o1, o2, ap, hx⟩
      have RA := Lib.hid o1.rd
      have RB := Lib.hid o2.rd
      have VA := Lib.hid ((Var.new u3 [.bool t3.1.neg, .slice A3 t3.1.num.length e3, .slice B3 t3.1.den.length k3] 24).ext hx)
      have HXb := Lib.hid (((Ext.refl u3).alloc (.cells #[.bool t3.1.neg, .slice A3 t3.1.num.length e3, .slice B3 t3.1.den.length k3] 24)).trans hx)
      have HXc := Lib.hid (HXb.out.trans ((Ext.refl _).alloc (.cells #[.bool t3.1.neg, .slice C3 t3.1.num.length i3, .slice D3' t3.1.den.length j3] 24)))
      have Sb3 := Lib.hid (Sa3.out.lay HXc.out)
      clear o1 o2 ap hx
      have x0 := Sb3.out.x.at_ 0 _ rfl
      have x1 := Sb3.out.x.at_ 1 _ rfl
      have v0 := fun ob => (var_alloc (o := ob) VA.out).at_ 0 _ rfl
      have v1 := fun ob => (var_alloc (o := ob) VA.out).at_ 1 _ rfl
      have v2 := fun ob => (var_alloc (o := ob) VA.out).at_ 2 _ rfl
      go_wp2_with fail
      clear x0 x1 v0 v1 v2
      refine (S3.out.hears U3.out V3.out Z3.out HXa3.out HXc.out (RA.out.ext ((Ext.refl _).alloc _)) (RB.out.ext ((Ext.refl _).alloc _)) Fv3.out Nv3.out Dv3.out (by omega)).mono ?_
      rintro e y3 ⟨g3, m3, P', Q', rfl, hr, hg⟩
      have S4 : Hid (St w w.heap.size gp gq gx a b A B C D c1 c2 c3 c4 A' B' C' D' d1 d2 d3 d4 (.slice (some ⟨g3, 0, none⟩) 4 m3) 4 F X ((y3.setCell ⟨gx, 0, none⟩ (.slice (some ⟨g3, 0, none⟩) 4 m3)).setCell ⟨gx, 1, none⟩ (.bool true))) := Sb3.out.told L.out hr hg
      have VX := Sb3.out.var hg
      have x0 := VX.at_ 0 _ rfl
      have x1 := VX.at_ 1 _ rfl
      have f0 := VX.fr 0
      have f1 := VX.fr 1
      clear hr hg VX RA RB VA HXb HXc
      obtain ⟨p0, p1, p2⟩ := S4.out.cp
      obtain ⟨q0, q1, q2⟩ := S4.out.cq
      go_wp2_with fail
      clear p0 p1 p2 q0 q1 q2
      clear x0 x1 f0 f1
      refine (P4.out _ _ _ S4.out).mono ?_; rintro e u4 ⟨A4, e4, B4, k4, rfl, o1, o2, ap, hx⟩
      have U4 := Lib.hid o1
      have V4 := Lib.hid o2
      have Z4 := Lib.hid ap
      have HXa4 := Lib.hid hx
      have Sa4 := Lib.hid (S4.out.lay hx)
      clear o1 o2 ap hx
      have s0 := fun ob => ((Sa4.out.lay ((Ext.refl _).alloc ob)).ca).1
      have s1 := fun ob => ((Sa4.out.lay ((Ext.refl _).alloc ob)).ca).2.1
      have s2 := fun ob => ((Sa4.out.lay ((Ext.refl _).alloc ob)).ca).2.2.1
      have s3 := fun ob => ((Sa4.out.lay ((Ext.refl _).alloc ob)).ca).2.2.2.1
      have s4 := fun ob => ((Sa4.out.lay ((Ext.refl _).alloc ob)).ca).2.2.2.2.1
      have s5 := fun ob => ((Sa4.out.lay ((Ext.refl _).alloc ob)).ca).2.2.2.2.2
      go_wp2_with fail
      clear s0 s1 s2 s3 s4 s5
      refine (G4.out _ ?hx).mono ?_
      case hx => exact (Sa4.out.lay ((Ext.refl _).alloc _)).ext
      rintro e w6 ⟨C4, i4, D4', j4, rfl, o1, o2, ap, hx⟩
      have RA := Lib.hid o1.rd
      have RB := Lib.hid o2.rd
      have VA := Lib.hid ((Var.new u4 [.bool t4.1.neg, .slice A4 t4.1.num.length e4, .slice B4 t4.1.den.length k4] 24).ext hx)
      have HXb := Lib.hid (((Ext.refl u4).alloc (.cells #[.bool t4.1.neg, .slice A4 t4.1.num.length e4, .slice B4 t4.1.den.length k4] 24)).trans hx)
      have HXc := Lib.hid (HXb.out.trans ((Ext.refl _).alloc (.cells #[.bool t4.1.neg, .slice C4 t4.1.num.length i4, .slice D4' t4.1.den.length j4] 24)))
      have Sb4 := Lib.hid (Sa4.out.lay HXc.out)
      clear o1 o2 ap hx
      have x0 := Sb4.out.x.at_ 0 _ rfl
      have x1 := Sb4.out.x.at_ 1 _ rfl
      have v0 := fun ob => (var_alloc (o := ob) VA.out).at_ 0 _ rfl
      have v1 := fun ob => (var_alloc (o := ob) VA.out).at_ 1 _ rfl
      have v2 := fun ob => (var_alloc (o := ob) VA.out).at_ 2 _ rfl
      go_wp2_with fail
      clear x0 x1 v0 v1 v2
      refine (S4.out.hears U4.out V4.out Z4.out HXa4.out HXc.out (RA.out.ext ((Ext.refl _).alloc _)) (RB.out.ext ((Ext.refl _).alloc _)) Fv4.out Nv4.out Dv4.out (by omega)).mono ?_
      rintro e y4 ⟨g4, m4, P', Q', rfl, hr, hg⟩
      have S5 : Hid (St w w.heap.size gp gq gx a b A B C D c1 c2 c3 c4 A' B' C' D' d1 d2 d3 d4 (.slice (some ⟨g4, 0, none⟩) 5 m4) 5 F X ((y4.setCell ⟨gx, 0, none⟩ (.slice (some ⟨g4, 0, none⟩) 5 m4)).setCell ⟨gx, 1, none⟩ (.bool true))) := Sb4.out.told L.out hr hg
      have VX := Sb4.out.var hg
      have x0 := VX.at_ 0 _ rfl
      have x1 := VX.at_ 1 _ rfl
      have f0 := VX.fr 0
      have f1 := VX.fr 1
      clear hr hg VX RA RB VA HXb HXc
      obtain ⟨p0, p1, p2⟩ := S5.out.cp
      obtain ⟨q0, q1, q2⟩ := S5.out.cq
      go_wp2_with fail
      clear p0 p1 p2 q0 q1 q2 x0 x1 f0 f1
      refine (PC.out _ _ _ S5.out).mono ?_; rintro e w7 ⟨rfl, hx⟩
      have S6 := Lib.hid (S5.out.lay hx)
      clear hx
      obtain ⟨s0, s1, s2, s3, s4, s5⟩ := S6.out.ca
      go_wp2_with fail
      clear s0 s1 s2 s3 s4 s5
      refine (GC.out _ S6.out.ext).mono ?_; rintro e w8 ⟨rfl, hx⟩
      have S7 := Lib.hid (S6.out.lay hx)
      clear hx
      obtain ⟨p0, p1, p2⟩ := S7.out.cp
      go_wp2_with fail
      clear p0 p1 p2
      refine (PF.out _ _ _ S7.out).mono ?_; rintro e w9 ⟨AF, cF, rfl, oF, hx⟩
      have OF := Lib.hid (oF.lower (show gx + 1 ≤ w8.heap.size from S7.out.x.lt))
      have HBF := Lib.hid (show ∀ x, AF = some x → w8.heap.size ≤ x.block from fun x e => by rw [e] at oF; exact oF.block.1)
      have S8 := Lib.hid (S7.out.lay hx)
      have HX79 := Lib.hid hx
      clear oF hx
      have s0 := fun ob => ((S8.out.lay ((Ext.refl _).alloc ob)).ca).1
      have s1 := fun ob => ((S8.out.lay ((Ext.refl _).alloc ob)).ca).2.1
      have s2 := fun ob => ((S8.out.lay ((Ext.refl _).alloc ob)).ca).2.2.1
      go_wp2_with fail
      clear s0 s1 s2
      refine (GF.out _ ?hx).mono ?_
      case hx => exact (S8.out.lay ((Ext.refl _).alloc _)).ext
      rintro e w10 ⟨AG, cG, rfl, oG, hy⟩
      have RG := Lib.hid oG.rd
      have VF := Lib.hid ((Var.new w9 [.bool tf.1, .slice AF tf.2.1.length cF] 38).ext hy)
      have HXb := Lib.hid (((Ext.refl w9).alloc (.cells #[.bool tf.1, .slice AF tf.2.1.length cF] 38)).trans hy)
      have HXc := Lib.hid (HXb.out.trans ((Ext.refl _).alloc (.cells #[.bool tf.1, .slice AG tf.2.1.length cG] 38)))
      have S9 := Lib.hid (S8.out.lay HXc.out)
      have VG : Hid (Var w10.heap.size [.bool tf.1, .slice AG tf.2.1.length cG] (w10.alloc (.cells #[.bool tf.1, .slice AG tf.2.1.length cG] 38))) := Var.new w10 [.bool tf.1, .slice AG tf.2.1.length cG] _
      have VF := Lib.hid (var_alloc (o := .cells #[.bool tf.1, .slice AG tf.2.1.length cG] 38) VF.out)
      clear oG hy
      have T0 := Lib.hid (S9.out.lay (Ext.refl _).drew)
      have hck : (ck == ck) = true := beq_self_eq_true _
      have hsg : (sg' == sg') = true := beq_self_eq_true _
      have hrr : (rr == rr) = true := beq_self_eq_true _
      go_wp2_with fail
      go_region_held3 (fun w' => w'.cell? ⟨gp, 0, none⟩ = some (.bool a.neg) ∧ w'.cell? ⟨gp, 1, none⟩ = some (.slice A' a.num.length d1) ∧ w'.cell? ⟨gp, 2, none⟩ = some (.slice B' a.den.length d2) ∧ w'.cell? ⟨gq, 0, none⟩ = some (.bool b.neg) ∧ w'.cell? ⟨gq, 1, none⟩ = some (.slice C' b.num.length d3) ∧ w'.cell? ⟨gq, 2, none⟩ = some (.slice D' b.den.length d4) ∧ w'.cell? ⟨w.heap.size, 0, none⟩ = some (.bool a.neg) ∧ w'.cell? ⟨w.heap.size, 1, none⟩ = some (.slice A a.num.length c1) ∧ w'.cell? ⟨w.heap.size, 2, none⟩ = some (.slice B a.den.length c2) ∧ w'.cell? ⟨w.heap.size + 1, 0, none⟩ = some (.bool b.neg) ∧ w'.cell? ⟨w.heap.size + 1, 1, none⟩ = some (.slice C b.num.length c3) ∧ w'.cell? ⟨w.heap.size + 1, 2, none⟩ = some (.slice D b.den.length c4)) (first | (with_reducible exact T0.out.twelve) | (with_reducible exact T1.out.twelve) | (with_reducible exact T2.out.twelve) | (with_reducible exact T3.out.twelve) | (with_reducible exact T4.out.twelve) | (with_reducible exact T5.out.twelve) | (with_reducible exact T6.out.twelve) | (with_reducible exact T7.out.twelve))
        (first
          | (go_at_call 29; ((with_reducible refine (K1.out _ _ _ T0.out).mono ?_)); rintro e z0 ⟨rfl, hx⟩; have T1 := Lib.hid (T0.out.lay hx); have Y0 := Lib.hid hx; clear hx)
          | (go_at_call 30; ((with_reducible refine (K2.out _ T1.out.ext).mono ?_)); rintro e z1 ⟨rfl, hx⟩; have T2 := Lib.hid (T1.out.lay hx); have Y1 := Lib.hid hx; clear hx)
          | (go_at_call 31; ((with_reducible refine (K3.out _ _ _ T2.out).mono ?_)); rintro e z2 ⟨rfl, hx⟩; have T3 := Lib.hid (T2.out.lay hx); have Y2 := Lib.hid hx; clear hx)
          | (go_at_call 32; ((with_reducible refine (K4.out _ T3.out.ext).mono ?_)); rintro e z3 ⟨rfl, hx⟩; have T4 := Lib.hid (T3.out.lay hx); have Y3 := Lib.hid hx; clear hx)
          | (go_at_call 33; ((with_reducible refine (K5.out _ _ _ T4.out).mono ?_)); rintro e z4 ⟨rfl, hx⟩; have T5 := Lib.hid (T4.out.lay hx); have Y4 := Lib.hid hx; clear hx)
          | (go_at_call 34; ((with_reducible refine (K6.out _ T5.out.ext).mono ?_)); rintro e z5 ⟨rfl, hx⟩; have T6 := Lib.hid (T5.out.lay hx); have Y5 := Lib.hid hx; clear hx)
          | (go_at_call 33; ((with_reducible refine (K7.out _ _ _ T6.out).mono ?_)); rintro e z6 ⟨rfl, hx⟩; have T7 := Lib.hid (T6.out.lay hx); have Y6 := Lib.hid hx; clear hx))
      all_goals
        have HY := Lib.hid ((Ext.refl _).drew.trans (Y0.out.trans (Y1.out.trans (Y2.out.trans (Y3.out.trans (Y4.out.trans (Y5.out.trans Y6.out)))))))
        have VF := Lib.hid (VF.out.ext HY.out)
        have VG := Lib.hid (VG.out.ext HY.out)
        have x1 := T7.out.x.at_ 1 _ rfl
        have v0 := VF.out.at_ 0 _ rfl
        have v1 := VF.out.at_ 1 _ rfl
        have g0' := VG.out.at_ 0 _ rfl
        have g1' := VG.out.at_ 1 _ rfl
        have hc1 : (tc.1 != tc.1) = false := bne_self_eq_false _
        have hc2 : (tc.2 != tc.2) = false := bne_self_eq_false _
        have hc3 : (tf.2.2 != tf.2.2) = false := bne_self_eq_false _
        go_wp2_with fail
        refine (ksameWh_any tf.1 AF AG tf.2.1 cF cG _ (OF.out.rd.ext ?hx1) (RG.out.ext ?hx2)).mono ?_
        case hx1 => exact HXc.out.trans HY.out
        case hx2 => exact ((Ext.refl _).alloc _).trans HY.out
        rintro e zs ⟨rfl, hx⟩
        have T8 := Lib.hid (T7.out.lay hx)
        have VF := Lib.hid (VF.out.ext hx)
        have HXs := Lib.hid (HX79.out.trans (HXc.out.trans (HY.out.trans hx)))
        have HXF := Lib.hid (HXc.out.trans (HY.out.trans hx))
        clear hx x1 v0 v1 g0' g1'
        obtain ⟨P0, Q0, hr0⟩ := S7.out.rows
        have HR0 := Lib.hid (hr0.ext (HXs.out.trans ((Ext.refl _).alloc (.cells #[.bool false, .slice AF tf.2.1.length cF, .slice none 0 0] 24))))
        have HP0 := Lib.hid (show ∀ j, j < 2 * 5 → ∀ x, P0 j = some x → x.block < w8.heap.size from fun j hj x e => by have h1 := hr0.own j hj; rw [e] at h1; exact h1.block.2)
        clear hr0
        have x0 := T8.out.x.at_ 0 _ rfl
        have v1 := VF.out.at_ 1 _ rfl
        have K0' := Lib.hid (show (zs.alloc (.cells #[.bool false, .slice AF tf.2.1.length cF, .slice none 0 0] 24)).cell? ((⟨zs.heap.size, 0, none⟩ : Addr).add 0) = some (.bool (F 5).neg) by rw [Fv5.out]; simp [go_sem, Addr.add])
        have K1' := Lib.hid (show (zs.alloc (.cells #[.bool false, .slice AF tf.2.1.length cF, .slice none 0 0] 24)).cell? ((⟨zs.heap.size, 0, none⟩ : Addr).add 1) = some (.slice AF (F 5).num.length cF) by rw [Fv5.out]; simp [go_sem, Addr.add])
        have K2' := Lib.hid (show (zs.alloc (.cells #[.bool false, .slice AF tf.2.1.length cF, .slice none 0 0] 24)).cell? ((⟨zs.heap.size, 0, none⟩ : Addr).add 2) = some (.slice none (F 5).den.length 0) by rw [Fv5.out]; simp [go_sem, Addr.add])
        have KA := Lib.hid (show Own (zs.alloc (.cells #[.bool false, .slice AF tf.2.1.length cF, .slice none 0 0] 24)) (gx + 1) AF cF (X (2 * 5)) by rw [Nv5.out]; exact OF.out.ext (HXF.out.trans ((Ext.refl _).alloc _)))
        have KB := Lib.hid (show Own (zs.alloc (.cells #[.bool false, .slice AF tf.2.1.length cF, .slice none 0 0] 24)) (gx + 1) none 0 (X (2 * 5 + 1)) by rw [Dv5.out]; exact Own.nil _ _)
        have KP := Lib.hid (show ∀ j, j < 2 * 5 → ∀ x y, P0 j = some x → AF = some y → x.block ≠ y.block from fun j hj x y e1 e2 => by have h1 := HP0.out j hj x e1; have h2 := HBF.out y e2; omega)
        have KZ := Lib.hid (show gx + 1 ≤ (zs.alloc (.cells #[.bool false, .slice AF tf.2.1.length cF, .slice none 0 0] 24)).heap.size from (T8.out.lay ((Ext.refl _).alloc _)).x.lt)
        have TL := Lib.hid (T8.out.lay ((Ext.refl _).alloc (.cells #[.bool false, .slice AF tf.2.1.length cF, .slice none 0 0] 24)))
        go_wp2_with (at_builtin; refine wpList_appT rfl _ _ rfl (gx + 1) (.slice (some ⟨g4, 0, none⟩) 5 m4) 5 P0 Q0 F X rfl HR0.out ⟨zs.heap.size, 0, none⟩ 1 rfl AF none cF 0 K0'.out K1'.out K2'.out KA.out KB.out (fun _ _ _ h => by cases h) KP.out (fun _ _ _ _ _ h => by cases h) (by omega) KZ.out ?_; intro g5 m5 P5 Q5 w5 hr hg hat hP'; have HR5 := Lib.hid hr; have S10 : Hid (St w w.heap.size gp gq gx a b A B C D c1 c2 c3 c4 A' B' C' D' d1 d2 d3 d4 (.slice (some ⟨g5, 0, none⟩) 6 m5) 6 F X (w5.setCell ⟨gx, 0, none⟩ (.slice (some ⟨g5, 0, none⟩) 6 m5))) := TL.out.told0 L.out hr hg; have VX := TL.out.var hg; clear hr hg hat hP' x0 v1; have x0 := VX.at_ 0 _ rfl; have f0 := VX.fr 0; clear VX; obtain ⟨p0, p1, p2⟩ := S10.out.cp; obtain ⟨s0, s1, s2, s3, s4, s5⟩ := S10.out.ca)
        go_wp2_with fail
        clear x0 f0 p0 p1 p2 s0 s1 s2 s3 s4 s5
        refine (kkeptR_any a A' B' A B d1 d2 c1 c2 _ S10.out.oA.rd S10.out.oB.rd (HA.out.ext S10.out.ext) (HB.out.ext S10.out.ext) (by omega) (by omega)).mono ?_; rintro e k1' ⟨rfl, hx⟩
        have S11 := Lib.hid (S10.out.lay hx)
        clear hx
        obtain ⟨q0, q1, q2⟩ := S11.out.cq
        obtain ⟨s0, s1, s2, s3, s4, s5⟩ := S11.out.ca
        go_wp2_with fail
        clear q0 q1 q2 s0 s1 s2 s3 s4 s5
        refine (kkeptR_any b C' D' C D d3 d4 c3 c4 _ S11.out.oC.rd S11.out.oD.rd (HC.out.ext S11.out.ext) (HD.out.ext S11.out.ext) (by omega) (by omega)).mono ?_; rintro e k2' ⟨rfl, hx⟩
        have S12 := Lib.hid (S11.out.lay hx)
        clear hx
        obtain ⟨P6, Q6, hr6⟩ := S12.out.rows
        obtain ⟨vs, hv1, hv2⟩ := hr6.row
        have HR6 := Lib.hid hr6
        have HV1 := Lib.hid hv1
        have HV2 := Lib.hid hv2
        clear hr6 hv1 hv2
        have x0 := S12.out.x.at_ 0 _ rfl
        obtain ⟨p0, p1, p2⟩ := S12.out.cp
        obtain ⟨q0, q1, q2⟩ := S12.out.cq
        have HVL := Lib.hid (ownsRow_ext HV1.out ((Ext.refl k2').alloc (.cells #[.bool a.neg, .slice A' a.num.length d1, .slice B' a.den.length d2, .bool b.neg, .slice C' b.num.length d3, .slice D' b.den.length d4] 24)))
        have HNW := Lib.hid (show ∀ j u, [.bool a.neg, .slice A' a.num.length d1, .slice B' a.den.length d2, .bool b.neg, .slice C' b.num.length d3, .slice D' b.den.length d4][j]? = some u → (k2'.alloc (.cells #[.bool a.neg, .slice A' a.num.length d1, .slice B' a.den.length d2, .bool b.neg, .slice C' b.num.length d3, .slice D' b.den.length d4] 24)).cell? ((⟨k2'.heap.size, 0, none⟩ : Addr).add j) = some u from fun j u hu => by rw [add_plain0]; exact (Var.new k2' [.bool a.neg, .slice A' a.num.length d1, .slice B' a.den.length d2, .bool b.neg, .slice C' b.num.length d3, .slice D' b.den.length d4] 24).at_ j u hu)
        have HON := Lib.hid (show ∀ u ∈ ([.bool a.neg, .slice A' a.num.length d1, .slice B' a.den.length d2, .bool b.neg, .slice C' b.num.length d3, .slice D' b.den.length d4] : List Value), u.oneCell' = true from by intro u hu; simp at hu; rcases hu with rfl | rfl | rfl | rfl | rfl | rfl <;> rfl)
        have KZ2 := Lib.hid (show gx + 1 ≤ (k2'.alloc (.cells #[.bool a.neg, .slice A' a.num.length d1, .slice B' a.den.length d2, .bool b.neg, .slice C' b.num.length d3, .slice D' b.den.length d4] 24)).heap.size from (S12.out.lay ((Ext.refl _).alloc _)).x.lt)
        go_wp2_with (at_builtin; refine wpList_appN rfl _ _ rfl (gx + 1) (.slice (some ⟨g5, 0, none⟩) 6 m5) 6 vs rfl HVL.out ⟨k2'.heap.size, 0, none⟩ 2 2 _ rfl rfl HNW.out HON.out (by omega) (by omega) KZ2.out ?_; intro v7 w7 hr7 hg7)
        have hvc : ∃ g' cap', v7 = .slice (some ⟨g', 0, none⟩) (6 + 2) cap' := by
          rcases hr7.2 with ⟨_, h2⟩ | ⟨g', cap', cur, h1, _⟩
          · omega
          · exact ⟨g', cap', h1⟩
        obtain ⟨g', cap', rfl⟩ := hvc
        have HSD := Lib.hid (tells_sides hr7 HV1.out.1 HV2.out HXN.out HXD.out Fv6.out Fv7.out)
        have HAPP := Lib.hid (tells_apart HR6.out HAP.out L.out.A L.out.B L.out.C L.out.D)
        have hge := HR6.out.ge
        have HE7 := Lib.hid (show Ext w w7 from (((S12.out.lay ((Ext.refl _).alloc (.cells #[.bool a.neg, .slice A' a.num.length d1, .slice B' a.den.length d2, .bool b.neg, .slice C' b.num.length d3, .slice D' b.den.length d4] 24))).ext).grown hg7 (fun k hk => by have h1 := hge k hk; have h2 := L.out.w; omega)))
        have hgw := L.out.w
        have keepO : ∀ {base : Nat} {Z : Option Addr} {d : Nat} {xs : List Int}, Own k2' base Z d xs → Own w7 base Z d xs := fun {base Z d xs} hO => Own.grown_row (hO.ext ((Ext.refl _).alloc (.cells #[.bool a.neg, .slice A' a.num.length d1, .slice B' a.den.length d2, .bool b.neg, .slice C' b.num.length d3, .slice D' b.den.length d4] 24))) hg7 HVL.out
        have o12 := Lib.hid (show Own w7 w.heap.size A' d1 (X 12) by rw [show X 12 = a.num from Nv6.out]; exact keepO (own_pre S12.out.oA rfl))
        have o13 := Lib.hid (show Own w7 w.heap.size B' d2 (X 13) by rw [show X 13 = a.den from Dv6.out]; exact keepO (own_pre S12.out.oB rfl))
        have o14 := Lib.hid (show Own w7 w.heap.size C' d3 (X 14) by rw [show X 14 = b.num from Nv7.out]; exact keepO (own_pre S12.out.oC rfl))
        have o15 := Lib.hid (show Own w7 w.heap.size D' d4 (X 15) by rw [show X 15 = b.den from Dv7.out]; exact keepO (own_pre S12.out.oD rfl))
        have HOW := Lib.hid (show ∀ j, j < 2 * 8 → Own w7 w.heap.size (At16 P6 A' B' C' D' j) (At16 Q6 d1 d2 d3 d4 j) (X j) from fun j hj => by
          by_cases h12 : j < 12
          · rw [at16_lt h12, at16_lt h12]; exact keepO ((HR6.out.own j (by omega)).lower (by omega))
          · have hj4 : j = 12 ∨ j = 13 ∨ j = 14 ∨ j = 15 := by omega
            rcases hj4 with rfl | rfl | rfl | rfl
            · exact o12.out
            · exact o13.out
            · exact o14.out
            · exact o15.out)
        clear hr7 hg7 hge x0 p0 p1 p2 q0 q1 q2 keepO
        go_wp2_with fail
        refine (kapartR_any w w7 g' 0 8 cap' (At16 P6 A' B' C' D') (At16 Q6 d1 d2 d3 d4) X HSD.out HE7.out (by omega) (by omega) HOW.out HAPP.out HXS.out).mono ?_
        rintro e w9' ⟨rfl, hx⟩
        have HXE := Lib.hid hx
        clear hx
        go_wp2_with fail
        go_ret
        exact ⟨rfl, HXE.out⟩

end Go.Proofs.YtifonmdcicegdaaGreat

