/- Texts of this claim, joined: D2 D3. -/
import Derived.Test.YtemlaompalbgiaaGreatDoorQs
set_option linter.unusedVariables false
set_option linter.unusedSimpArgs false
set_option maxRecDepth 100000
namespace Go.Proofs.YtemlaompalbgiaaGreatDoor
open Go Go.RowKit Go.Maps
structure TdC (gr o n : Nat) (nms : Nat → ByteArray) (fa ne : Nat → Int) (vb : Nat → Nat → Bool) (va : Nat → Nat → Option Addr) (vl vc : Nat → Nat → Nat) (w : World) : Prop where
  c0 : ∀ j, j < n → w.cell? ⟨gr, o + j * 9, none⟩ = some (.string (nms j))
  c1 : ∀ j, j < n → w.cell? ⟨gr, o + j * 9 + 1, none⟩ = some (.int .i32 (fa j))
  c2 : ∀ j, j < n → w.cell? ⟨gr, o + j * 9 + 2, none⟩ = some (.int .i32 (ne j))
  c3 : ∀ j, j < n → w.cell? ⟨gr, o + j * 9 + 3, none⟩ = some (.bool (vb j 0))
  c4 : ∀ j, j < n → w.cell? ⟨gr, o + j * 9 + 4, none⟩ = some (.slice (va j 0) (vl j 0) (vc j 0))
  c5 : ∀ j, j < n → w.cell? ⟨gr, o + j * 9 + 5, none⟩ = some (.slice (va j 1) (vl j 1) (vc j 1))
  c6 : ∀ j, j < n → w.cell? ⟨gr, o + j * 9 + 6, none⟩ = some (.bool (vb j 1))
  c7 : ∀ j, j < n → w.cell? ⟨gr, o + j * 9 + 7, none⟩ = some (.slice (va j 2) (vl j 2) (vc j 2))
  c8 : ∀ j, j < n → w.cell? ⟨gr, o + j * 9 + 8, none⟩ = some (.slice (va j 3) (vl j 3) (vc j 3))
theorem TdC.ext {gr o n : Nat} {nms : Nat → ByteArray} {fa ne : Nat → Int} {vb : Nat → Nat → Bool} {va : Nat → Nat → Option Addr} {vl vc : Nat → Nat → Nat} {w w' : World} (h : TdC gr o n nms fa ne vb va vl vc w) (e : Ext w w') : TdC gr o n nms fa ne vb va vl vc w' :=
  ⟨fun j hj => e.cell (h.c0 j hj), fun j hj => e.cell (h.c1 j hj), fun j hj => e.cell (h.c2 j hj), fun j hj => e.cell (h.c3 j hj), fun j hj => e.cell (h.c4 j hj), fun j hj => e.cell (h.c5 j hj), fun j hj => e.cell (h.c6 j hj), fun j hj => e.cell (h.c7 j hj), fun j hj => e.cell (h.c8 j hj)⟩
def TdA (A : Option Addr) (n : Nat) (nms : Nat → ByteArray) (fa ne : Nat → Int) (vb : Nat → Nat → Bool) (va : Nat → Nat → Option Addr) (vl vc : Nat → Nat → Nat) (w : World) : Prop := (∀ j, j < n → ∃ gr o, A = some ⟨gr, o, none⟩) ∧ ∀ gr o, A = some ⟨gr, o, none⟩ → TdC gr o n nms fa ne vb va vl vc w
theorem zero_un (w : World) : (zeroValue 173).run Tryz.prog w = .ok (.agg #[]) w := by kernel_rfl
set_option maxRecDepth 4000 in
set_option maxHeartbeats 2000000 in
theorem pchk_any (nm : ByteArray) (mb : Bool) (M1 M2 : Option Addr) (l1 k1 l2 k2 : Nat) (TA : Option Addr) (n tc : Nat) (nms : Nat → ByteArray) (fa ne : Nat → Int) (vb : Nat → Nat → Bool) (va : Nat → Nat → Option Addr) (vl vc : Nat → Nat → Nat) (kl : Nat → Lit) (okN : Bool) (eM : Int) (eT : Nat → Int) (w : World)
    (hA : TdA TA n nms fa ne vb va vl vc w) (hs : ∀ j, j < n → (nms j).size ≤ maxLen) (hk : ∀ j, j < n → keyOf Tryz.prog 35 (.agg #[.int .i32 (fa j), .int .i32 (ne j)]) = some (kl j))
    (hN : ∀ w', Ext w w' → Calls Tryz.prog 46 #[.string nm] w' fun e w'' => e = .returned (.bool okN) ∧ Ext w' w'')
    (hM : ∀ w', Ext w w' → Calls Tryz.prog 58 #[.agg #[.bool mb, .slice M1 l1 k1, .slice M2 l2 k2]] w' fun e w'' => e = .returned (.int .i64 eM) ∧ Ext w' w'')
    (hT : ∀ i, i < n → ∀ w', Ext w w' → Calls Tryz.prog 47 #[.agg #[.string (nms i), .int .i32 (fa i), .int .i32 (ne i), .bool (vb i 0), .slice (va i 0) (vl i 0) (vc i 0), .slice (va i 1) (vl i 1) (vc i 1), .bool (vb i 1), .slice (va i 2) (vl i 2) (vc i 2), .slice (va i 3) (vl i 3) (vc i 3)]] w' fun e w'' => e = .returned (.int .i64 (eT i)) ∧ Ext w' w'')
    (r : Int × Int) (hr : pcS okN eM n eT (fun i => inN nms i || inR fa ne i) = r) :
    Calls Tryz.prog 71 #[.agg #[.string nm, .bool mb, .slice M1 l1 k1, .slice M2 l2 k2, .slice TA n tc]] w fun e w' => e = .returned (.agg #[.int .i64 r.1, .int .i64 r.2]) ∧ Ext w w' := by
  have HA := Lib.hid hA
  have HS := Lib.hid hs
  have HK := Lib.hid hk
  have HN := Lib.hid hN
  have HM := Lib.hid hM
  have HT := Lib.hid hT
  have HR := Lib.hid hr
  clear hA hs hk hN hM hT hr
  have hmm := @run_makeMap Tryz.prog
  go_enter Tryz.func71, Tryz.ntmps71
  go_wp2_with fail
  obtain ⟨W, hW⟩ : ∃ W, W = ((w.alloc (.cells #[.string nm, .bool mb, .slice M1 l1 k1, .slice M2 l2 k2, .slice TA n tc] 27)).alloc (.cells #[.int .i64 0, .int .i64 0] 58)) := ⟨_, rfl⟩
  have HXW : Hid (Ext w W) := by rw [hW]; exact ((Ext.refl w).alloc _).alloc _
  have HZ : Hid (W.heap.size = w.heap.size + 2) := by rw [hW]; unfold Hid; simp
  obtain ⟨B, hB⟩ : ∃ B, B = w.heap.size := ⟨_, rfl⟩
  have HP : Hid (W.cell? ⟨B, 1, none⟩ = some (.bool mb) ∧ W.cell? ⟨B, 2, none⟩ = some (.slice M1 l1 k1) ∧ W.cell? ⟨B, 3, none⟩ = some (.slice M2 l2 k2) ∧ W.cell? ⟨B, 4, none⟩ = some (.slice TA n tc)) := by
    rw [hW, hB]; unfold Hid; refine ⟨?_, ?_, ?_, ?_⟩ <;> simp [go_sem]
  have HQ : Hid (W.cell? ⟨B + 1, 0, none⟩ = some (.int .i64 0) ∧ W.cell? ⟨B + 1, 1, none⟩ = some (.int .i64 0) ∧ ∀ o, W.frozen? ⟨B + 1, o, none⟩ = false) := by
    rw [hW, hB]; unfold Hid; refine ⟨?_, ?_, fun o => ?_⟩ <;> simp [go_sem]
  have HBz : Hid (w.heap.size ≤ B + 1 ∧ B + 1 < W.heap.size) := by rw [HZ.out, hB]; unfold Hid; omega
  rw [← hW, ← hB]
  clear hW hB
  refine (HN.out _ HXW.out).mono ?_; rintro e w1 ⟨rfl, hx⟩
  have HX1 := Lib.hid hx
  clear hx
  cases hok : okN with
  | false =>
    have HR2 := Lib.hid (show ((4, -1) : Int × Int) = r by rw [← HR.out]; unfold pcS; rw [hok]; rfl)
    clear HR
    obtain ⟨q0, q1, f0⟩ := HQ.out
    have q0 := HX1.out.cell q0
    have q1 := HX1.out.cell q1
    go_wp2_with fail
    refine (pat_any 4 (-1) _).mono ?_; rintro e wf ⟨rfl, hx⟩
    have HXf := Lib.hid (HX1.out.trans hx)
    have q2 := hx.cell q0
    have q3 := hx.cell q1
    have f2 := fun o => (Below.frozen (p := ⟨B + 1, o, none⟩) HXf.out (by have := HBz.out; simp only; omega)).trans (f0 o)
    clear hx q0 q1 f0
    go_wp2_with fail
    exact bodyPost_ret (v := .agg #[.int .i64 4, .int .i64 (-1)]) (by simp [results, Tryz.results71, go_sem, q2, q3]) rfl ⟨by rw [← HR2.out], by repeat (first | (with_reducible exact HXW.out.trans HXf.out) | refine Ext.setCell ?_ (by have := HBz.out; simp only; omega) _)⟩
  | true =>
    obtain ⟨p1, p2, p3, p4⟩ := HP.out
    have p1 := HX1.out.cell p1
    have p2 := HX1.out.cell p2
    have p3 := HX1.out.cell p3
    have HR1 : Hid ((if eM ≠ 0 then (eM, -1) else if 24 < n then ((3, -1) : Int × Int) else pcF eT (fun i => inN nms i || inR fa ne i) 0 n) = r) := by rw [← HR.out]; unfold pcS; rw [hok]; rfl
    clear HR
    go_wp2_with fail
    refine (HM.out _ (HXW.out.trans HX1.out)).mono ?_; rintro e w2 ⟨rfl, hx⟩
    have HX2 := Lib.hid (HX1.out.trans hx)
    clear hx p1 p2 p3 p4
    by_cases hem : eM ≠ 0
    · have HR2 := Lib.hid (show ((eM, -1) : Int × Int) = r by rw [← HR1.out, if_pos hem])
      have hbn : (eM != 0) = true := bne_iff_ne.2 hem
      clear HR1 hem
      obtain ⟨q0, q1, f0⟩ := HQ.out
      have q0 := HX2.out.cell q0
      have q1 := HX2.out.cell q1
      go_wp2_with fail
      refine (pat_any eM (-1) _).mono ?_; rintro e wf ⟨rfl, hx⟩
      have HXf := Lib.hid (HX2.out.trans hx)
      have q2 := hx.cell q0
      have q3 := hx.cell q1
      have f2 := fun o => (Below.frozen (p := ⟨B + 1, o, none⟩) HXf.out (by have := HBz.out; simp only; omega)).trans (f0 o)
      clear hx q0 q1 f0
      go_wp2_with fail
      exact bodyPost_ret (v := .agg #[.int .i64 eM, .int .i64 (-1)]) (by simp [results, Tryz.results71, go_sem, q2, q3]) rfl ⟨by rw [← HR2.out], by repeat (first | (with_reducible exact HXW.out.trans HXf.out) | refine Ext.setCell ?_ (by have := HBz.out; simp only; omega) _)⟩
    · have HR3 : Hid ((if 24 < n then ((3, -1) : Int × Int) else pcF eT (fun i => inN nms i || inR fa ne i) 0 n) = r) := by rw [← HR1.out, if_neg hem]; rfl
      have hbn : (eM != 0) = false := bne_eq_false_iff_eq.2 (by simpa using hem)
      clear HR1 hem
      obtain ⟨p1, p2, p3, p4⟩ := HP.out
      have p4 := HX2.out.cell p4
      clear p1 p2 p3
      by_cases hn : 24 < n
      · have HR2 := Lib.hid (show ((3, -1) : Int × Int) = r by rw [← HR3.out, if_pos hn])
        clear HR3
        obtain ⟨q0, q1, f0⟩ := HQ.out
        have q0 := HX2.out.cell q0
        have q1 := HX2.out.cell q1
        go_wp2_with fail
        refine (pat_any 3 (-1) _).mono ?_; rintro e wf ⟨rfl, hx⟩
        have HXf := Lib.hid (HX2.out.trans hx)
        have q2 := hx.cell q0
        have q3 := hx.cell q1
        have f2 := fun o => (Below.frozen (p := ⟨B + 1, o, none⟩) HXf.out (by have := HBz.out; simp only; omega)).trans (f0 o)
        clear hx q0 q1 f0
        go_wp2_with fail
        exact bodyPost_ret (v := .agg #[.int .i64 3, .int .i64 (-1)]) (by simp [results, Tryz.results71, go_sem, q2, q3]) rfl ⟨by rw [← HR2.out], by repeat (first | (with_reducible exact HXW.out.trans HXf.out) | refine Ext.setCell ?_ (by have := HBz.out; simp only; omega) _)⟩
      · have HR4 : Hid (pcF eT (fun i => inN nms i || inR fa ne i) 0 n = r) := by rw [← HR3.out, if_neg hn]; rfl
        clear HR3
        have p5 := fun o1 o2 => (((Ext.refl w2).alloc o1).alloc o2).cell p4
        have T0 : TwoM ((w2.alloc (.map #[] 0)).alloc (.map #[] 0)) w2.heap.size (w2.heap.size + 1) 0 (Maps.setOf unitD (nmL nms 0)) (Maps.setOf unitD (klL kl 0)) := by
          refine ⟨(World.ownsMap_made w2 _ _ _).alloc _, ?_, by omega⟩
          have := World.ownsMap_made (w2.alloc (.map #[] 0)) Tryz.prog 35 (unitElem (H := Unit))
          rw [World.size_alloc] at this
          exact this
        have HT0 := Lib.hid T0
        have HX3 := Lib.hid ((HX2.out.alloc (.map #[] 0)).alloc (.map #[] 0))
        have Hb : Hid (W.heap.size ≤ w2.heap.size) := HX2.out.size
        clear T0
        go_wp2_with fail
        obtain ⟨b1, hb1⟩ : ∃ b, b = w2.heap.size := ⟨_, rfl⟩
        rw [← hb1] at HT0 Hb
        rw [← hb1]
        obtain ⟨W3, hW3⟩ : ∃ W3, W3 = (w2.alloc (.map #[] 0)).alloc (.map #[] 0) := ⟨_, rfl⟩
        rw [← hW3] at HT0 HX3
        rw [← hW3]
        clear hW3 hb1 p4 p5 HX2 HX1
        go_loopw [35] (fun s wr => ∃ k : Nat, k ≤ n ∧ s = .int .i64 k ∧ Hid (pcF eT (fun i => inN nms i || inR fa ne i) k (n - k) = r) ∧ Hid (TwoM wr b1 (b1 + 1) k (Maps.setOf unitD (nmL nms k)) (Maps.setOf unitD (klL kl k))) ∧ Hid (Ext W wr)) (fun s _ => n - (intOf s).toNat)
        case atStart => exact ⟨0, by omega, rfl, HR4.out, HT0.out, HX3.out⟩
        case round =>
          obtain ⟨k, hk, rfl, HF, HW, HX⟩ := hrel
          clear HR4 HT0 HX3 w1 w2 W3
          by_cases hkn : k < n
          · obtain ⟨gr, o, rfl⟩ := HA.out.1 k hkn
            have HC := Lib.hid (HA.out.2 gr o rfl)
            have hC := HC.out.ext (HXW.out.trans HX.out)
            have e0 := hC.c0 k hkn
            have e1 := hC.c1 k hkn
            have e2 := hC.c2 k hkn
            have e3 := hC.c3 k hkn
            have e4 := hC.c4 k hkn
            have e5 := hC.c5 k hkn
            have e6 := hC.c6 k hkn
            have e7 := hC.c7 k hkn
            have e8 := hC.c8 k hkn
            clear hC HC
            obtain ⟨d, hd⟩ : ∃ d, n - k = d + 1 := ⟨n - k - 1, by omega⟩
            have HD := Lib.hid (show n - (k + 1) = d by omega)
            have HF2 := Lib.hid (hd ▸ HF.out)
            clear hd HF
            have HC0 : Hid (Ext W (wr.alloc (.cells #[.string (nms k), .int .i32 (fa k), .int .i32 (ne k), .bool (vb k 0), .slice (va k 0) (vl k 0) (vc k 0), .slice (va k 1) (vl k 1) (vc k 1), .bool (vb k 1), .slice (va k 2) (vl k 2) (vc k 2), .slice (va k 3) (vl k 3) (vc k 3)] 37))) := HX.out.alloc _
            have HW0 := Lib.hid (HW.out.ext ((Ext.refl wr).alloc (.cells #[.string (nms k), .int .i32 (fa k), .int .i32 (ne k), .bool (vb k 0), .slice (va k 0) (vl k 0) (vc k 0), .slice (va k 1) (vl k 1) (vc k 1), .bool (vb k 1), .slice (va k 2) (vl k 2) (vc k 2), .slice (va k 3) (vl k 3) (vc k 3)] 37)))
            have HL0 : Hid ((wr.alloc (.cells #[.string (nms k), .int .i32 (fa k), .int .i32 (ne k), .bool (vb k 0), .slice (va k 0) (vl k 0) (vc k 0), .slice (va k 1) (vl k 1) (vc k 1), .bool (vb k 1), .slice (va k 2) (vl k 2) (vc k 2), .slice (va k 3) (vl k 3) (vc k 3)] 37)).cell? ⟨wr.heap.size, 0, none⟩ = some (.string (nms k)) ∧ (wr.alloc (.cells #[.string (nms k), .int .i32 (fa k), .int .i32 (ne k), .bool (vb k 0), .slice (va k 0) (vl k 0) (vc k 0), .slice (va k 1) (vl k 1) (vc k 1), .bool (vb k 1), .slice (va k 2) (vl k 2) (vc k 2), .slice (va k 3) (vl k 3) (vc k 3)] 37)).cell? ⟨wr.heap.size, 1, none⟩ = some (.int .i32 (fa k)) ∧ (wr.alloc (.cells #[.string (nms k), .int .i32 (fa k), .int .i32 (ne k), .bool (vb k 0), .slice (va k 0) (vl k 0) (vc k 0), .slice (va k 1) (vl k 1) (vc k 1), .bool (vb k 1), .slice (va k 2) (vl k 2) (vc k 2), .slice (va k 3) (vl k 3) (vc k 3)] 37)).cell? ⟨wr.heap.size, 2, none⟩ = some (.int .i32 (ne k))) := by
              unfold Hid; refine ⟨?_, ?_, ?_⟩ <;> simp [go_sem]
            go_wp2_with fail
            refine (HT.out k hkn _ (HXW.out.trans HC0.out)).mono ?_; rintro e w4 ⟨rfl, hx⟩
            clear e0 e1 e2 e3 e4 e5 e6 e7 e8
            have HX4 := Lib.hid (HC0.out.trans hx)
            have HW4 := Lib.hid (HW0.out.ext hx)
            obtain ⟨s0, s1, s2⟩ := HL0.out
            have t0 := hx.cell s0
            have t1 := hx.cell s1
            have t2 := hx.cell s2
            clear s0 s1 s2
            have HB7 : Hid (wr.heap.size < w4.heap.size) := by have := hx.size; rw [World.size_alloc] at this; unfold Hid; omega
            obtain ⟨b7, hb7⟩ : ∃ b, b = wr.heap.size := ⟨_, rfl⟩
            have HBn : Hid (b1 + 1 < wr.heap.size) := own_lt HW.out.r
            rw [← hb7] at t0 t1 t2 HB7 HBn
            rw [← hb7]
            clear hx hb7 HC0 HW0 HL0 HX HW
            by_cases he : eT k ≠ 0
            · have HR2 := Lib.hid (show (eT k, (k : Int)) = r by rw [← HF2.out, pcF_bad he])
              have hbk : (eT k != 0) = true := bne_iff_ne.2 he
              clear HF2 he
              obtain ⟨q0, q1, f0⟩ := HQ.out
              have q0 := HX4.out.cell q0
              have q1 := HX4.out.cell q1
              go_wp2_with fail
              refine (pat_any (eT k) k _).mono ?_; rintro e wf ⟨rfl, hx⟩
              have HXf := Lib.hid (HX4.out.trans hx)
              have q2 := hx.cell q0
              have q3 := hx.cell q1
              have f2 := fun o => (Below.frozen (p := ⟨B + 1, o, none⟩) HXf.out (by have := HBz.out; simp only; omega)).trans (f0 o)
              clear hx q0 q1 f0
              go_wp2_with fail
              exact bodyPost_ret (v := .agg #[.int .i64 (eT k), .int .i64 k]) (by simp [results, Tryz.results71, go_sem, q2, q3]) rfl ⟨by rw [← HR2.out], by repeat (first | (with_reducible exact HXW.out.trans HXf.out) | refine Ext.setCell ?_ (by have := HBz.out; simp only; omega) _)⟩
            · have hbk : (eT k != 0) = false := bne_eq_false_iff_eq.2 (by simpa using he)
              have HE0 := Lib.hid (show eT k = 0 by simpa using he)
              clear he
              have key1 : keyOf Tryz.prog 9 (.string (nms k)) = some (.string (nms k).data.toList) := WideMaps.keyOf_string_mk Tryz.underlying9 (HS.out k hkn)
              have key2 := HK.out k hkn
              have HM1 := Lib.hid (nm_has nms k)
              have HM2 := Lib.hid (kl_has rot_law fa ne kl n k HK.out hkn)
              have v0 := fun o => ((Ext.refl w4).alloc o).cell t0
              have v1 := fun o => ((Ext.refl w4).alloc o).cell t1
              have v2 := fun o => ((Ext.refl w4).alloc o).cell t2
              cases h1 : inN nms k with
              | true =>
                have HR2 := Lib.hid (show ((5, (k : Int)) : Int × Int) = r by rw [← HF2.out, pcF_dup HE0.out (by rw [h1]; rfl)])
                have m1 := HM1.out.trans h1
                have HX5 := Lib.hid ((HX4.out.alloc (.cells #[] 173)).alloc (.cells #[] 173))
                clear HF2 HM1 HM2
                go_wp2_with (first
                  | (at_lookup; refine wpList_lookup_own_unit _ rfl _ _ 171 rfl 9 173 str_law Tryz.underlying171 (zero_un _) b1 k _ rfl HW4.out.s _ _ rfl key1 ?_)
                  | (at_lookup; refine wpList_lookup_own_unit _ rfl _ _ 172 rfl 35 173 rot_law Tryz.underlying172 (zero_un _) (b1 + 1) k _ rfl (HW4.out.r.alloc _) _ _ rfl key2 ?_)
                  | fail)
                obtain ⟨q0, q1, f0⟩ := HQ.out
                have q0 := HX5.out.cell q0
                have q1 := HX5.out.cell q1
                go_wp2_with fail
                refine (pat_any 5 k _).mono ?_; rintro e wf ⟨rfl, hx⟩
                have HXf := Lib.hid (HX5.out.trans hx)
                have q2 := hx.cell q0
                have q3 := hx.cell q1
                have f2 := fun o => (Below.frozen (p := ⟨B + 1, o, none⟩) HXf.out (by have := HBz.out; simp only; omega)).trans (f0 o)
                clear hx q0 q1 f0
                go_wp2_with fail
                exact bodyPost_ret (v := .agg #[.int .i64 5, .int .i64 k]) (by simp [results, Tryz.results71, go_sem, q2, q3]) rfl ⟨by rw [← HR2.out], by repeat (first | (with_reducible exact HXW.out.trans HXf.out) | refine Ext.setCell ?_ (by have := HBz.out; simp only; omega) _)⟩
              | false =>
                have m1 := HM1.out.trans h1
                have HX5 := Lib.hid ((HX4.out.alloc (.cells #[] 173)).alloc (.cells #[] 173))
                cases h2 : inR fa ne k with
                | true =>
                  have HR2 := Lib.hid (show ((5, (k : Int)) : Int × Int) = r by rw [← HF2.out, pcF_dup HE0.out (by rw [h1, h2]; rfl)])
                  have m2 := HM2.out.trans h2
                  clear HF2 HM1 HM2
                  go_wp2_with (first
                    | (at_lookup; refine wpList_lookup_own_unit _ rfl _ _ 171 rfl 9 173 str_law Tryz.underlying171 (zero_un _) b1 k _ rfl HW4.out.s _ _ rfl key1 ?_)
                    | (at_lookup; refine wpList_lookup_own_unit _ rfl _ _ 172 rfl 35 173 rot_law Tryz.underlying172 (zero_un _) (b1 + 1) k _ rfl (HW4.out.r.alloc _) _ _ rfl key2 ?_)
                    | fail)
                  obtain ⟨q0, q1, f0⟩ := HQ.out
                  have q0 := HX5.out.cell q0
                  have q1 := HX5.out.cell q1
                  go_wp2_with fail
                  refine (pat_any 5 k _).mono ?_; rintro e wf ⟨rfl, hx⟩
                  have HXf := Lib.hid (HX5.out.trans hx)
                  have q2 := hx.cell q0
                  have q3 := hx.cell q1
                  have f2 := fun o => (Below.frozen (p := ⟨B + 1, o, none⟩) HXf.out (by have := HBz.out; simp only; omega)).trans (f0 o)
                  clear hx q0 q1 f0
                  go_wp2_with fail
                  exact bodyPost_ret (v := .agg #[.int .i64 5, .int .i64 k]) (by simp [results, Tryz.results71, go_sem, q2, q3]) rfl ⟨by rw [← HR2.out], by repeat (first | (with_reducible exact HXW.out.trans HXf.out) | refine Ext.setCell ?_ (by have := HBz.out; simp only; omega) _)⟩
                | false =>
                  have HF3 := Lib.hid (HF2.out.symm.trans (pcF_next HE0.out (by rw [h1, h2]; rfl))).symm
                  have m2 := HM2.out.trans h2
                  clear HM1 HM2
                  go_wp2_with (first
                    | (at_lookup; refine wpList_lookup_own_unit _ rfl _ _ 171 rfl 9 173 str_law Tryz.underlying171 (zero_un _) b1 k _ rfl HW4.out.s _ _ rfl key1 ?_)
                    | (at_lookup; refine wpList_lookup_own_unit _ rfl _ _ 172 rfl 35 173 rot_law Tryz.underlying172 (zero_un _) (b1 + 1) k _ rfl (HW4.out.r.alloc _) _ _ rfl key2 ?_)
                    | fail)
                  have HW5 := Lib.hid (HW4.out.ext (((Ext.refl w4).alloc (.cells #[] 173)).alloc (.cells #[] 173)))
                  have HB9 : Hid (b7 < ((w4.alloc (.cells #[] 173)).alloc (.cells #[] 173)).heap.size) := by rw [World.size_alloc, World.size_alloc]; have := HB7.out; unfold Hid; omega
                  have u0 := (((Ext.refl w4).alloc (.cells #[] 173)).alloc (.cells #[] 173)).cell t0
                  have u1 := (((Ext.refl w4).alloc (.cells #[] 173)).alloc (.cells #[] 173)).cell t1
                  have u2 := (((Ext.refl w4).alloc (.cells #[] 173)).alloc (.cells #[] 173)).cell t2
                  obtain ⟨W5, hW5⟩ : ∃ W5, W5 = (w4.alloc (.cells #[] 173)).alloc (.cells #[] 173) := ⟨_, rfl⟩
                  rw [← hW5] at HX5 HW5 HB9 u0 u1 u2
                  rw [← hW5]
                  clear hW5 v0 v1 v2 t0 t1 t2 HX4 HW4 HB7
                  have F1 : C3 W5.drew b7 (nms k) (fa k) (ne k) := ⟨u0, u1, u2⟩
                  have hb5 := own_lt HW5.out.r
                  have P1 := own_at (w' := W5.drew) HW5.out.s rfl
                  have P2 := own_at (w' := W5.drew) HW5.out.r rfl
                  have hn1 := HBn.out
                  obtain ⟨w6, r6, P3, g6⟩ := P1.update str_law Tryz.underlying171 (by unfold maxLen; omega) key1 unitElem_mk
                  have F2 := F1.grown g6 (by omega)
                  have P4 := own_at P2 (g6.block (b1 + 1) hb5 (by intro e; injection e; omega))
                  obtain ⟨w7, r7, P5, g7⟩ := P4.update rot_law Tryz.underlying172 (by unfold maxLen; omega) key2 unitElem_mk
                  have F3 := F2.grown g7 (by omega)
                  have P6 := own_at P3 (g7.block b1 (own_lt P3) (by intro e; injection e; omega))
                  have HX7 : Hid (Ext W w7) := by
                    have := Hb.out
                    exact ((HX5.out.drew.grown g6 (by intro k e; injection e; omega)).grown g7 (by intro k e; injection e; omega))
                  have HT7 : Hid (TwoM w7 b1 (b1 + 1) (k + 1) (Maps.setOf unitD (nmL nms (k + 1))) (Maps.setOf unitD (klL kl (k + 1)))) := ⟨by rw [← nmL_succ]; exact P6, by rw [← klL_succ]; exact P5, by omega⟩
                  clear P1 P2 P3 P4 P5 P6 g6 g7
                  go_region_held3 (fun w' => w'.cell? ⟨b7, 0, none⟩ = some (.string (nms k)) ∧ w'.cell? ⟨b7, 1, none⟩ = some (.int .i32 (fa k)) ∧ w'.cell? ⟨b7, 2, none⟩ = some (.int .i32 (ne k))) (first | (with_reducible exact F1.all) | (with_reducible exact F2.all) | (with_reducible exact F3.all)) (fail)
                  all_goals
                    go_wp2_with fail
                    go_roundw
                    case rel => exact ⟨k + 1, by omega, by go_num, by rw [HD.out]; exact HF3.out, HT7.out, HX7.out⟩
                    case measure => simp [intOf]; omega
          · obtain rfl : k = n := by omega
            have HR2 : Hid (((0, 0) : Int × Int) = r) := by have := HF.out; rw [Nat.sub_self] at this; exact this
            obtain ⟨q0, q1, f0⟩ := HQ.out
            have q0 := HX.out.cell q0
            have q1 := HX.out.cell q1
            have f2 := fun o => (Below.frozen (p := ⟨B + 1, o, none⟩) HX.out (by have := HBz.out; simp only; omega)).trans (f0 o)
            clear f0
            go_wp2_with fail
            exact bodyPost_ret (v := .agg #[.int .i64 0, .int .i64 0]) (by simp [results, Tryz.results71, go_sem, q0, q1]) rfl ⟨by rw [← HR2.out], by repeat (first | (with_reducible exact HXW.out.trans HX.out) | refine Ext.setCell ?_ (by have := HBz.out; simp only; omega) _)⟩
end Go.Proofs.YtemlaompalbgiaaGreatDoor
namespace Go.Proofs.YtemlaompalbgiaaGreatDoor
open Go Go.RowKit
section
variable {P : Program} {f : Nat} {t : Ty} {Z : Nat → Prop} {W : World} {x : El t} {v : Value}
theorem ext_of {w w' : World} (h : w.grownBy w' none) : Ext w w' := ⟨h.os, h.tape, h.output, h.size, fun k hk => h.block k hk (by simp)⟩
theorem calls_i {F : El t → Int} (h : FnOk P f { q := .un, ps := [t], rs := [.it .i64], fresh := true, pre := fun _ _ => none, post := fun _ x => ((), (F x.1, ())) }) (hz : ZOk Z W) (hv : RV Z W t x v) : Calls P f #[v] W fun e W' => e = .returned (.int .i64 (F x)) ∧ Ext W W' := by
  refine (h.2 Z W 0 [v] () (x, ()) hz ⟨hv, trivial⟩ trivial (fun e => by cases e) (fun _ => rfl)).mono ?_
  rintro e w' ⟨v, us, bs, Z', rfl, t1, t2, _, _, _, _, _, t8, _⟩
  refine ⟨?_, ext_of t8⟩
  match us, t2 with
  | [u], ⟨b, b', _, h1, h2⟩ =>
    have h1 : RT _ w' (.it .i64) (F x) [u] ∧ b = [] := h1
    rw [RT] at h1
    have e1 : u = .int .i64 (F x) := by simpa using h1.1.1
    rcases t1 with ⟨u', e2, rfl⟩ | ⟨h3, _⟩
    · cases e2; rw [e1]
    · simp at h3
theorem calls_b {F : El t → Bool} (h : FnOk P f { q := .un, ps := [t], rs := [.bo], fresh := true, pre := fun _ _ => none, post := fun _ x => ((), (F x.1, ())) }) (hz : ZOk Z W) (hv : RV Z W t x v) : Calls P f #[v] W fun e W' => e = .returned (.bool (F x)) ∧ Ext W W' := by
  refine (h.2 Z W 0 [v] () (x, ()) hz ⟨hv, trivial⟩ trivial (fun e => by cases e) (fun _ => rfl)).mono ?_
  rintro e w' ⟨v, us, bs, Z', rfl, t1, t2, _, _, _, _, _, t8, _⟩
  refine ⟨?_, ext_of t8⟩
  match us, t2 with
  | [u], ⟨b, b', _, h1, h2⟩ =>
    have h1 : RT _ w' .bo (F x) [u] ∧ b = [] := h1
    rw [RT] at h1
    have e1 : u = .bool (F x) := by simpa using h1.1
    rcases t1 with ⟨u', e2, rfl⟩ | ⟨h3, _⟩
    · cases e2; rw [e1]
    · simp at h3
end
structure Pk where
  b : Nat → Bool
  a : Nat → Option Addr
  l : Nat → Nat
  c : Nat → Nat
theorem rt_tide {Z : Nat → Prop} {w : World} {x : El tTide} {vs : List Value} (h : RT Z w tTide x vs) : ∃ q : Pk, vs = [.string x.1, .int .i32 x.2.1.1, .int .i32 x.2.1.2.1, .bool (q.b 0), .slice (q.a 0) (q.l 0) (q.c 0), .slice (q.a 1) (q.l 1) (q.c 1), .bool (q.b 1), .slice (q.a 2) (q.l 2) (q.c 2), .slice (q.a 3) (q.l 3) (q.c 3)] := by
  obtain ⟨u1, v1, rfl, h1, ha⟩ := h.pr_
  obtain ⟨u2, v2, rfl, h2, hb⟩ := ha.pr_
  obtain ⟨u3, v3, rfl, h3, hc⟩ := hb.pr_
  obtain ⟨p1, p2, rfl, k1, ka⟩ := h2.pr_
  obtain ⟨p3, p4, rfl, k2, kb⟩ := ka.pr_
  obtain ⟨r1, r2, rfl, m1, ma⟩ := h3.pr_
  obtain ⟨r3, r4, rfl, m2, mb⟩ := ma.pr_
  obtain ⟨b, A, n, c, B, m', d, rfl⟩ := rt_rat m1
  obtain ⟨b', A', n', c', B', m'', d', rfl⟩ := rt_rat m2
  have e1 := h1.st_.1
  have e2 := k1.it_.1
  have e3 := k2.it_.1
  have e4 := kb.un_
  have e5 := mb.un_
  have e6 := hc.un_
  subst e1 e2 e3 e4 e5 e6
  exact ⟨⟨fun k => if k = 0 then b else b', fun k => if k = 0 then A else if k = 1 then B else if k = 2 then A' else B', fun k => if k = 0 then n else if k = 1 then m' else if k = 2 then n' else m'', fun k => if k = 0 then c else if k = 1 then d else if k = 2 then c' else d'⟩, rfl⟩
def tdAt (l : List (El tTide)) (i : Nat) : El tTide := l.getD i (dfl tTide)
def portI (x : El tPort) : Int × Int := pcS (nameS x.1) (fchk (toFr x.2.1)) x.2.2.1.length (fun i => tchk (tdAt x.2.2.1 i)) (fun i => inN (fun j => (tdAt x.2.2.1 j).1) i || inR (fun j => (tdAt x.2.2.1 j).2.1.1) (fun j => (tdAt x.2.2.1 j).2.1.2.1) i)
def portR (x : El tPort) : El tFault := ((portI x).1, (portI x).2, ())
noncomputable def sp_pCheck : Spec := { q := .un, ps := [tPort], rs := [tFault], fresh := true, pre := fun _ _ => none, post := fun _ x => ((), (portR x.1, ())) }
def Es (e : Int) : Prop := -1000 ≤ e ∧ e ≤ 1000
theorem Er.es {e : Int} (h : Er e) : Es e := ⟨Int.le_trans (by decide) h.1, h.2⟩
theorem Es.rng {e : Int} (h : Es e) : IntKind.i64.min ≤ e ∧ e ≤ IntKind.i64.max := ⟨Int.le_trans (by decide) h.1, Int.le_trans h.2 (by decide)⟩
theorem pcF_rng {eT : Nat → Int} {dup : Nat → Bool} (he : ∀ i, Es (eT i)) : ∀ d i, i + d ≤ 24 → Es (pcF eT dup i d).1 ∧ Es (pcF eT dup i d).2
  | 0, _, _ => ⟨Er.zero.es, Er.zero.es⟩
  | d + 1, i, hi => by
    unfold pcF
    have e1 : Es (i : Int) := ⟨by omega, by omega⟩
    split
    · exact ⟨he i, e1⟩
    · split
      · exact ⟨(⟨by decide, by decide⟩ : Es 5), e1⟩
      · exact pcF_rng he d (i + 1) (by omega)
theorem er_tchk (t : El tTide) : Er (tchk t) := by
  unfold tchk rotC gchk fchk2
  repeat' split
  all_goals first | exact er_fchk _ | exact ⟨by decide, by decide⟩
theorem portI_rng (x : El tPort) : Es (portI x).1 ∧ Es (portI x).2 := by
  have em : Es (-1) := ⟨by decide, by decide⟩
  unfold portI pcS
  split
  · exact ⟨⟨by decide, by decide⟩, em⟩
  · split
    · exact ⟨(er_fchk _).es, em⟩
    · split
      · exact ⟨⟨by decide, by decide⟩, em⟩
      · exact pcF_rng (fun i => (er_tchk _).es) _ 0 (by omega)
theorem fo_pCheck : FnOk Tryz.prog 71 sp_pCheck := by
  refine ⟨callFunc_enter Tryz.func71 (by kernel_rfl) rfl, fun Z w gv vs y x hz hv _ _ hy => ?_⟩
  obtain ⟨x, _⟩ := x
  match vs, hv with
  | [v], ⟨hv, _⟩ =>
    have hv : RV Z w tPort x v := hv
    have hv0 := hv
    unfold RV at hv
    rw [if_pos (show tPort.agg = true from rfl)] at hv
    obtain ⟨us, rfl, hu⟩ := hv
    obtain ⟨u1, v1, e1, h1, hu⟩ := hu.pr_
    obtain ⟨u2, v2, e2, h2, hu⟩ := hu.pr_
    obtain ⟨u3, v3, e3, h3, hu⟩ := hu.pr_
    rw [RT] at h3
    obtain ⟨rfl, s1⟩ := h1.st_
    obtain ⟨TA, tc, rfl, l1, l2, l3, l4⟩ := h3
    have hu := hu.un_
    subst hu e3 e2
    obtain ⟨p, ep, hp⟩ := rv_fr (Z := Z) (w := w) (x := x.2.1) (v := .agg u2.toArray) (by unfold RV; rw [if_pos (show tR.agg = true from rfl)]; exact ⟨_, rfl, h2⟩)
    have ep : u2 = [.bool (toFr x.2.1).neg, .slice p.A (toFr x.2.1).num.length p.c, .slice p.B (toFr x.2.1).den.length p.d] := by
      injection ep with ep
      have := congrArg Array.toList ep
      simpa using this
    subst ep
    have eus : us = #[.string x.1, .bool (toFr x.2.1).neg, .slice p.A (toFr x.2.1).num.length p.c, .slice p.B (toFr x.2.1).den.length p.d, .slice TA x.2.2.1.length tc] := by
      apply Array.ext'
      rw [e1]
      rfl
    subst eus
    have ex : ∀ j, ∃ q : Pk, ∀ h : j < x.2.2.1.length, ∃ g o, TA = some ⟨g, o, none⟩ ∧ Z g ∧ RT Z w tTide (x.2.2.1[j]) [.string (x.2.2.1[j]).1, .int .i32 (x.2.2.1[j]).2.1.1, .int .i32 (x.2.2.1[j]).2.1.2.1, .bool (q.b 0), .slice (q.a 0) (q.l 0) (q.c 0), .slice (q.a 1) (q.l 1) (q.c 1), .bool (q.b 1), .slice (q.a 2) (q.l 2) (q.c 2), .slice (q.a 3) (q.l 3) (q.c 3)] ∧
        ∀ (i : Nat) (u : Value), [.string (x.2.2.1[j]).1, .int .i32 (x.2.2.1[j]).2.1.1, .int .i32 (x.2.2.1[j]).2.1.2.1, .bool (q.b 0), .slice (q.a 0) (q.l 0) (q.c 0), .slice (q.a 1) (q.l 1) (q.c 1), .bool (q.b 1), .slice (q.a 2) (q.l 2) (q.c 2), .slice (q.a 3) (q.l 3) (q.c 3)][i]? = some u → w.cell? ⟨g, o + (j * 9 + i), none⟩ = some u := fun j => by
      by_cases hj : j < x.2.2.1.length
      · obtain ⟨g, o, us, k1, k2, k3, k4⟩ := l4 j hj
        obtain ⟨q, rfl⟩ := rt_tide k3
        exact ⟨q, fun _ => ⟨g, o, k1, k2, k3, k4⟩⟩
      · exact ⟨⟨fun _ => false, fun _ => none, fun _ => 0, fun _ => 0⟩, fun h => absurd h hj⟩
    obtain ⟨q, hq⟩ := Classical.skolem.1 ex
    haveI : Nonempty Lit := ⟨.bool false⟩
    have gd : ∀ j (h : j < x.2.2.1.length), tdAt x.2.2.1 j = x.2.2.1[j] := fun j h => by
      unfold tdAt
      rw [List.getD_eq_getElem?_getD, List.getElem?_eq_getElem h]
      rfl
    have wfT := hv0.wf.2.2.1
    have wfe : ∀ j (h : j < x.2.2.1.length), wfE tTide (x.2.2.1[j]) := fun j h => by
      first | exact wfT.2 _ (List.getElem_mem h) | exact wfT _ (List.getElem_mem h)
    refine (pchk_any x.1 (toFr x.2.1).neg p.A p.B _ _ _ _ TA x.2.2.1.length tc (fun j => (tdAt x.2.2.1 j).1) (fun j => (tdAt x.2.2.1 j).2.1.1) (fun j => (tdAt x.2.2.1 j).2.1.2.1) (fun j => (q j).b) (fun j => (q j).a) (fun j => (q j).l) (fun j => (q j).c)
      (fun j => Classical.epsilon fun l => keyOf Tryz.prog 35 (.agg #[.int .i32 (tdAt x.2.2.1 j).2.1.1, .int .i32 (tdAt x.2.2.1 j).2.1.2.1]) = some l) (nameS x.1) (fchk (toFr x.2.1)) (fun i => tchk (tdAt x.2.2.1 i)) w ?hA ?hs ?hk ?hN ?hM ?hT (portI x) rfl).mono ?_
    case hA =>
      refine ⟨fun j hj => ?_, fun gr o hgo => ?_⟩
      · obtain ⟨g, o, k1, _⟩ := hq j hj
        exact ⟨g, o, k1⟩
      · have key : ∀ j, j < x.2.2.1.length → ∀ (i : Nat) (u : Value), [.string (tdAt x.2.2.1 j).1, .int .i32 (tdAt x.2.2.1 j).2.1.1, .int .i32 (tdAt x.2.2.1 j).2.1.2.1, .bool ((q j).b 0), .slice ((q j).a 0) ((q j).l 0) ((q j).c 0), .slice ((q j).a 1) ((q j).l 1) ((q j).c 1), .bool ((q j).b 1), .slice ((q j).a 2) ((q j).l 2) ((q j).c 2), .slice ((q j).a 3) ((q j).l 3) ((q j).c 3)][i]? = some u → w.cell? ⟨gr, o + j * 9 + i, none⟩ = some u := fun j hj i u hu => by
          obtain ⟨g, o', k1, _, _, k4⟩ := hq j hj
          rw [hgo] at k1
          cases k1
          rw [gd j hj] at hu
          rw [Nat.add_assoc]
          exact k4 i u hu
        exact ⟨fun j hj => key j hj 0 _ rfl, fun j hj => key j hj 1 _ rfl, fun j hj => key j hj 2 _ rfl, fun j hj => key j hj 3 _ rfl, fun j hj => key j hj 4 _ rfl, fun j hj => key j hj 5 _ rfl, fun j hj => key j hj 6 _ rfl, fun j hj => key j hj 7 _ rfl, fun j hj => key j hj 8 _ rfl⟩
    case hs =>
      intro j hj
      rw [gd j hj]
      have := (wfe j hj).1
      exact this
    case hk =>
      intro j hj
      have := (wfe j hj).2.1
      rw [← gd j hj] at this
      have w1 : IntKind.i32.min ≤ (tdAt x.2.2.1 j).2.1.1 ∧ (tdAt x.2.2.1 j).2.1.1 ≤ IntKind.i32.max := this.1
      have w2 : IntKind.i32.min ≤ (tdAt x.2.2.1 j).2.1.2.1 ∧ (tdAt x.2.2.1 j).2.1.2.1 ≤ IntKind.i32.max := this.2.1
      exact Classical.epsilon_spec (rot_key (by unfold Lit.wf; simpa using w1) (by unfold Lit.wf; simpa using w2))
    case hN =>
      intro w' hx
      exact calls_b (Z := Z) (x := x.1) fo_tName (ZOk.ext hz hx) (by unfold RV; rw [if_neg (by decide), RT]; exact ⟨rfl, s1⟩)
    case hM =>
      intro w' hx
      exact rcheck_rf_ (toFr x.2.1) p w' (hp.ext hx)
    case hT =>
      intro j hj w' hx
      obtain ⟨g, o, k1, k2, k3, k4⟩ := hq j hj
      have k5 := k3.mono (Z' := Z) (w' := w') (fun g h => h) (fun g hg => (Below.block hx (k := g) (hz g hg)))
      have := calls_i (Z := Z) (W := w') (x := x.2.2.1[j]) (v := .agg #[.string (x.2.2.1[j]).1, .int .i32 (x.2.2.1[j]).2.1.1, .int .i32 (x.2.2.1[j]).2.1.2.1, .bool ((q j).b 0), .slice ((q j).a 0) ((q j).l 0) ((q j).c 0), .slice ((q j).a 1) ((q j).l 1) ((q j).c 1), .bool ((q j).b 1), .slice ((q j).a 2) ((q j).l 2) ((q j).c 2), .slice ((q j).a 3) ((q j).l 3) ((q j).c 3)]) fo_tCk (ZOk.ext hz hx) (by unfold RV; rw [if_pos (show tTide.agg = true from rfl)]; exact ⟨_, rfl, k5⟩)
      rw [← gd j hj] at this
      exact this
    rintro e w' ⟨rfl, hx⟩
    refine ⟨_, [.agg #[.int .i64 (portI x).1, .int .i64 (portI x).2]], [], Z, rfl, .inl ⟨_, rfl, rfl⟩, ⟨[], [], rfl, ?_, rfl⟩, List.nodup_nil, fun g hg => (by cases hg), fun g hg => hg, fun g hg => .inl hg, fun g hg => Nat.lt_of_lt_of_le (hz g hg) hx.size, ?_, fun e => (by cases e)⟩
    · unfold RQv
      rw [if_pos (show tFault.agg = true from rfl)]
      refine ⟨_, rfl, RQ.flat_of rfl ?_⟩
      obtain ⟨r1, r2⟩ := portI_rng x
      exact RT.pr_mk (us := [.int .i64 (portI x).1]) (RT.it_mk r1.rng) (RT.pr_mk (us := [.int .i64 (portI x).2]) (RT.it_mk r2.rng) RT.un_mk)
    · exact ⟨hx.os, hx.tape, hx.output, hx.size, fun k hk _ => Below.block hx (k := k) hk⟩
end Go.Proofs.YtemlaompalbgiaaGreatDoor
