/- The reference's Sum. -/
import Derived.Test.YtnhgagfkepmanaaG14
import Derived.Test.YtnhgagfkepmanaaS1
namespace Go.Proofs.Ytnhgagfkepmanaa
open Go Go.RowKit

abbrev Six2 (w : World) (g h o : Nat) (a b c d e f : Value) : Prop := w.cell? ⟨g, 0, none⟩ = some a ∧ w.cell? ⟨g, 1, none⟩ = some b ∧ w.cell? ⟨g, 2, none⟩ = some c ∧ w.cell? ⟨h, o, none⟩ = some d ∧ w.cell? ⟨h, o + 1, none⟩ = some e ∧ w.cell? ⟨h, o + 2, none⟩ = some f
theorem six2_ext {w w' : World} {g h o : Nat} {a b c d e f : Value} (x : Ext w w') (H : Six2 w g h o a b c d e f) : Six2 w' g h o a b c d e f := ⟨x.cell H.1, x.cell H.2.1, x.cell H.2.2.1, x.cell H.2.2.2.1, x.cell H.2.2.2.2.1, x.cell H.2.2.2.2.2⟩
theorem six2_drew {w : World} {g h o : Nat} {a b c d e f : Value} (H : Six2 w g h o a b c d e f) : Six2 w.drew g h o a b c d e f := H
theorem six2_alloc {w : World} {g h o : Nat} {a b c d e f : Value} {ob : Obj} (H : Six2 w g h o a b c d e f) : Six2 (w.alloc ob) g h o a b c d e f := six2_ext ((Ext.refl w).alloc ob) H
theorem six2_set {w : World} {g h o : Nat} {a b c d e f : Value} {p : Addr} {u : Value} (H : Six2 w g h o a b c d e f) (h1 : p.block ≠ g) (h2 : p.block ≠ h) : Six2 (w.setCell p u) g h o a b c d e f :=
  have hg := grown_setCell w p u
  ⟨cell_keep hg H.1 (fun e => h1 (Option.some.inj e).symm), cell_keep hg H.2.1 (fun e => h1 (Option.some.inj e).symm), cell_keep hg H.2.2.1 (fun e => h1 (Option.some.inj e).symm), cell_keep hg H.2.2.2.1 (fun e => h2 (Option.some.inj e).symm), cell_keep hg H.2.2.2.2.1 (fun e => h2 (Option.some.inj e).symm), cell_keep hg H.2.2.2.2.2 (fun e => h2 (Option.some.inj e).symm)⟩

/-- the reference's add, of any two fractions that may be -/
theorem gadd_fr (a b : Fr) (A B C D : Option Addr) (c1 c2 c3 c4 : Nat) (w : World) (ha : Rd w A c1 a.num) (hb : Rd w B c2 a.den) (hc : Rd w C c3 b.num) (hd : Rd w D c4 b.den) (wa : a.Wf) (wb : b.Wf) (h : fchk a = 0) (k : fchk b = 0) (r : Rat) (hr : a.q + b.q = r) :
    Calls Try.prog 34 #[.agg #[.bool a.neg, .slice A a.num.length c1, .slice B a.den.length c2], .agg #[.bool b.neg, .slice C b.num.length c3, .slice D b.den.length c4]] w (RatP w (tell r)) := by
  obtain ⟨p, rfl, lp⟩ := fchk_ok wa h
  obtain ⟨q, rfl, lq⟩ := fchk_ok wb k
  rw [dec_enc, dec_enc] at hr
  subst hr
  have h1 := not_lng lp
  have h2 := not_lng lq
  exact gadd_gen (decide (p.num < 0)) (decide (q.num < 0)) A B C D p.num.natAbs p.den q.num.natAbs q.den c1 c2 c3 c4 w (p + q) ha hb hc hd p.den_nz q.den_nz h1.1 h1.2 h2.1 h2.2 (gplus_made p q)

set_option maxRecDepth 4000 in
set_option maxHeartbeats 2000000 in
theorem gsum_any (AA : Option Addr) (n c : Nat) (P : Nat → Option Addr) (C : Nat → Nat) (L : Nat → Fr) (w : World) (h : FsA AA n P C L w) (hw : ∀ j, j < n → (L j).Wf) (hn : n ≤ 1000000) (t : Fr × Int × Int) (ht : fsum L n = t) :
    Calls Try.prog 16 #[.slice AA n c] w (SumP w t) := by
  have H := Lib.hid h
  have HW := Lib.hid hw
  have HT := Lib.hid ht
  clear h hw ht
  go_enter Try.func16, Try.ntmps16
  go_wp2_with fail
  obtain ⟨W, hW⟩ : ∃ W, W = ((w.alloc (.cells #[.bool false, .slice none 0 0, .slice none 0 0] 27)).alloc (.cells #[.int .i64 0, .int .i64 0] 39)) := ⟨_, rfl⟩
  have HXW : Hid (Ext w W) := by rw [hW]; exact ((Ext.refl w).alloc _).alloc _
  have HZ : Hid (W.heap.size = w.heap.size + 2) := by rw [hW]; unfold Hid; simp
  have HR : Hid (W.cell? ⟨w.heap.size, 0, none⟩ = some (.bool false) ∧ W.cell? ⟨w.heap.size, 1, none⟩ = some (.slice none 0 0) ∧ W.cell? ⟨w.heap.size, 2, none⟩ = some (.slice none 0 0) ∧ W.cell? ⟨w.heap.size + 1, 0, none⟩ = some (.int .i64 0) ∧ W.cell? ⟨w.heap.size + 1, 1, none⟩ = some (.int .i64 0)) := by
    rw [hW]; unfold Hid; refine ⟨?_, ?_, ?_, ?_, ?_⟩ <;> simp [go_sem]
  have HF : Hid (∀ o, W.frozen? ⟨w.heap.size, o, none⟩ = false ∧ W.frozen? ⟨w.heap.size + 1, o, none⟩ = false) := by
    rw [hW]; unfold Hid; intro o; exact ⟨by simp [go_sem], by simp [go_sem]⟩
  try rw [← hW]
  clear hW
  go_loopw [4] (fun s wr => ∃ k : Nat, k ≤ n ∧ s = .int .i64 k ∧ Hid (fsumFrom L n k (n - k) = t) ∧ Hid (∀ j, j < k → fchk (L j) = 0) ∧ Hid (Ext W wr)) (fun s _ => n - (intOf s).toNat)
  case atStart => exact ⟨0, by omega, rfl, HT.out, fun j hj => by omega, Ext.refl _⟩
  case round =>
    obtain ⟨k, hk, rfl, HS, HO, HX⟩ := hrel
    by_cases hkn : k < n
    · obtain ⟨gr, o, rfl⟩ := H.out.1 k hkn
      have H := Lib.hid (H.out.2 gr o rfl)
      obtain ⟨d, hd⟩ : ∃ d, n - k = d + 1 := ⟨n - k - 1, by omega⟩
      have HD := Lib.hid (show n - (k + 1) = d by omega)
      have e0 := (H.out.ext (HXW.out.trans HX.out)).neg k hkn
      have e1 := (H.out.ext (HXW.out.trans HX.out)).num k hkn
      have e2 := (H.out.ext (HXW.out.trans HX.out)).den k hkn
      have HC := Lib.hid (fun wx (hx : Ext W wx) => gcheck3_any (L k).neg (P (2 * k)) (P (2 * k + 1)) (L k).num (L k).den (C (2 * k)) (C (2 * k + 1)) wx (((H.out.rnum k hkn).ext HXW.out).ext hx) (((H.out.rden k hkn).ext HXW.out).ext hx) (HW.out k hkn).num (HW.out k hkn).den)
      have HXB := Lib.hid HX.out
      have HS2 := Lib.hid (hd ▸ HS.out)
      clear hd HS
      by_cases hb : fchk (L k) ≠ 0
      · have HTT := Lib.hid (fsum_bad L n (d + 1) k (by have := HD.out; omega) t HS2.out hb (by omega))
        have hbn : (fchk (⟨(L k).neg, (L k).num, (L k).den⟩ : Fr) != 0) = true := bne_iff_ne.2 hb
        clear hb
        go_wp2_with fail
        refine (HC.out _ HXB.out).mono ?_; rintro e w1 ⟨rfl, hx⟩
        have HX1 := Lib.hid (HXB.out.trans hx)
        clear hx e0 e1 e2
        obtain ⟨r0, r1, r2, r3, r4⟩ := HR.out
        have q0 := HX1.out.cell r0
        have q1 := HX1.out.cell r1
        have q2 := HX1.out.cell r2
        have q3 := HX1.out.cell r3
        have q4 := HX1.out.cell r4
        have f0 := (HX1.out.frozen r0).trans (HF.out 0).1
        have f1 := (HX1.out.frozen r1).trans (HF.out 1).1
        have f2 := (HX1.out.frozen r2).trans (HF.out 2).1
        have f3 := (HX1.out.frozen r3).trans (HF.out 0).2
        have f4 := (HX1.out.frozen r4).trans (HF.out 1).2
        clear r0 r1 r2 r3 r4
        go_wp2_with fail
        exact bodyPost_ret (v := .tuple #[.agg #[.bool false, .slice none 0 0, .slice none 0 0], .agg #[.int .i64 (fchk (L k)), .int .i64 k]]) (by simp [results, Try.results16, go_sem, q0, q1, q2, q3, q4]) rfl (SumP.nil HTT.out rfl (by repeat (first | (with_reducible exact HXW.out.trans HX1.out) | refine Ext.setCell ?_ (by simp; try omega) _)))
      · have HB := Lib.hid (show fchk (L k) = 0 by simpa using hb)
        have hbn : (fchk (⟨(L k).neg, (L k).num, (L k).den⟩ : Fr) != 0) = false := bne_eq_false_iff_eq.2 HB.out
        have HO2 := Lib.hid (show ∀ j, j < k + 1 → fchk (L j) = 0 from fun j hj => by
          by_cases e : j = k
          · rw [e]; exact HB.out
          · exact HO.out j (by omega))
        have HS3 := Lib.hid ((fsum_next L n k d HB.out).symm.trans HS2.out)
        clear hb
        go_wp2_with fail
        refine (HC.out _ HXB.out).mono ?_; rintro e w1 ⟨rfl, hx⟩
        have HX1 := Lib.hid (HXB.out.trans hx)
        clear hx e0 e1 e2
        go_wp2_with fail
        go_roundw
        case rel => exact ⟨k + 1, by omega, by go_num, by rw [HD.out]; exact HS3.out, HO2.out, HX1.out⟩
        case measure => simp [intOf]; omega
    · obtain rfl : k = n := by omega
      have HS2 := Lib.hid (show sumFrom L 0 0 k = t by have := HS.out; rw [Nat.sub_self] at this; exact this)
      clear HS
      have HXr := Lib.hid HX.out
      go_wp2_with fail
      refine (gone_any _).mono ?_; rintro e wo ⟨A0, c0, rfl, o0, hx⟩
      have O0 := Lib.hid (wd_one ▸ o0)
      have HX := Lib.hid (HX.out.trans hx)
      have hlo := Lib.hid (show (wd 1).length = 1 by rw [wd_one]; rfl)
      clear o0
      have HV : Hid (VarF wo.heap.size W.heap.size (enc 0) none 0 A0 c0 (wo.alloc (.cells #[.bool false, .slice none 0 0, .slice A0 (wd 1).length c0] 27))) := by
        have hh := hx.size
        have hz := HZ.out
        have hy := HX.out.size
        rw [enc_zero, hlo.out]
        refine ⟨by simp [go_sem], by simp [go_sem], by simp [go_sem], fun o => by simp [go_sem], Own.nil _ _, ?_, (fun _ _ h => by cases h), (fun _ h => by cases h), ?_⟩
        · exact (O0.out.lower (show W.heap.size ≤ wr.heap.size by have := HXr.out.size; omega)).ext ((Ext.refl _).alloc _)
        · intro a ha e; have h1 := O0.out; rw [ha] at h1; have := h1.block.2; omega
      have HX2 := Lib.hid (HX.out.alloc (.cells #[.bool false, .slice none 0 0, .slice A0 (wd 1).length c0] 27))
      have HBB := Lib.hid (show W.heap.size ≤ wo.heap.size by have := HX.out.size; omega)
      clear hx
      have HLZ := Lib.hid not_lng_zero
      obtain ⟨B1, hB1⟩ : ∃ B1, B1 = wo.heap.size := ⟨_, rfl⟩
      have HB1 := Lib.hid hB1
      go_wp2_with fail
      rw [← hB1]
      clear hB1
      go_loopw [7] (fun s wt => ∃ (i : Nat) (q : Rat) (A : Option Addr) (c' : Nat) (D : Option Addr) (d : Nat), i ≤ k ∧ s = .int .i64 i ∧ Hid (sumFrom L q i (k - i) = t) ∧ Hid (¬ lng q = true) ∧ Hid (VarF B1 W.heap.size (enc q) A c' D d wt) ∧ Hid (Ext W wt)) (fun s _ => k - (intOf s).toNat)
      case atStart => exact ⟨0, 0, none, 0, A0, c0, by omega, rfl, HS2.out, HLZ.out, by rw [HB1.out]; exact HV.out, HX2.out⟩
      case round =>
        rw [← HB1.out] at HBB
        clear HX HX2 HV HB1 HS2 HLZ HXr O0 hlo hkn hk
        obtain ⟨i, q, A, c', D, d, hi, rfl, HS, HL, HV, HX⟩ := hrel
        by_cases hik : i < k
        · obtain ⟨gr, o, rfl⟩ := H.out.1 i hik
          have H := Lib.hid (H.out.2 gr o rfl)
          obtain ⟨m, hm⟩ : ∃ m, k - i = m + 1 := ⟨k - i - 1, by omega⟩
          have HM := Lib.hid (show k - (i + 1) = m by omega)
          have HS2 := Lib.hid (hm ▸ HS.out)
          clear HS hm
          have HXa := Lib.hid (HXW.out.trans HX.out)
          have e0 := (H.out.ext HXa.out).neg i hik
          have e1 := (H.out.ext HXa.out).num i hik
          have e2 := (H.out.ext HXa.out).den i hik
          have v0 := fun ob => (HV.out.ext ((Ext.refl wr).alloc ob)).c0
          have v1 := fun ob => (HV.out.ext ((Ext.refl wr).alloc ob)).c1
          have v2 := fun ob => (HV.out.ext ((Ext.refl wr).alloc ob)).c2
          obtain ⟨r, hr⟩ : ∃ r, r = q + (L i).q := ⟨_, rfl⟩
          obtain ⟨tt, htt⟩ : ∃ tt, tt = tell r := ⟨_, rfl⟩
          have HP := Lib.hid (fun wx (hx : Ext wr wx) => gadd_fr (enc q) (L i) A D (P (2 * i)) (P (2 * i + 1)) c' d (C (2 * i)) (C (2 * i + 1)) wx (HV.out.onum.rd.ext hx) (HV.out.oden.rd.ext hx) (((H.out.rnum i hik).ext HXa.out).ext hx) (((H.out.rden i hik).ext HXa.out).ext hx) (enc_wf q) (HW.out i hik) (fchk_enc q HL.out) (HO.out i hik) r (by rw [dec_enc, hr]))
          rw [← htt] at HP
          have HB2 := Lib.hid (show B1 < wr.heap.size from HV.out.lt)
          have HR1 := Lib.hid hr
          have HT1 := Lib.hid htt
          clear hr htt
          go_upto_region 11 with fail
          go_cut [8, 9] (fun s8 s9 wx => ∃ (g : Nat) (A1 : Option Addr) (c1 : Nat) (D1 : Option Addr) (d1 : Nat), s8 = .pointer (some ⟨g, 0, none⟩) ∧ s9 = .int .i64 tt.2 ∧ Hid (VarF g wr.heap.size tt.1 A1 c1 D1 d1 wx) ∧ Hid (Ext wr wx))
          case first =>
            have F1 : Six2 wr B1 gr (o + i * 3) (.bool (enc q).neg) (.slice A (enc q).num.length c') (.slice D (enc q).den.length d) (.bool (L i).neg) (.slice (P (2 * i)) (L i).num.length (C (2 * i))) (.slice (P (2 * i + 1)) (L i).den.length (C (2 * i + 1))) := ⟨HV.out.c0, HV.out.c1, HV.out.c2, e0, e1, e2⟩
            have hb1 := HB2.out
            have hb2 := World.block_lt_of_cell? wr _ e0
            simp only at hb1 hb2
            go_region_held3 (fun w' => w'.cell? ⟨B1, 0, none⟩ = some (.bool (enc q).neg) ∧ w'.cell? ⟨B1, 1, none⟩ = some (.slice A (enc q).num.length c') ∧ w'.cell? ⟨B1, 2, none⟩ = some (.slice D (enc q).den.length d) ∧ w'.cell? ⟨gr, o + i * 3, none⟩ = some (.bool (L i).neg) ∧ w'.cell? ⟨gr, o + i * 3 + 1, none⟩ = some (.slice (P (2 * i)) (L i).num.length (C (2 * i))) ∧ w'.cell? ⟨gr, o + i * 3 + 2, none⟩ = some (.slice (P (2 * i + 1)) (L i).den.length (C (2 * i + 1)))) (repeat (first | (with_reducible exact F1) | (with_reducible exact F2) | (with_reducible refine six2_alloc ?_) | (with_reducible refine six2_drew ?_) | (with_reducible refine six2_set ?_ (by simp only; omega) (by simp only; omega))))
              (first
                | (go_at_call 34; ((with_reducible refine (HP.out _ ?hx).mono ?_); (case hx => repeat (first | (with_reducible exact Ext.refl wr) | (with_reducible refine Ext.drew ?_) | (with_reducible refine Ext.alloc ?_ _)))); rintro e w2 ⟨A2, c2, D2, d2, rfl, o1, o2, ap, hx2⟩; have O1 := Lib.hid o1; have O2 := Lib.hid o2; have AP := Lib.hid ap; have HX2 := Lib.hid hx2; have F2 : Six2 w2 B1 gr (o + i * 3) (.bool (enc q).neg) (.slice A (enc q).num.length c') (.slice D (enc q).den.length d) (.bool (L i).neg) (.slice (P (2 * i)) (L i).num.length (C (2 * i))) (.slice (P (2 * i + 1)) (L i).den.length (C (2 * i + 1))) := six2_ext hx2 (by repeat (first | (with_reducible exact F1) | (with_reducible refine six2_alloc ?_) | (with_reducible refine six2_drew ?_))); obtain ⟨hc2, hf2⟩ := bcell hx2; have hz2 := hx2.size; (try simp only [World.size_alloc, World.size_drew] at hz2); (try have q1 : wr.heap.size < w2.heap.size := by omega); clear o1 o2 ap hx2))
            all_goals
              go_wp2_with fail
              go_meet
              first
                | (refine ⟨_, A2, c2, D2, d2, rfl, rfl, VarF.new (O1.out.lower (by simp only [World.size_alloc, World.size_drew]; omega)) (O2.out.lower (by simp only [World.size_alloc, World.size_drew]; omega)) AP.out, ?_⟩; exact ((Ext.refl wr).drew.trans HX2.out).alloc _)
                | (have HZV := (VarF.zero wr wr.heap.size).ext ((Ext.refl _).drew.trans HX2.out); refine ⟨_, A2, c2, D2, d2, rfl, rfl, HZV.store (O1.out.lower (by simp only [World.size_alloc, World.size_drew]; omega)) (O2.out.lower (by simp only [World.size_alloc, World.size_drew]; omega)) AP.out (fun a ha e => by have h1 := O1.out; rw [ha] at h1; have h2 := h1.block.1; simp only [World.size_alloc, World.size_drew] at h2; omega) (fun a ha e => by have h1 := O2.out; rw [ha] at h1; have h2 := h1.block.1; simp only [World.size_alloc, World.size_drew] at h2; omega), ?_⟩; exact (((((Ext.refl wr).alloc _).drew.trans HX2.out).setCell (Nat.le_refl _) _).setCell (Nat.le_refl _) _).setCell (Nat.le_refl _) _)
          case rest =>
            obtain ⟨g, A1, c1, D1, d1, rfl, rfl, HVg, HX1⟩ := hcut
            clear e0 e1 e2 v0 v1 v2
            by_cases hl : lng r = true
            · have HTT := Lib.hid (show t = (Fr.zero, 3, (i : Int)) by rw [← HS2.out]; exact sum_bad L q i m (by rw [← HR1.out]; exact hl))
              have ht2 : (tt.2 != 0) = true := by rw [HT1.out]; unfold tell; rw [if_pos hl]; rfl
              have HT2 := Lib.hid (show tt.2 = 3 by rw [HT1.out]; unfold tell; rw [if_pos hl])
              have HX2 := Lib.hid (HX.out.trans HX1.out)
              clear hl
              obtain ⟨r0, r1, r2, r3, r4⟩ := HR.out
              have q0 := HX2.out.cell r0
              have q1 := HX2.out.cell r1
              have q2 := HX2.out.cell r2
              have q3 := HX2.out.cell r3
              have q4 := HX2.out.cell r4
              have f0 := (HX2.out.frozen r0).trans (HF.out 0).1
              have f1 := (HX2.out.frozen r1).trans (HF.out 1).1
              have f2 := (HX2.out.frozen r2).trans (HF.out 2).1
              have f3 := (HX2.out.frozen r3).trans (HF.out 0).2
              have f4 := (HX2.out.frozen r4).trans (HF.out 1).2
              clear r0 r1 r2 r3 r4
              go_wp2_with fail
              exact bodyPost_ret (v := .tuple #[.agg #[.bool false, .slice none 0 0, .slice none 0 0], .agg #[.int .i64 tt.2, .int .i64 i]]) (by simp [results, Try.results16, go_sem, q0, q1, q2, q3, q4]) rfl (SumP.nil HTT.out (by rw [HT2.out]) (by repeat (first | (with_reducible exact HXW.out.trans HX2.out) | refine Ext.setCell ?_ (by simp; try omega) _)))
            · have HE := Lib.hid (show tt = (enc r, 0) by rw [HT1.out]; unfold tell; rw [if_neg hl])
              have ht2 : (tt.2 != 0) = false := by rw [HT1.out]; unfold tell; rw [if_neg hl]; rfl
              have HS3 := Lib.hid ((sum_next L q i m (by rw [← HR1.out]; exact hl)).symm.trans HS2.out)
              have HL3 := Lib.hid hl
              have HVb := Lib.hid (HV.out.ext HX1.out)
              have u0 := HVg.out.c0
              have u1 := HVg.out.c1
              have u2 := HVg.out.c2
              have v0 := HVb.out.c0
              have v1 := HVb.out.c1
              have v2 := HVb.out.c2
              have fv0 := HVb.out.fr 0
              have fv1 := HVb.out.fr 1
              have fv2 := HVb.out.fr 2
              have n1 := Lib.hid (show ∀ a, A1 = some a → a.block ≠ B1 from fun a ha e => by have h1 := HVg.out.onum; rw [ha] at h1; have h2 := h1.block.1; have h3 := HB2.out; omega)
              have n2 := Lib.hid (show ∀ a, D1 = some a → a.block ≠ B1 from fun a ha e => by have h1 := HVg.out.oden; rw [ha] at h1; have h2 := h1.block.1; have h3 := HB2.out; omega)
              have hW := Lib.hid (show W.heap.size ≤ wr.heap.size from HX.out.size)
              have HV2 := Lib.hid (HVb.out.store (HVg.out.onum.lower hW.out) (HVg.out.oden.lower hW.out) HVg.out.ap n1.out n2.out)
              have HX2 := Lib.hid ((((HX.out.trans HX1.out).setCell (p := ⟨B1, 0, none⟩) HBB.out (.bool tt.1.neg)).setCell (p := ⟨B1, 1, none⟩) HBB.out (.slice A1 tt.1.num.length c1)).setCell (p := ⟨B1, 2, none⟩) HBB.out (.slice D1 tt.1.den.length d1))
              clear hl
              go_wp2_with fail
              rw [HE.out] at HV2
              rw [HE.out] at HX2
              go_roundw
              case rel => exact ⟨i + 1, r, A1, c1, D1, d1, by omega, by go_num, by rw [HM.out, HR1.out]; exact HS3.out, HL3.out, by rw [HE.out]; exact HV2.out, by rw [HE.out]; exact HX2.out⟩
              case measure => simp [intOf]; omega
        · obtain rfl : i = k := by omega
          have HTT := Lib.hid (show t = (enc q, 0, 0) by have := HS.out; rw [Nat.sub_self] at this; exact this.symm)
          have v0 := HV.out.c0
          have v1 := HV.out.c1
          have v2 := HV.out.c2
          obtain ⟨r0, r1, r2, r3, r4⟩ := HR.out
          have q0 := HX.out.cell r0
          have q1 := HX.out.cell r1
          have q2 := HX.out.cell r2
          have q3 := HX.out.cell r3
          have q4 := HX.out.cell r4
          have f0 := (HX.out.frozen r0).trans (HF.out 0).1
          have f1 := (HX.out.frozen r1).trans (HF.out 1).1
          have f2 := (HX.out.frozen r2).trans (HF.out 2).1
          have f3 := (HX.out.frozen r3).trans (HF.out 0).2
          have f4 := (HX.out.frozen r4).trans (HF.out 1).2
          clear r0 r1 r2 r3 r4
          go_wp2_with fail
          exact bodyPost_ret (v := .tuple #[.agg #[.bool (enc q).neg, .slice A (enc q).num.length c', .slice D (enc q).den.length d], .agg #[.int .i64 0, .int .i64 0]]) (by simp [results, Try.results16, go_sem, q0, q1, q2, q3, q4]) rfl (SumP.mk (xs := (enc q).num) (ys := (enc q).den) HTT.out rfl (by refine Own.lower ?_ (show w.heap.size ≤ W.heap.size by have := HZ.out; omega); repeat (first | (with_reducible exact HV.out.onum) | refine Own.setBelow ?_ (by have := HZ.out; simp; try omega) _)) (by refine Own.lower ?_ (show w.heap.size ≤ W.heap.size by have := HZ.out; omega); repeat (first | (with_reducible exact HV.out.oden) | refine Own.setBelow ?_ (by have := HZ.out; simp; try omega) _)) HV.out.ap (by repeat (first | (with_reducible exact HXW.out.trans HX.out) | refine Ext.setCell ?_ (by simp; try omega) _)))

end Go.Proofs.Ytnhgagfkepmanaa
