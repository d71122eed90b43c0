/- Texts of this claim, joined: Y7 U15 B12 A27 B13. -/
import Derived.Deep.RegionHeldLaw
import Derived.Deep.AppendLies
import Derived.Test.YtakaehdolpmelaaGreatQt
set_option linter.unusedVariables false
set_option linter.unusedSimpArgs false
set_option maxRecDepth 100000
namespace Go.Proofs.YtakaehdolpmelaaGreat
open Go Go.RowKit
structure ExtS (w0 w : World) (k : Nat) (P : Nat → Option Addr) (w' : World) : Prop where
  x : Ext w0 w'
  z : w.heap.size ≤ w'.heap.size
  s : ∀ b, b < w.heap.size → (∀ j, j < k → ∀ a, P j = some a → a.block ≠ b) → w'.heap[b]? = w.heap[b]?
theorem ExtS.start {w0 w w' : World} {k : Nat} {P : Nat → Option Addr} (h0 : Ext w0 w') (h : Ext w w') : ExtS w0 w k P w' := ⟨h0, h.size, fun b hb _ => (h.by_ none).block b hb (by simp)⟩
theorem ExtS.drewN {w0 w w' : World} {k : Nat} {P : Nat → Option Addr} (h : ExtS w0 w k P w') (n : Nat) : ExtS w0 w k P (w'.drewN n) := ⟨h.x.drewN n, Nat.le_trans h.z ((Ext.refl w').drewN n).size, fun b hb ho => ((((Ext.refl w').drewN n).by_ none).block b (Nat.lt_of_lt_of_le hb h.z) (by simp)).trans (h.s b hb ho)⟩
theorem ExtS.grown {w0 w w' w2 : World} {k m : Nat} {P : Nat → Option Addr} (h : ExtS w0 w k P w') (hm : m < k) (g : w'.grownBy w2 ((P m).map (·.block))) (hr : ∀ b, (P m).map (·.block) = some b → w0.heap.size ≤ b) : ExtS w0 w k P w2 :=
  ⟨h.x.grown g hr, Nat.le_trans h.z g.size, fun b hb ho => (g.block b (Nat.lt_of_lt_of_le hb h.z) (fun e => by
    cases hp : P m with
    | none => rw [hp] at e; cases e
    | some a => rw [hp] at e; injection e with e; exact ho m hm a hp e.symm)).trans (h.s b hb ho)⟩
theorem ExtS.up {w0 w v w' : World} {k : Nat} {P : Nat → Option Addr} (h : ExtS w0 v k P w') (x : Ext w v) : ExtS w0 w k P w' := ⟨h.x, Nat.le_trans x.size h.z, fun b hb ho => (h.s b (Nat.lt_of_lt_of_le hb x.size) ho).trans ((x.by_ none).block b hb (by simp))⟩
set_option maxHeartbeats 2000000 in
theorem kapartW_s (w0 w : World) (k gb cb : Nat) (P : Nat → Option Addr) (C : Nat → Nat) (X : Nat → List Int) (hR : Rows w0.heap.size k gb P C X X w) (h0 : Ext w0 w) (hk : k ≤ 1000000) (hcb : k ≤ cb) (hcm : cb ≤ 9223372036854775807) (hgb : gb < w.heap.size)
    (hne : ∀ j, j < k → ∀ a, P j = some a → a.block ≠ gb) (hap : ∀ i j, i < k → j < k → i ≠ j → ∀ a b, P i = some a → P j = some b → a.block ≠ b.block) (hX : ∀ j, j < k → (X j).length ≤ 35184372087808 ∧ Wf (X j)) :
    Calls Tryz.prog 70 #[.slice (some ⟨gb, 0, none⟩) k cb] w fun e w' => e = .returned (.bool true) ∧ ExtS w0 w k P w' := by
  have HR := Lib.hid hR
  have H0 := Lib.hid h0
  have HG := Lib.hid hgb
  have HN := Lib.hid hne
  have HAP := Lib.hid hap
  have HXX := Lib.hid hX
  clear hR h0 hgb hne hap hX
  obtain ⟨i0, hi, hz0, hz1, hz2⟩ := info_parts info_words
  go_enter Tryz.func70, Tryz.ntmps70
  go_wp2_with (at_make; refine wpList_make_full w rfl _ _ 99 rfl w.heap.size 24 i0 (.slice none 0 0) 1 Tryz.underlying99 hi hz0 hz1 .i64 .i64 _ _ k rfl rfl rfl rfl (by rw [hz2]; omega) (by unfold maxLen; omega) (Nat.le_refl _) ?_; intro w1 hO hG)
  obtain ⟨gw, hgw⟩ : ∃ gw, gw = w.heap.size := ⟨_, rfl⟩
  obtain ⟨vs0, hvs⟩ : ∃ vs0, vs0 = (madeCells (Value.slice none 0 0).cells (k * 1)).toList := ⟨_, rfl⟩
  rw [← hvs] at hO
  rw [← hgw] at hO ⊢
  have HX1 := Lib.hid ((Ext.refl w).grownNone hG)
  have HO1 := Lib.hid hO
  have HGW := Lib.hid hgw
  have hcell : w1.heap.size > gw := by
    rcases hO.2 with ⟨h', _⟩ | ⟨g', cap', cur, h', hb, hg, _⟩
    · simp at h'
    · simp at h'
      rw [h'.1]
      exact (Array.getElem?_eq_some_iff.1 hg).1
  have HGWL := Lib.hid hcell
  clear hO hG hvs hgw hz0 hz1 hz2 hi hcell
  go_loopw [4] (fun s wr => ∃ (i : Nat) (vs : List Value) (Q : Nat → Option Addr) (D : Nat → Nat), i ≤ k ∧ s = .int .i64 i ∧ Hid (wr.ownsRow gw 24 1 (.slice (some ⟨gw, 0, none⟩) k k) k vs) ∧ Hid (∀ j, j < i → vs[j]? = some (.slice (Q j) (X j).length (D j))) ∧ Hid (∀ j, j < i → Own wr w1.heap.size (Q j) (D j) (X j)) ∧ Hid (Ext w wr) ∧ Hid (w1.heap.size ≤ wr.heap.size)) (fun s _ => k - (intOf s).toNat)
  case atStart => exact ⟨0, vs0, fun _ => none, fun _ => 0, by omega, rfl, HO1.out, fun j hj => by omega, fun j hj => by omega, HX1.out, Nat.le_refl _⟩
  case round =>
    obtain ⟨i, vs, Q, D, hik, rfl, HV, HVE, HQ, HX, HS⟩ := hrel
    by_cases hi : i < k
    · have hidx := HX.out.cell (HR.out.idx i hi)
      have HCP := Lib.hid (kcopy_any (P i) (X i) (C i) (X i).length wr ((HR.out.row i hi).rd.ext HX.out) rfl (by have := (HXX.out i hi).1; omega))
      go_wp2_with fail
      refine HCP.out.mono ?_; rintro e w2 ⟨A2, c2, rfl, h2, hx2⟩
      have HV2 := Lib.hid (HV.out.kept (hx2.by_ none) (.inr (by simp [Value.ownBlock])))
      obtain ⟨u, hu⟩ : ∃ u, vs[i]? = some u := by
        have : vs.length = k := by have := HV.out.1; omega
        exact ⟨_, List.getElem?_eq_getElem (by omega)⟩
      have hco : w2.cell? ⟨gw, i, none⟩ = some u := (HV2.out.cellAt i (by omega)).trans hu
      have hfo := HV2.out.frozenAt i
      have HX2 := Lib.hid (HX.out.trans hx2)
      have H2 := Lib.hid h2
      have HXX2 := Lib.hid hx2
      have hz2 := Lib.hid hx2.size
      have hul := Lib.hid (show i < vs.length by have := HV.out.1; omega)
      clear h2 hx2 hu
      go_wp2_with fail
      have hgw2 := HGW.out
      have hgl2 := HGWL.out
      go_roundw
      case rel => exact ⟨i + 1, vs.set i (.slice A2 (X i).length c2), fun j => if j = i then A2 else Q j, fun j => if j = i then c2 else D j, by omega, by go_num, (HV2.out.stored i _).1, fun j hj => by
          by_cases e : j = i
          · subst e; simp [hul.out]
          · simp only [if_neg e]; rw [List.getElem?_set_ne (by omega)]; exact HVE.out j (by omega), fun j hj => by
          by_cases e : j = i
          · subst e; simp only; exact (H2.out.lower HS.out).setBelow (by simpa using hgl2) _
          · simp only [if_neg e]; exact ((HQ.out j (by omega)).ext HXX2.out).setBelow (by simpa using hgl2) _, HX2.out.setCell (by simp only; omega) _, by
          have h1 := HS.out
          have h2 := hz2.out
          show _ ≤ _
          simp
          omega⟩
      case measure => simp [intOf]; omega
    · obtain rfl : i = k := by omega
      clear hi hik HX1 HO1
      have HRA := Lib.hid (HR.out.ext HX.out)
      have HRB : Hid (Rows w1.heap.size i gw Q D X X wr) := ⟨fun j hj => (HV.out.cellAt j (by omega)).trans (HVE.out j hj), HQ.out⟩
      have H0A := Lib.hid (ExtS.start (k := i) (P := P) (H0.out.trans HX.out) HX.out)
      have HPB := Lib.hid (show ∀ j, j < i → ∀ a, P j = some a → w0.heap.size ≤ a.block ∧ a.block < w.heap.size from fun j hj a ha => by have := HR.out.row j hj; rw [ha] at this; exact this.block)
      have HQB := Lib.hid (show ∀ j, j < i → ∀ a, Q j = some a → w1.heap.size ≤ a.block from fun j hj a ha => by have := HQ.out j hj; rw [ha] at this; exact this.block.1)
      clear HV HVE HQ HX HS HR H0
      go_wp2_with fail
      go_loopw [5] (fun s w' => ∃ (m : Nat) (Z : Nat → List Int), m ≤ i ∧ s = .int .i64 m ∧ Hid (Rows w0.heap.size i gb P C X Z w') ∧ Hid (Rows w1.heap.size i gw Q D X X w') ∧ Hid (∀ j, j < m → (X j).length ≤ (Z j).length ∧ ∀ t, t < (X j).length → nth (Z j) t = nt (nth (X j) t)) ∧ Hid (∀ j, m ≤ j → j < i → Z j = X j) ∧ Hid (ExtS w0 w i P w')) (fun s _ => i - (intOf s).toNat)
      case atStart => exact ⟨0, X, by omega, rfl, HRA.out, HRB.out, fun j hj => by omega, fun _ _ _ => rfl, H0A.out⟩
      case round =>
        clear HRA HRB H0A
        obtain ⟨m, Z, hmi, rfl, HRA, HRB, HE, HF, HX⟩ := hrel
        by_cases hm : m < i
        · have hci := HRA.out.idx m hm
          have hcw := HRB.out.idx m hm
          have hzm := HF.out m (Nat.le_refl _) hm
          have hom := HRA.out.row m hm
          rw [hzm] at hom
          have HOM := Lib.hid hom
          have HSM := Lib.hid (fun q => ksame_any (P m) (Q m) (X m) (X m) (C m) (D m) (X m).length (wr.drewN q) (HOM.out.drewN q).rd ((HRB.out.row m hm).drewN q).rd rfl (X m).length rfl true (decide_eq_true rfl))
          clear hzm hom
          go_wp2_with fail
          go_quiet ((go_at_call 66; exact Calls.quiet_of (HSM.out _)))
          go_wp2_with fail
          refine (kover_any (P m) (X m) w0.heap.size (C m) (X m).length _ (HOM.out.drewN _) rfl (HXX.out m hm).2).mono ?_; rintro e w2 ⟨zs, rfl, h1, h2, h3, h4⟩
          have HRA2 := Lib.hid ((HRA.out.ext ((Ext.refl wr).drewN nq)).turn m zs h1 h4 HN.out hm (fun j hj hne => HAP.out j m hj hm hne))
          have hgw2 := HGW.out
          have hgl2 := HGWL.out
          have HRB2 := Lib.hid ((HRB.out.ext ((Ext.refl wr).drewN nq)).kept h4 (fun e => by
            cases hp : P m with
            | none => rw [hp] at e; cases e
            | some b => rw [hp] at e; injection e with e; have h5 := (HPB.out m hm b hp).2; simp only at e; omega) (fun j hj a ha e => by
            cases hp : P m with
            | none => rw [hp] at e; cases e
            | some b => rw [hp] at e; injection e with e; have h5 := (HPB.out m hm b hp).2; have h6 := HQB.out j hj a ha; simp only at e; omega))
          have HX2 := Lib.hid ((HX.out.drewN nq).grown hm h4 (fun k hk => by
            cases hp : P m with
            | none => rw [hp] at hk; cases hk
            | some b => rw [hp] at hk; injection hk with hk; have h5 := (HPB.out m hm b hp).1; simp only at hk; omega))
          have HE2 := Lib.hid (show ∀ j, j < m + 1 → (X j).length ≤ (if j = m then zs else Z j).length ∧ ∀ t, t < (X j).length → nth (if j = m then zs else Z j) t = nt (nth (X j) t) from fun j hj => by
            by_cases e : j = m
            · subst e; simp only [if_true]; exact ⟨h2, h3⟩
            · simp only [if_neg e]; exact HE.out j (by omega))
          have HF2 := Lib.hid (show ∀ j, m + 1 ≤ j → j < i → (if j = m then zs else Z j) = X j from fun j hj1 hj2 => by
            rw [if_neg (by omega)]; exact HF.out j (by omega) hj2)
          clear h1 h2 h3 h4 hgw2 hgl2
          go_wp2_with fail
          go_roundw
          case rel => exact ⟨m + 1, fun j => if j = m then zs else Z j, by omega, by go_num, HRA2.out, HRB2.out, HE2.out, HF2.out, HX2.out⟩
          case measure => simp [intOf]; omega
        · obtain rfl : m = i := by omega
          clear hm hmi HF
          go_wp2_with fail
          go_loopw [6] (fun s wt => ∃ (n : Nat), n ≤ m ∧ s = .int .i64 n ∧ Hid (Rows w0.heap.size m gb P C X Z wt) ∧ Hid (Rows w1.heap.size m gw Q D X X wt) ∧ Hid (ExtS w0 w m P wt)) (fun s _ => m - (intOf s).toNat)
          case atStart => exact ⟨0, by omega, rfl, HRA.out, HRB.out, HX.out⟩
          case round =>
            clear HRA HRB HX
            obtain ⟨n, hnm, rfl, HRA, HRB, HX⟩ := hrel
            by_cases hn : n < m
            · have hlen : ((X n).length : Int) ≤ 35184372087808 := by have := (HXX.out n hn).1; omega
              go_wp2_with fail
              go_loopw [7] (fun s wt => ∃ (t : Nat), t ≤ (X n).length ∧ s = .int .i64 t ∧ Hid (Rows w0.heap.size m gb P C X Z wt) ∧ Hid (Rows w1.heap.size m gw Q D X X wt) ∧ Hid (ExtS w0 w m P wt)) (fun s _ => (X n).length - (intOf s).toNat)
              case atStart => exact ⟨0, by omega, rfl, HRA.out, HRB.out, HX.out⟩
              case round =>
                clear HRA HRB HX
                obtain ⟨t, htn, rfl, HRA, HRB, HX⟩ := hrel
                have hci := HRA.out.idx n hn
                by_cases ht : t < (X n).length
                · have hcw := HRB.out.idx n hn
                  obtain ⟨a, hpa, hca⟩ := (HRA.out.row n hn).rd.at_ t (by have := (HE.out n hn).1; omega)
                  obtain ⟨b, hqb, hcb'⟩ := (HRB.out.row n hn).rd.at_ t ht
                  rw [(HE.out n hn).2 t ht] at hca
                  rw [hpa] at hci
                  rw [hqb] at hcw
                  have hbn : (nt (nth (X n) t) != bits .xor .u32 (if IntKind.u32.signed = true then -1 else IntKind.u32.max) (nth (X n) t)) = false := bne_eq_false_iff_eq.2 rfl
                  clear hpa hqb
                  go_wp2_with fail
                  go_quiet (fail)
                  go_wp2_with fail
                  go_roundw
                  case rel => exact ⟨t + 1, by omega, by go_num, HRA.out.ext ((Ext.refl _).drewN nq), HRB.out.ext ((Ext.refl _).drewN nq), HX.out.drewN nq⟩
                  case measure => simp [intOf]; omega
                · obtain rfl : t = (X n).length := by omega
                  go_wp2_with fail
                  go_roundw
                  case rel => exact ⟨n + 1, by omega, by go_num, HRA.out, HRB.out, HX.out⟩
                  case measure => simp [intOf]; omega
            · obtain rfl : n = m := by omega
              go_wp2_with fail
              go_ret
              exact ⟨rfl, HX.out⟩
set_option maxHeartbeats 1000000 in
theorem kapartR_s (w0 w : World) (gr o n c : Nat) (P : Nat → Option Addr) (C : Nat → Nat) (X : Nat → List Int) (h : Sides gr o n P C (fun j => (X j).length) w) (h0 : Ext w0 w) (hn : 0 < n) (hn2 : n ≤ 10000)
    (hrow : ∀ j, j < 2 * n → Own w w0.heap.size (P j) (C j) (X j))
    (hap : ∀ i j, i < 2 * n → j < 2 * n → i ≠ j → ∀ a b, P i = some a → P j = some b → a.block ≠ b.block) (hX : ∀ j, j < 2 * n → (X j).length ≤ 35184372087808 ∧ Wf (X j)) :
    Calls Tryz.prog 20 #[.slice (some ⟨gr, o, none⟩) n c] w fun e w' => e = .returned (.bool true) ∧ ExtS w0 w (2 * n) P w' := by
  have H := Lib.hid h
  have H0 := Lib.hid h0
  have HR := Lib.hid hrow
  have HAP := Lib.hid hap
  have HX := Lib.hid hX
  clear h h0 hrow hap hX
  obtain ⟨i0, hi, hz0, hz1, hz2⟩ := info_parts info_words
  have HI := Lib.hid hi
  have HI0 := Lib.hid hz0
  have HI1 := Lib.hid hz1
  have HI2 := Lib.hid hz2
  clear hi hz0 hz1 hz2
  go_enter Tryz.func20, Tryz.ntmps20
  go_wp2_with fail
  go_loopw [3, 4] (fun s t wr => ∃ (i : Nat) (v : Value) (vs : List Value), i ≤ n ∧ v = s ∧ t = .int .i64 i ∧ Hid (wr.ownsRow w.heap.size 24 1 v (2 * i) vs) ∧ Hid (∀ j, j < 2 * i → vs[j]? = some (.slice (P j) (X j).length (C j))) ∧ Hid (Ext w wr)) (fun _ t _ => n - (intOf t).toNat)
  case atStart => exact ⟨0, .slice none 0 0, [], by omega, rfl, rfl, World.ownsRow_nil w _ _ 1, fun j hj => by omega, Ext.refl w⟩
  case round =>
    obtain ⟨i, v, vs, hi, rfl, rfl, HV, HE, HW⟩ := hrel
    by_cases hin : i < n
    · have h1 := (H.out.ext HW.out).num i hin
      have h2 := (H.out.ext HW.out).den i hin
      have HVX := Lib.hid (fun wx (hx : Ext wr wx) => ownsRow_ext HV.out hx)
      have HGE := Lib.hid (ownsRow_ge HV.out)
      have HGR := Lib.hid (World.block_lt_of_cell? w _ (H.out.num i hin))
      have HWS := Lib.hid HW.out.size
      have hnn := Lib.hid (show ∀ r : Option Nat, (∀ b, r = some b → w.heap.size ≤ b) → some gr ≠ r from fun r hr e => by have h3 := hr gr e.symm; have h4 := HGR.out; simp only at h4; omega)
      go_wp2_with fail
      go_region_held_law (fun w' => w'.cell? ⟨gr, o + i * 3 + 1, none⟩ = some (.slice (P (2 * i)) (X (2 * i)).length (C (2 * i))) ∧ w'.cell? ⟨gr, o + i * 3 + 2, none⟩ = some (.slice (P (2 * i + 1)) (X (2 * i + 1)).length (C (2 * i + 1)))) (first | go_keep | exact ⟨k1, k2⟩)
        (first | (refine step_append_lies _ rfl _ _ 99 rfl w.heap.size 24 i0 (.slice none 0 0) 1 24 Tryz.underlying99 HI.out HI0.out HI1.out HI2.out rfl (by decide) v (2 * i) vs rfl (HVX.out _ ((Ext.refl wr).alloc _).drew) _ 2 _ [.slice (P (2 * i)) (X (2 * i)).length (C (2 * i)), .slice (P (2 * i + 1)) (X (2 * i + 1)).length (C (2 * i + 1))] rfl rfl (two_cells wr _ _ _) (by intro u hu; simp at hu; rcases hu with rfl | rfl <;> rfl) (by decide) (by unfold maxLen; omega) (by omega) (by have := HWS.out; simp; omega) _ rfl ?_; intro g cap w2 hown hgrow hat hlt; have k1 : w2.cell? ⟨gr, o + i * 3 + 1, none⟩ = some (.slice (P (2 * i)) (X (2 * i)).length (C (2 * i))) := cell_kept' hgrow (((Ext.refl wr).alloc _).drew.cell h1) (hnn.out _ HGE.out); have k2 : w2.cell? ⟨gr, o + i * 3 + 2, none⟩ = some (.slice (P (2 * i + 1)) (X (2 * i + 1)).length (C (2 * i + 1))) := cell_kept' hgrow (((Ext.refl wr).alloc _).drew.cell h2) (hnn.out _ HGE.out)))
      all_goals
        have HO2 := Lib.hid (show w2.ownsRow w.heap.size 24 1 (.slice (some ⟨g, 0, none⟩) (2 * i + 2) cap) (2 * (i + 1)) _ from hown)
        have HX2 := Lib.hid ((HW.out.alloc _).drew.grown hgrow HGE.out)
        have hvl := Lib.hid (show vs.length = 2 * i by have := HV.out.1; omega)
        have HE2 := Lib.hid (show ∀ j, j < 2 * (i + 1) → (vs ++ [.slice (P (2 * i)) (X (2 * i)).length (C (2 * i)), .slice (P (2 * i + 1)) (X (2 * i + 1)).length (C (2 * i + 1))] : List Value)[j]? = some (.slice (P j) (X j).length (C j)) from fun j hj => by
          have hl := hvl.out
          by_cases e : j < 2 * i
          · rw [List.getElem?_append_left (by omega)]; exact HE.out j e
          · rw [List.getElem?_append_right (by omega), hl]
            by_cases e1 : j = 2 * i
            · subst e1; simp
            · obtain rfl : j = 2 * i + 1 := by omega
              rw [show 2 * i + 1 - 2 * i = 1 by omega]; rfl)
        clear hown hgrow hat hlt k1 k2
        go_wp2_with fail
        go_roundw
        case rel => exact ⟨i + 1, .slice (some ⟨g, 0, none⟩) (2 * i + 2) cap, _, by omega, rfl, by go_num, HO2.out, HE2.out, HX2.out⟩
        case measure => simp [intOf]; omega
    · obtain rfl : i = n := by omega
      have hvc : ∃ g cap, v = .slice (some ⟨g, 0, none⟩) (2 * i) cap ∧ w.heap.size ≤ g ∧ g < wr.heap.size ∧ 2 * i ≤ cap ∧ cap ≤ 9223372036854775807 := by
        rcases HV.out.2 with ⟨_, h2⟩ | ⟨g, cap, cur, h1, h2, h3, h4, h5, _⟩
        · omega
        · exact ⟨g, cap, h1, h2, (Array.getElem?_eq_some_iff.1 h3).1, h4, by simp only [maxLen] at h5; omega⟩
      obtain ⟨g, cap, rfl, hg1, hg2, hg3, hg4⟩ := hvc
      have HRW : Hid (Rows w0.heap.size (2 * i) g P C X X wr) := ⟨fun j hj => (HV.out.cellAt j (by omega)).trans (HE.out j hj), fun j hj => (HR.out j hj).ext HW.out⟩
      have HNE : Hid (∀ j, j < 2 * i → ∀ a, P j = some a → a.block ≠ g) := fun j hj a ha e => by
        have h1 := HR.out j hj
        rw [ha] at h1
        have := h1.block.2
        omega
      have HCA := Lib.hid (kapartW_s w0 wr (2 * i) g cap P C X HRW.out (H0.out.trans HW.out) (by omega) hg3 hg4 hg2 HNE.out HAP.out HX.out)
      clear HV HE
      go_wp2_with fail
      refine HCA.out.mono ?_; rintro e w3 ⟨rfl, hx⟩
      have HX3 := Lib.hid hx
      clear hx
      go_wp2_with fail
      go_ret
      exact ⟨rfl, HX3.out.up HW.out⟩
section
variable {gp : Option Nat} {Z0 : Nat → Prop} {w0 w w' : World} {D : Nat → Prop} {c : Cf} {T : Nat → Option AV} {O : Store} {a : Act} {N : Nat}
theorem Sim.over (S : Sim gp Z0 w0 N D c T O a.tmps w) {ids : List Nat} (hids : ∀ i ∈ ids, ∃ o, O i = some o ∧ o.live = true ∧ ∀ cs, o ≠ .var cs) (h1 : w'.os = w.os) (h2 : w'.tape = w.tape) (h3 : w'.output = w.output) (h4 : w.heap.size ≤ w'.heap.size) (h5 : ∀ g, g < w.heap.size → g ∉ blks c ids → w'.heap[g]? = w.heap[g]?) :
    Sim gp Z0 w0 N D c T (upO O (deads ids)) a.tmps w' ∧ Stay c.Z w w' := by
  have own : ∀ g, g ∈ blks c ids → ∃ i o e, i ∈ ids ∧ O i = some o ∧ o.live = true ∧ (∀ cs, o ≠ .var cs) ∧ c.m i = some e ∧ e.has g := fun g hg => by
    obtain ⟨i, e, hi, he, hh⟩ := blks_mem hg
    obtain ⟨o, o1, o2, o3⟩ := hids i hi
    exact ⟨i, o, e, hi, o1, o2, o3, he, hh⟩
  have st : Stay c.Z w w' := fun g hz => h5 g (S.zl g hz) (fun hg => by
    obtain ⟨i, o, e, _, o1, o2, _, he, hh⟩ := own g hg
    exact S.zo i o e g o1 o2 he hh hz)
  refine ⟨S.step (d := none) (v := .bool true) (av := .c .tt) (ob := deads ids) (c' := c) (w' := w') (D' := D) rfl (Cf.Le.refl c) st rfl (fun i o q1 q2 q3 e g q4 q5 => ?_) (fun i o h => ?_) (fun i o e g h hl => ?_) (fun i j o p e f g h _ hl => ?_) (fun g hz => ⟨Nat.lt_of_lt_of_le (S.zl g hz) h4, S.zz g hz, fun i o f q1 _ q3 q4 q5 => S.zo i o f g q1 q3 q4 q5 hz⟩) S.dom ?_ (fun i cs o q1 q2 => ?_), st⟩
  · refine h5 g ((S.obj i o q1).lt q3 e g q4 q5) (fun hg => ?_)
    obtain ⟨j, p, f, hj, p1, p2, _, hf, hh⟩ := own g hg
    exact S.inj i j o p e f g q1 p1 q3 p2 (fun e0 => by subst e0; rw [look_deads hj] at q2; cases q2) q4 hf q5 hh
  · obtain ⟨rfl, _⟩ := deads_look h
    trivial
  · obtain ⟨rfl, _⟩ := deads_look h
    cases hl
  · obtain ⟨rfl, _⟩ := deads_look h
    cases hl
  · refine ⟨h1.trans S.gr.os, h2.trans S.gr.tape, h3.trans S.gr.output, Nat.le_trans S.gr.size h4, fun k hk hr => ?_⟩
    refine (h5 k (Nat.lt_of_lt_of_le hk S.gr.size) (fun hg => ?_)).trans (S.gr.block k hk hr)
    obtain ⟨i, o, e, _, o1, o2, o3, he, hh⟩ := own k hg
    have := S.gp_not o1 o2 o3 he hh
    omega
  · obtain ⟨rfl, hi⟩ := deads_look q2
    obtain ⟨o, o1, _, o3⟩ := hids i hi
    rw [q1] at o1
    cases o1
    exact absurd rfl (o3 cs)
end
def cut (w : World) (n : Nat) : World := { w with heap := w.heap.extract 0 n }
theorem cut_ext {w : World} {n : Nat} (h : n ≤ w.heap.size) : Ext (cut w n) w ∧ (cut w n).heap.size = n := by
  have hs : (cut w n).heap.size = n := by simp [cut]; omega
  refine ⟨⟨rfl, rfl, rfl, by rw [hs]; exact h, fun k hk => ?_⟩, hs⟩
  rw [hs] at hk
  show w.heap[k]? = (w.heap.extract 0 n)[k]?
  rw [Array.getElem?_extract]
  rw [if_pos (by omega), Nat.zero_add]
theorem own_rq {Z : Nat → Prop} {w : World} {base : Nat} {xs : List Int} {v : Value} {bs : List Nat} (h : RQ true Z w base tW32 xs [v] bs) : ∃ A c, v = .slice A xs.length c ∧ bs = blkA A ∧ Own w base A c xs ∧ Wf xs := by
  unfold RQ at h
  rw [if_pos rfl] at h
  rcases h with ⟨rfl, h1, rfl⟩ | h
  · cases h1
    exact ⟨none, 0, rfl, rfl, Own.nil _ _, fun x hx => by cases hx⟩
  · obtain ⟨g, cp, cells, h1, rfl, h3, h4, h5, h6, h7, h8, _⟩ := ty_of_rowQ (Z := Z) (m := 0) rfl h
    cases h1
    have hl : xs.length ≤ cp := by simpa [mks] using h6
    have h5 : cells.size = cp := by rw [h5]; exact Nat.mul_one cp
    have el : ∀ (j : Nat) (hj : j < xs.length), (0 ≤ xs[j] ∧ xs[j] ≤ 4294967295) ∧ cells[j]? = some (.int .u32 xs[j]) := fun j hj => by
      obtain ⟨us, k1, k2⟩ := h8 j hj
      rw [RT] at k1
      obtain ⟨rfl, k3⟩ := k1
      refine ⟨k3, ?_⟩
      have := k2 0 _ rfl
      rw [cell_of h4, show 0 + (j * (Ty.it IntKind.u32).size + 0) = j by show 0 + (j * 1 + 0) = j; omega] at this
      exact this
    refine ⟨some ⟨g, 0, none⟩, cp, rfl, rfl, Own.mk h3 h4 hl h7 h5 ?_, fun x hx => ?_⟩
    · apply List.ext_getElem?
      intro j
      unfold nums
      rw [List.getElem?_map]
      by_cases hj : j < xs.length
      · rw [List.getElem?_take, if_pos hj, Array.getElem?_toList, (el j hj).2, List.getElem?_eq_getElem hj]; rfl
      · rw [List.getElem?_eq_none (by rw [List.length_take]; omega), List.getElem?_eq_none (by omega)]; rfl
    · obtain ⟨j, hj, rfl⟩ := List.getElem_of_mem hx
      have := (el j hj).1
      exact ⟨this.1, Int.lt_of_le_of_lt this.2 (by decide)⟩
theorem own_rqR {Z : Nat → Prop} {w : World} {base : Nat} {x : El tR} {vs : List Value} {bs : List Nat} (h : RQ true Z w base tR x vs bs) (hn : bs.Nodup) : ∃ p : Adr, vs = [.bool (toFr x).neg, .slice p.A (toFr x).num.length p.c, .slice p.B (toFr x).den.length p.d] ∧ bs = blkA p.A ++ blkA p.B ∧ OF w base p (toFr x) := by
  obtain ⟨u1, u2, b1, b2, rfl, rfl, h1, h2⟩ := h
  obtain ⟨u3, u4, b3, b4, rfl, rfl, h3, h4⟩ := h2
  obtain ⟨u5, u6, b5, b6, rfl, rfl, h5, h6⟩ := h4
  obtain ⟨h1, rfl⟩ := h1
  obtain ⟨rfl, rfl⟩ := h6
  rw [RT] at h1
  subst h1
  have l3 := (h3.rt (Z' := fun _ => True) rfl (fun _ _ => trivial)).len
  have l5 := (h5.rt (Z' := fun _ => True) rfl (fun _ _ => trivial)).len
  match u3, l3 with
  | [v3], _ =>
    match u5, l5 with
    | [v5], _ =>
      obtain ⟨A, ca, rfl, rfl, oa, wa⟩ := own_rq h3
      obtain ⟨B, cb, rfl, rfl, ob, wb⟩ := own_rq h5
      refine ⟨⟨A, ca, B, cb⟩, rfl, by simp, oa, ob, fun a b ha hb e => ?_, wa, wb⟩
      have ha : A = some a := ha
      have hb : B = some b := hb
      subst ha hb
      simp only [blkA, List.append_nil, List.nil_append] at hn
      exact (List.nodup_cons.1 hn).1 (by rw [e]; exact List.mem_singleton.2 rfl)
theorem blkA_mem {A : Option Addr} {g : Nat} : g ∈ blkA A ↔ ∃ a, A = some a ∧ a.block = g := by
  cases A with
  | none => simp [blkA]
  | some a => simp [blkA, eq_comm]
structure FA (w : World) (base : Nat) (fs : List Fr) (vs : List Value) (bs : List Nat) (L : List (Adr × Fr)) : Prop where
  cells : cellsF L = vs
  fr : L.map (·.2) = fs
  own : ∀ (i : Nat) (p : Adr) (f : Fr), L[i]? = some (p, f) → OF w base p f
  blk : (L.flatMap fun p => blkA p.1.A ++ blkA p.1.B) = bs
theorem FA.nil (w : World) (base : Nat) : FA w base [] [] [] [] := ⟨rfl, rfl, fun i p f h => by simp at h, rfl⟩
theorem FA.append {w : World} {base : Nat} {fs gs : List Fr} {vs us : List Value} {bs cs : List Nat} {L M : List (Adr × Fr)} (h : FA w base fs vs bs L) (k : FA w base gs us cs M) : FA w base (fs ++ gs) (vs ++ us) (bs ++ cs) (L ++ M) :=
  ⟨by rw [cellsF_app, h.cells, k.cells], by rw [List.map_append, h.fr, k.fr], fun i p f e => by
    by_cases hi : i < L.length
    · rw [List.getElem?_append_left hi] at e; exact h.own i p f e
    · rw [List.getElem?_append_right (by omega)] at e; exact k.own _ p f e, by rw [List.flatMap_append, h.blk, k.blk]⟩
theorem FA.one {Z : Nat → Prop} {w : World} {base : Nat} {x : El tR} {vs : List Value} {bs : List Nat} (h : RQ true Z w base tR x vs bs) (hn : bs.Nodup) : ∃ L, FA w base [toFr x] vs bs L := by
  obtain ⟨p, rfl, rfl, o⟩ := own_rqR h hn
  refine ⟨[(p, toFr x)], rfl, rfl, fun i q f e => ?_, by simp⟩
  cases i with
  | zero => cases e; exact o
  | succ i => simp at e
theorem FA.of {t : Ty} {w : World} {base : Nat} {F : El t → List Fr} (hF : ∀ (x : El t) (vs : List Value) (bs : List Nat), RQ true noZ w base t x vs bs → bs.Nodup → ∃ L, FA w base (F x) vs bs L) : ∀ {l : List (El t)} {vs : List Value} {bb : List (List Nat)}, FQ w t l vs bb → (∀ g ∈ bb.flatten, base ≤ g) → bb.flatten.Nodup → ∃ L, FA w base (l.flatMap F) vs bb.flatten L
  | [], vs, bb, h, _, _ => by
    have e1 : vs = [] := List.eq_nil_of_length_eq_zero (by simpa using h.len)
    have e2 : bb = [] := List.eq_nil_of_length_eq_zero h.bl
    subst e1 e2
    exact ⟨[], FA.nil _ _⟩
  | x :: l, vs, [], h, _, _ => by have := h.bl; simp at this
  | x :: l, vs, b :: bb, h, hb, hn => by
    rw [List.flatten_cons] at hb hn ⊢
    have hl := h.len
    rw [List.length_cons, Nat.add_mul, Nat.one_mul] at hl
    have h0 := h.at_ 0 (Nat.zero_lt_succ _) b rfl
    rw [Nat.zero_mul, List.drop_zero] at h0
    obtain ⟨L, hL⟩ := hF x _ _ (h0.mono (fun g hg _ => hb g (List.mem_append.2 (.inl hg))) (fun _ _ => rfl)) (hn.sublist (List.sublist_append_left _ _))
    have h1 : FQ w t l (vs.drop t.size) bb := ⟨by rw [List.length_drop]; omega, by simpa using h.bl, fun j hj c hc => by
      have := h.at_ (j + 1) (Nat.succ_lt_succ hj) c (by simpa using hc)
      rw [List.drop_drop, show t.size + j * t.size = (j + 1) * t.size by rw [Nat.add_mul, Nat.one_mul, Nat.add_comm]]
      exact this⟩
    obtain ⟨M, hM⟩ := FA.of hF h1 (fun g hg => hb g (List.mem_append.2 (.inr hg))) (hn.sublist (List.sublist_append_right _ _))
    have := hL.append hM
    rw [List.take_append_drop] at this
    exact ⟨L ++ M, by rw [List.flatMap_cons]; exact this⟩
theorem flat_blk_mem {L : List (Adr × Fr)} {i : Nat} {p : Adr} {f : Fr} (h : L[i]? = some (p, f)) {a : Addr} (ha : p.A = some a ∨ p.B = some a) : a.block ∈ L.flatMap fun p => blkA p.1.A ++ blkA p.1.B := by
  refine List.mem_flatMap.2 ⟨(p, f), List.mem_of_getElem? h, ?_⟩
  rcases ha with ha | ha
  · exact List.mem_append.2 (.inl (blkA_mem.2 ⟨a, ha, rfl⟩))
  · exact List.mem_append.2 (.inr (blkA_mem.2 ⟨a, ha, rfl⟩))
theorem flat_dis : ∀ {L : List (Adr × Fr)}, (L.flatMap fun p => blkA p.1.A ++ blkA p.1.B).Nodup → ∀ (i j : Nat) (p : Adr) (f : Fr) (q : Adr) (h : Fr), i ≠ j → L[i]? = some (p, f) → L[j]? = some (q, h) → p.Dis q
  | [], _, i, _, _, _, _, _, _, e, _ => by simp at e
  | r :: L, hn, i, j, p, f, q, h, hij, e1, e2 => by
    rw [List.flatMap_cons] at hn
    obtain ⟨n1, n2, n3⟩ := List.nodup_append.1 hn
    have one : ∀ {k : Nat} {q : Adr} {h : Fr}, L[k]? = some (q, h) → r.1.Dis q := fun {k q h} e => by
      have mA : ∀ a, r.1.A = some a → a.block ∈ blkA r.1.A ++ blkA r.1.B := fun a ha => List.mem_append.2 (.inl (blkA_mem.2 ⟨a, ha, rfl⟩))
      have mB : ∀ a, r.1.B = some a → a.block ∈ blkA r.1.A ++ blkA r.1.B := fun a ha => List.mem_append.2 (.inr (blkA_mem.2 ⟨a, ha, rfl⟩))
      exact ⟨fun a b ha hb => n3 _ (mA a ha) _ (flat_blk_mem e (.inl hb)), fun a b ha hb => n3 _ (mA a ha) _ (flat_blk_mem e (.inr hb)), fun a b ha hb => n3 _ (mB a ha) _ (flat_blk_mem e (.inl hb)), fun a b ha hb => n3 _ (mB a ha) _ (flat_blk_mem e (.inr hb))⟩
    cases i with
    | zero =>
      cases j with
      | zero => exact absurd rfl hij
      | succ j => cases e1; exact one (by simpa using e2)
    | succ i =>
      cases j with
      | zero => cases e2; exact (one (by simpa using e1)).symm
      | succ j => exact flat_dis n2 i j p f q h (by omega) (by simpa using e1) (by simpa using e2)
theorem kApartB (L : List (Adr × Fr)) (g c : Nat) (w0 w : World) (hc : CellsAt g L w) (hr : ∀ (i : Nat) (p : Adr) (f : Fr), L[i]? = some (p, f) → OF w w0.heap.size p f ∧ Few f)
    (hd : ∀ (i j : Nat) (p : Adr) (f : Fr) (q : Adr) (h : Fr), i ≠ j → L[i]? = some (p, f) → L[j]? = some (q, h) → p.Dis q) (h0 : Ext w0 w) (hn : 0 < L.length) (hn2 : L.length ≤ 10000) (n : Nat) (hl : L.length = n) :
    Calls Tryz.prog 20 #[.slice (some ⟨g, 0, none⟩) n c] w fun e w' => e = .returned (.bool true) ∧ Ext w0 w' ∧ w.heap.size ≤ w'.heap.size ∧ ∀ b, b < w.heap.size → (b ∉ L.flatMap fun p => blkA p.1.A ++ blkA p.1.B) → w'.heap[b]? = w.heap[b]? := by
  subst hl
  have at_ : ∀ i, i < L.length → ∃ p f, L[i]? = some (p, f) := fun i hi => ⟨_, _, List.getElem?_eq_getElem hi⟩
  have par : ∀ j, j < 2 * L.length → ∃ i p f, L[i]? = some (p, f) ∧ (j = 2 * i ∨ j = 2 * i + 1) := fun j hj => by
    obtain ⟨p, f, h⟩ := at_ (j / 2) (by omega)
    exact ⟨j / 2, p, f, h, by omega⟩
  refine (kapartR_s w0 w g 0 L.length c (rowA L) (rowC L) (rowX L) ⟨fun j hj => ?_, fun j hj => ?_⟩ h0 hn hn2 (fun j hj => ?_) (fun i j hi hj hij a b ha hb => ?_) (fun j hj => ?_)).mono (fun e w' h => ⟨h.1, h.2.x, h.2.z, fun b hb hO => h.2.s b hb (fun j hj a ha => ?_)⟩)
  · obtain ⟨p, f, h⟩ := at_ j hj
    obtain ⟨e1, e2, e3⟩ := row_even h
    rw [e1, e2, e3, Nat.zero_add]
    exact hc _ _ (cellsF_at L j p f h).2.1
  · obtain ⟨p, f, h⟩ := at_ j hj
    obtain ⟨e1, e2, e3⟩ := row_odd h
    rw [e1, e2, e3, Nat.zero_add]
    exact hc _ _ (cellsF_at L j p f h).2.2
  · obtain ⟨i, p, f, h, rfl | rfl⟩ := par j hj
    · obtain ⟨e1, e2, e3⟩ := row_even h
      rw [e1, e2, e3]; exact (hr i p f h).1.num
    · obtain ⟨e1, e2, e3⟩ := row_odd h
      rw [e1, e2, e3]; exact (hr i p f h).1.den
  · obtain ⟨k, p, f, h, ek⟩ := par i hi
    obtain ⟨l, q, t, h', el⟩ := par j hj
    obtain ⟨a1, _, _⟩ := row_even h
    obtain ⟨a2, _, _⟩ := row_odd h
    obtain ⟨b1, _, _⟩ := row_even h'
    obtain ⟨b2, _, _⟩ := row_odd h'
    by_cases e : k = l
    · subst e
      rw [h] at h'
      cases h'
      have ap := (hr k p f h).1.ap
      rcases ek with rfl | rfl <;> rcases el with rfl | rfl
      · exact absurd rfl hij
      · rw [a1] at ha; rw [b2] at hb; exact ap a b ha hb
      · rw [a2] at ha; rw [b1] at hb; exact (ap b a hb ha).symm
      · exact absurd rfl hij
    · have D := hd k l p f q t e h h'
      rcases ek with rfl | rfl <;> rcases el with rfl | rfl
      · rw [a1] at ha; rw [b1] at hb; exact D.aa a b ha hb
      · rw [a1] at ha; rw [b2] at hb; exact D.ab a b ha hb
      · rw [a2] at ha; rw [b1] at hb; exact D.ba a b ha hb
      · rw [a2] at ha; rw [b2] at hb; exact D.bb a b ha hb
  · obtain ⟨i, p, f, h, rfl | rfl⟩ := par j hj
    · obtain ⟨e1, e2, e3⟩ := row_even h
      rw [e3]; exact ⟨(hr i p f h).2.1, (hr i p f h).1.wf.num⟩
    · obtain ⟨e1, e2, e3⟩ := row_odd h
      rw [e3]; exact ⟨(hr i p f h).2.2, (hr i p f h).1.wf.den⟩
  · obtain ⟨i, p, f, h, rfl | rfl⟩ := par j hj
    · obtain ⟨e1, e2, e3⟩ := row_even h
      rw [e1] at ha; exact fun e => hO (e ▸ flat_blk_mem h (.inl ha))
    · obtain ⟨e1, e2, e3⟩ := row_odd h
      rw [e1] at ha; exact fun e => hO (e ▸ flat_blk_mem h (.inr ha))
def fews (fs : List Fr) : Prop := ∀ f ∈ fs, Few f
def p_apart (t : Ty) (F : El t → List Fr) : Prim := fun xs O _ => match xs with
  | [.c (.ow k)] => match giveR O t k with
    | some (l, ids) => bif nodupN ids then some (some (0 < l.length ∧ l.length ≤ 5000 ∧ fews (l.flatMap F)), .e ⟨.c .tt, deads ids, 0⟩) else none
    | none => none
  | _ => none
def p_apartR : Prim := p_apart tR fun x => [toFr x]
theorem cond_none1 {b : Bool} {α : Type 1} {x : Option α} {y : α} (h : (bif b then x else none) = some y) : b = true ∧ x = some y := by
  cases b with
  | true => exact ⟨rfl, h⟩
  | false => cases h
theorem apart_prim {P : Program} {f : Nat} {t : Ty} {F : El t → List Fr} (hnop : t.nop = true) (hsz : 0 < t.size) (hE : ∀ (vs : Array Value) (w : World), (callFunc f vs).run P w = .ok (.enter f vs) w)
    (hF : ∀ (w : World) (base : Nat) (x : El t) (vs : List Value) (bs : List Nat), RQ true noZ w base t x vs bs → bs.Nodup → ∃ L, FA w base (F x) vs bs L)
    (hC : ∀ (L : List (Adr × Fr)) (l : List (El t)) (g c : Nat) (w0 w : World), L.map (·.2) = l.flatMap F → CellsAt g L w → (∀ (i : Nat) (p : Adr) (f : Fr), L[i]? = some (p, f) → OF w w0.heap.size p f ∧ Few f) → (∀ (i j : Nat) (p : Adr) (f : Fr) (q : Adr) (h : Fr), i ≠ j → L[i]? = some (p, f) → L[j]? = some (q, h) → p.Dis q) → Ext w0 w → 0 < l.length → l.length ≤ 5000 → g < w.heap.size →
      Calls P f #[.slice (some ⟨g, 0, none⟩) l.length c] w fun e w' => e = .returned (.bool true) ∧ Ext w0 w' ∧ w.heap.size ≤ w'.heap.size ∧ ∀ b, b < w.heap.size → (b ∉ L.flatMap fun p => blkA p.1.A ++ blkA p.1.B) → w'.heap[b]? = w.heap[b]?) : PrimOk P f (p_apart t F) := by
  refine ⟨hE, fun gp Z0 w0 N D c T O O' a w xs vs n cd G S hO hl hv h hfr hc => ?_⟩
  unfold p_apart at h
  split at h
  · rename_i k
    split at h
    · rename_i l ids hg
      obtain ⟨hnd, h⟩ := cond_none1 h
      cases h
      obtain ⟨h1, h2, h3⟩ : 0 < l.length ∧ l.length ≤ 5000 ∧ fews (l.flatMap F) := hc
      match vs, hl with
      | ⟨[v]⟩, _ =>
        obtain ⟨A, cp, us, bb, rfl, q1, q2, q3, q4⟩ := giveR_sound S hO hg (hv 0 v _ rfl rfl)
        obtain ⟨g, rfl, q5⟩ := q4 h1
        have own : ∀ i ∈ ids, ∃ o, O i = some o ∧ o.live = true ∧ ∀ cs, o ≠ .var cs := fun i hi => by
          obtain ⟨o, o1, o2, _⟩ := q3 i hi
          exact ⟨o, o1, o2, fun cs e => by subst e; exact giveR_not_var hO hnop hg hi o1⟩
        have nd : bb.flatten.Nodup := (blks_nodup S (nodupN_sound hnd) (fun i hi => let ⟨o, o1, o2, _⟩ := own i hi; ⟨o, o1, o2⟩)).sublist q2
        have base : ∀ b ∈ bb.flatten, w0.heap.size ≤ b := fun b hb => by
          obtain ⟨i, e, hi, he, hh⟩ := blks_mem (q2.subset hb)
          obtain ⟨o, o1, o2, o3⟩ := own i hi
          exact S.gp_not o1 o2 o3 he hh
        obtain ⟨x1, x2⟩ := cut_ext S.gr.size
        obtain ⟨L, hL⟩ := FA.of (base := w0.heap.size) (fun x vs bs => hF w w0.heap.size x vs bs) q1 base nd
        have hcell : CellsAt g L w := fun j u hu => by
          rw [hL.cells] at hu
          have := q5 j u hu
          rwa [Nat.zero_add] at this
        have hgl : g < w.heap.size := by
          have hpos : 0 < us.length := by
            rw [q1.len]
            exact Nat.mul_pos h1 hsz
          exact World.block_lt_of_cell? w _ (q5 0 _ (List.getElem?_eq_getElem hpos))
        refine (hC L l g cp (cut w w0.heap.size) w hL.fr hcell (fun i p f e => ⟨by rw [x2]; exact hL.own i p f e, h3 f (by rw [← hL.fr]; exact List.mem_map.2 ⟨(p, f), List.mem_of_getElem? e, rfl⟩)⟩) (flat_dis (by rw [hL.blk]; exact nd)) x1 h1 h2 hgl).mono ?_
        rintro e w' ⟨rfl, y1, y2, y3⟩
        obtain ⟨S1, st⟩ := S.over own (w' := w') y1.os y1.tape y1.output y2 (fun b hb ho => y3 b hb (by rw [hL.blk]; exact fun hm => ho (q2.subset hm)))
        refine ⟨.bool true, c, rfl, fun d hd => ?_⟩
        exact (S1.value hd (v := .bool true) (av := .c .tt) rfl).dom_mono (fun i h => .inl h)
    · cases h
  · cases h
theorem len_flat {α β : Type} {k : Nat} {f : α → List β} (hf : ∀ x, (f x).length = k) : ∀ l : List α, (l.flatMap f).length = k * l.length
  | [] => rfl
  | x :: l => by rw [List.flatMap_cons, List.length_append, hf, len_flat hf l, List.length_cons, Nat.mul_add, Nat.mul_one, Nat.add_comm]
theorem pr_apartR : PrimOk Tryz.prog 20 p_apartR :=
  apart_prim rfl (by decide) (callFunc_enter Tryz.func20 (by kernel_rfl) rfl) (fun w base x vs bs h hn => FA.one h hn)
    (fun L l g c w0 w hL hc hr hd h0 hn hn2 hg => by
      have hl : L.length = l.length := by rw [← List.length_map (f := (·.2)), hL, len_flat (k := 1) (fun _ => rfl), Nat.one_mul]
      exact kApartB L g c w0 w hc hr hd h0 (by omega) (by omega) _ hl)
def Spec.rd (S : Spec) : Spec := { S with fresh := false }
theorem RQ.read {Z Z' : Nat → Prop} {w : World} {base base' : Nat} : ∀ {t : Ty} {x : El t} {vs : List Value} {bs : List Nat}, t.nop = true → (∀ g ∈ bs, Z' g) → RQ true Z w base t x vs bs → RQ false Z' w base' t x vs []
  | .bo, _, _, _, hn, hz, h => ⟨h.rt hn hz, rfl⟩
  | .it _, _, _, _, hn, hz, h => ⟨h.rt hn hz, rfl⟩
  | .st, _, _, _, hn, hz, h => ⟨h.rt hn hz, rfl⟩
  | .oq, _, _, _, hn, hz, h => ⟨h.rt hn hz, rfl⟩
  | .un, _, _, _, _, _, h => ⟨h.1, rfl⟩
  | .fn, _, _, _, hn, _, _ => by cases hn
  | .pt _, _, _, _, hn, _, _ => by cases hn
  | .sl t, l, vs, bs, hn, hz, h => by
    have r := h.rt hn hz
    unfold RQ
    rw [if_neg (by simp)]
    exact ⟨r, rfl⟩
  | .lt t, l, vs, bs, hn, hz, h => by
    have r := h.rt hn hz
    unfold RQ
    rw [if_neg (by simp)]
    exact ⟨r, rfl⟩
  | .lf t, l, vs, bs, hn, hz, h => by
    have r := h.rt hn hz
    unfold RQ
    rw [if_neg (by simp)]
    exact ⟨r, rfl⟩
  | .pr a b, x, vs, bs, hn, hz, h => by
    simp only [Ty.nop, Bool.and_eq_true] at hn
    obtain ⟨us, us', cs, cs', e, rfl, h1, h2⟩ := h
    exact ⟨us, us', [], [], e, rfl, RQ.read hn.1 (fun g hg => hz g (by simp [hg])) h1, RQ.read hn.2 (fun g hg => hz g (by simp [hg])) h2⟩
theorem RQs.read {Z Z' : Nat → Prop} {w : World} {base base' : Nat} : ∀ {ts : List Ty} {x : Els ts} {vs : List Value} {bs : List Nat}, ts.all Ty.nop = true → (∀ g ∈ bs, Z' g) → RQs true Z w base ts x vs bs → RQs false Z' w base' ts x vs []
  | [], _, [], _, _, _, _ => rfl
  | [], _, _ :: _, _, _, _, h => h.elim
  | _ :: _, _, [], _, _, _, h => h.elim
  | t :: ts, x, v :: vs, bs, hn, hz, h => by
    rw [List.all_cons, Bool.and_eq_true] at hn
    obtain ⟨b, b', rfl, h1, h2⟩ := h
    refine ⟨[], [], rfl, ?_, RQs.read hn.2 (fun g hg => hz g (by simp [hg])) h2⟩
    unfold RQv at h1 ⊢
    split
    · rename_i ha; rw [if_pos ha] at h1; obtain ⟨us, e, h1⟩ := h1; exact ⟨us, e, RQ.read hn.1 (fun g hg => hz g (by simp [hg])) h1⟩
    · rename_i ha; rw [if_neg ha] at h1; exact RQ.read hn.1 (fun g hg => hz g (by simp [hg])) h1
theorem RQs.lt_ {Z : Nat → Prop} {w : World} {base : Nat} : ∀ {ts : List Ty} {x : Els ts} {vs : List Value} {bs : List Nat}, RQs true Z w base ts x vs bs → ∀ g ∈ bs, base ≤ g ∧ g < w.heap.size
  | [], _, [], _, h, g, hg => by cases h; cases hg
  | [], _, _ :: _, _, h, _, _ => h.elim
  | _ :: _, _, [], _, h, _, _ => h.elim
  | t :: ts, x, v :: vs, bs, h, g, hg => by
    obtain ⟨b, b', rfl, h1, h2⟩ := h
    rcases List.mem_append.1 hg with hg | hg
    · unfold RQv at h1
      split at h1
      · obtain ⟨us, _, h1⟩ := h1; exact h1.lt_ g hg
      · exact h1.lt_ g hg
    · exact RQs.lt_ h2 g hg
theorem FnOk.read {P : Program} {f : Nat} {S : Spec} (h : FnOk P f S) (hf : S.fresh = true := by rfl) (hk : S.rs.all Ty.nop = true := by rfl) : FnOk P f S.rd := by
  obtain ⟨q, ps, rs, fresh, pre, post⟩ := S
  cases hf
  refine ⟨h.1, fun Z w gv vs y x h1 h2 h3 h4 h5 => (h.2 Z w gv vs y x h1 h2 h3 h4 h5).mono ?_⟩
  rintro e w' ⟨v, us, bs, Z', rfl, t1, t2, t3, t4, t5, t6, t7, t8, t9⟩
  refine ⟨v, us, [], fun g => Z' g ∨ g ∈ bs, rfl, t1, RQs.read hk (fun g hg => .inr hg) t2, List.nodup_nil, (fun g hg => by cases hg), fun g hg => .inl (t5 g hg), fun g hg => ?_, fun g hg => ?_, t8, fun hp => ?_⟩
  · rcases hg with hg | hg
    · exact t6 g hg
    · exact .inr (RQs.lt_ t2 g hg).1
  · rcases hg with hg | hg
    · exact t7 g hg
    · exact (RQs.lt_ t2 g hg).2
  · obtain ⟨cells, et, u1, u2⟩ := t9 hp
    exact ⟨cells, et, u1, u2.zone (fun g hg => .inl hg)⟩
theorem gtell_few {e : Int} {r i : Fr} (h : Few r) (k : Few i) : FewG (gtell e r i).1 := by
  unfold gtell
  split
  · exact ⟨few_zero, few_zero⟩
  · exact ⟨h, k⟩
theorem wadd_few (e : Int) (a b : Fr) : Few (wadd e a b).1 := (stp_good (fadd_good a b)).few
theorem wsub_few (e : Int) (a b : Fr) : Few (wsub e a b).1 := (stp_good (fsub_good a b)).few
theorem gadd_few (a b : Ga) : FewG (gadd a b).1 := gtell_few (wadd_few _ _ _) (wadd_few _ _ _)
theorem gmul_few (a b : Ga) : FewG (gmul a b).1 := gtell_few (wsub_few _ _ _) (wadd_few _ _ _)
end Go.Proofs.YtakaehdolpmelaaGreat
