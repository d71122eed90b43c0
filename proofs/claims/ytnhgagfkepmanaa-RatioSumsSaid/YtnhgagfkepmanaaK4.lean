/- ApartWords. -/
import Derived.Test.YtnhgagfkepmanaaK3
namespace Go.Proofs.Ytnhgagfkepmanaa
open Go Go.RowKit

theorem info_words : (Try.prog.info? 22).map (fun i => (i.zero, i.size, i.bytes)) = some (some (.slice none 0 0), 1, 24) := by kernel_rfl

/-- a slice of words as a cell -/
def sl (A : Option Addr) (n c : Nat) : Value := .slice A n c

/-- rows of words of the call's own, told by a row of slices at gb -/
structure Rows (base k gb : Nat) (P : Nat → Option Addr) (C : Nat → Nat) (X Z : Nat → List Int) (w : World) : Prop where
  idx : ∀ j, j < k → w.cell? ⟨gb, j, none⟩ = some (.slice (P j) (X j).length (C j))
  row : ∀ j, j < k → Own w base (P j) (C j) (Z j)

theorem cell_kept' {w w' : World} {row : Option Nat} (h : w.grownBy w' row) {g j : Nat} {v : Value} (hc : w.cell? ⟨g, j, none⟩ = some v) (hne : some g ≠ row) : w'.cell? ⟨g, j, none⟩ = some v := h.cell hc hne

theorem Rows.ext {base k gb : Nat} {P : Nat → Option Addr} {C : Nat → Nat} {X Z : Nat → List Int} {w w' : World} (h : Rows base k gb P C X Z w) (e : Ext w w') : Rows base k gb P C X Z w' :=
  ⟨fun j hj => e.cell (h.idx j hj), fun j hj => (h.row j hj).ext e⟩
theorem Rows.kept {base k gb : Nat} {P : Nat → Option Addr} {C : Nat → Nat} {X Z : Nat → List Int} {w w' : World} {r : Option Nat} (h : Rows base k gb P C X Z w) (e : w.grownBy w' r) (h1 : some gb ≠ r) (h2 : ∀ j, j < k → ∀ a, P j = some a → some a.block ≠ r) : Rows base k gb P C X Z w' :=
  ⟨fun j hj => cell_kept' e (h.idx j hj) h1, fun j hj => (h.row j hj).kept e (h2 j hj)⟩
/-- one of them is written over -/
theorem Rows.turn {base k gb : Nat} {P : Nat → Option Addr} {C : Nat → Nat} {X Z : Nat → List Int} {w w' : World} (h : Rows base k gb P C X Z w) (i : Nat) (zs : List Int) (ho : Own w' base (P i) (C i) zs) (e : w.grownBy w' ((P i).map (·.block)))
    (h1 : ∀ j, j < k → ∀ a, P j = some a → a.block ≠ gb) (hi : i < k) (hap : ∀ j, j < k → j ≠ i → ∀ a b, P j = some a → P i = some b → a.block ≠ b.block) : Rows base k gb P C X (fun j => if j = i then zs else Z j) w' := by
  have hne : ∀ g, (∀ b, P i = some b → g ≠ b.block) → some g ≠ (P i).map (·.block) := fun g hg e => by
    cases hp : P i with
    | none => rw [hp] at e; cases e
    | some b => rw [hp] at e; injection e with e; exact hg b hp e
  refine ⟨fun j hj => cell_kept' e (h.idx j hj) (hne _ fun b hb e => h1 i hi b hb e.symm), fun j hj => ?_⟩
  by_cases hji : j = i
  · subst hji; simpa using ho
  · simp only [if_neg hji]
    exact (h.row j hj).kept e (fun a ha => hne _ (fun b hb => hap j hj hji a b ha hb))

set_option maxHeartbeats 2000000 in
theorem kapartW_any (w0 w : World) (k gb cb : Nat) (P : Nat → Option Addr) (C : Nat → Nat) (X : Nat → List Int) (hR : Rows w0.heap.size k gb P C X X w) (h0 : Ext w0 w) (hk : k ≤ 1000000) (hcb : k ≤ cb) (hcm : cb ≤ 9223372036854775807) (hgb : gb < w.heap.size)
    (hne : ∀ j, j < k → ∀ a, P j = some a → a.block ≠ gb) (hap : ∀ i j, i < k → j < k → i ≠ j → ∀ a b, P i = some a → P j = some b → a.block ≠ b.block) (hX : ∀ j, j < k → (X j).length ≤ 1000000 ∧ Wf (X j)) :
    Calls Try.prog 28 #[.slice (some ⟨gb, 0, none⟩) k cb] w fun e w' => e = .returned (.bool true) ∧ Ext w0 w' := by
  have HR := Lib.hid hR
  have H0 := Lib.hid h0
  have HG := Lib.hid hgb
  have HN := Lib.hid hne
  have HAP := Lib.hid hap
  have HXX := Lib.hid hX
  clear hR h0 hgb hne hap hX
  obtain ⟨i0, hi, hz0, hz1, hz2⟩ := info_parts info_words
  go_enter Try.func28, Try.ntmps28
  go_wp2_with (at_make; refine wpList_make_full w rfl _ _ 49 rfl w.heap.size 22 i0 (.slice none 0 0) 1 Try.underlying49 hi hz0 hz1 .i64 .i64 _ _ k rfl rfl rfl rfl (by rw [hz2]; omega) (by unfold maxLen; omega) (Nat.le_refl _) ?_; intro w1 hO hG)
  obtain ⟨gw, hgw⟩ : ∃ gw, gw = w.heap.size := ⟨_, rfl⟩
  obtain ⟨vs0, hvs⟩ : ∃ vs0, vs0 = (madeCells (Value.slice none 0 0).cells (k * 1)).toList := ⟨_, rfl⟩
  rw [← hvs] at hO
  rw [← hgw] at hO ⊢
  have HX1 := Lib.hid ((Ext.refl w).grownNone hG)
  have HO1 := Lib.hid hO
  have HGW := Lib.hid hgw
  have hcell : w1.heap.size > gw := by
    rcases hO.2 with ⟨h', _⟩ | ⟨g', cap', cur, h', hb, hg, _⟩
    · simp at h'
    · simp at h'
      rw [h'.1]
      exact (Array.getElem?_eq_some_iff.1 hg).1
  have HGWL := Lib.hid hcell
  clear hO hG hvs hgw hz0 hz1 hz2 hi hcell
  go_loopw [4] (fun s wr => ∃ (i : Nat) (vs : List Value) (Q : Nat → Option Addr) (D : Nat → Nat), i ≤ k ∧ s = .int .i64 i ∧ Hid (wr.ownsRow gw 22 1 (.slice (some ⟨gw, 0, none⟩) k k) k vs) ∧ Hid (∀ j, j < i → vs[j]? = some (.slice (Q j) (X j).length (D j))) ∧ Hid (∀ j, j < i → Own wr w1.heap.size (Q j) (D j) (X j)) ∧ Hid (Ext w wr) ∧ Hid (w1.heap.size ≤ wr.heap.size)) (fun s _ => k - (intOf s).toNat)
  case atStart => exact ⟨0, vs0, fun _ => none, fun _ => 0, by omega, rfl, HO1.out, fun j hj => by omega, fun j hj => by omega, HX1.out, Nat.le_refl _⟩
  case round =>
    obtain ⟨i, vs, Q, D, hik, rfl, HV, HVE, HQ, HX, HS⟩ := hrel
    by_cases hi : i < k
    · have hidx := HX.out.cell (HR.out.idx i hi)
      have HCP := Lib.hid (kcopy_any (P i) (X i) (C i) (X i).length wr ((HR.out.row i hi).rd.ext HX.out) rfl (by have := (HXX.out i hi).1; omega))
      go_wp2_with fail
      refine HCP.out.mono ?_; rintro e w2 ⟨A2, c2, rfl, h2, hx2⟩
      have HV2 := Lib.hid (HV.out.kept (hx2.by_ none) (.inr (by simp [Value.ownBlock])))
      obtain ⟨u, hu⟩ : ∃ u, vs[i]? = some u := by
        have : vs.length = k := by have := HV.out.1; omega
        exact ⟨_, List.getElem?_eq_getElem (by omega)⟩
      have hco : w2.cell? ⟨gw, i, none⟩ = some u := (HV2.out.cellAt i (by omega)).trans hu
      have hfo := HV2.out.frozenAt i
      have HX2 := Lib.hid (HX.out.trans hx2)
      have H2 := Lib.hid h2
      have HXX2 := Lib.hid hx2
      have hz2 := Lib.hid hx2.size
      have hul := Lib.hid (show i < vs.length by have := HV.out.1; omega)
      clear h2 hx2 hu
      go_wp2_with fail
      have hgw2 := HGW.out
      have hgl2 := HGWL.out
      go_roundw
      case rel => exact ⟨i + 1, vs.set i (.slice A2 (X i).length c2), fun j => if j = i then A2 else Q j, fun j => if j = i then c2 else D j, by omega, by go_num, (HV2.out.stored i _).1, fun j hj => by
          by_cases e : j = i
          · subst e; simp [List.getElem?_set, hul.out]
          · simp only [if_neg e]; rw [List.getElem?_set_ne (by omega)]; exact HVE.out j (by omega), fun j hj => by
          by_cases e : j = i
          · subst e; simp only [if_pos rfl]; exact (H2.out.lower HS.out).setBelow (by simpa using hgl2) _
          · simp only [if_neg e]; exact ((HQ.out j (by omega)).ext HXX2.out).setBelow (by simpa using hgl2) _, HX2.out.setCell (by simp only; omega) _, by
          have h1 := HS.out
          have h2 := hz2.out
          show _ ≤ _
          simp
          omega⟩
      case measure => simp [intOf]; omega
    · obtain rfl : i = k := by omega
      clear hi hik HX1 HO1
      have HRA := Lib.hid (HR.out.ext HX.out)
      have HRB : Hid (Rows w1.heap.size i gw Q D X X wr) := ⟨fun j hj => (HV.out.cellAt j (by omega)).trans (HVE.out j hj), HQ.out⟩
      have H0A := Lib.hid (H0.out.trans HX.out)
      have HPB := Lib.hid (show ∀ j, j < i → ∀ a, P j = some a → w0.heap.size ≤ a.block ∧ a.block < w.heap.size from fun j hj a ha => by have := HR.out.row j hj; rw [ha] at this; exact this.block)
      have HQB := Lib.hid (show ∀ j, j < i → ∀ a, Q j = some a → w1.heap.size ≤ a.block from fun j hj a ha => by have := HQ.out j hj; rw [ha] at this; exact this.block.1)
      clear HV HVE HQ HX HS HR H0
      go_wp2_with fail
      go_loopw [5] (fun s w' => ∃ (m : Nat) (Z : Nat → List Int), m ≤ i ∧ s = .int .i64 m ∧ Hid (Rows w0.heap.size i gb P C X Z w') ∧ Hid (Rows w1.heap.size i gw Q D X X w') ∧ Hid (∀ j, j < m → (X j).length ≤ (Z j).length ∧ ∀ t, t < (X j).length → nth (Z j) t = nt (nth (X j) t)) ∧ Hid (∀ j, m ≤ j → j < i → Z j = X j) ∧ Hid (Ext w0 w')) (fun s _ => i - (intOf s).toNat)
      case atStart => exact ⟨0, X, by omega, rfl, HRA.out, HRB.out, fun j hj => by omega, fun _ _ _ => rfl, H0A.out⟩
      case round =>
        clear HRA HRB H0A
        obtain ⟨m, Z, hmi, rfl, HRA, HRB, HE, HF, HX⟩ := hrel
        by_cases hm : m < i
        · have hci := HRA.out.idx m hm
          have hcw := HRB.out.idx m hm
          have hzm := HF.out m (Nat.le_refl _) hm
          have hom := HRA.out.row m hm
          rw [hzm] at hom
          have HOM := Lib.hid hom
          have HSM := Lib.hid (fun q => ksame_any (P m) (Q m) (X m) (X m) (C m) (D m) (X m).length (wr.drewN q) (HOM.out.drewN q).rd ((HRB.out.row m hm).drewN q).rd rfl (X m).length rfl true (decide_eq_true rfl))
          clear hzm hom
          go_wp2_with fail
          go_quiet ((go_at_call 26; exact Calls.quiet_of (HSM.out _)))
          go_wp2_with fail
          refine (kover_any (P m) (X m) w0.heap.size (C m) (X m).length _ (HOM.out.drewN _) rfl (HXX.out m hm).2).mono ?_; rintro e w2 ⟨zs, rfl, h1, h2, h3, h4⟩
          have HRA2 := Lib.hid ((HRA.out.ext ((Ext.refl wr).drewN nq)).turn m zs h1 h4 HN.out hm (fun j hj hne => HAP.out j m hj hm hne))
          have hgw2 := HGW.out
          have hgl2 := HGWL.out
          have HRB2 := Lib.hid ((HRB.out.ext ((Ext.refl wr).drewN nq)).kept h4 (fun e => by
            cases hp : P m with
            | none => rw [hp] at e; cases e
            | some b => rw [hp] at e; injection e with e; have h5 := (HPB.out m hm b hp).2; simp only at e; omega) (fun j hj a ha e => by
            cases hp : P m with
            | none => rw [hp] at e; cases e
            | some b => rw [hp] at e; injection e with e; have h5 := (HPB.out m hm b hp).2; have h6 := HQB.out j hj a ha; simp only at e; omega))
          have HX2 := Lib.hid ((HX.out.drewN nq).grown h4 (fun k hk => by
            cases hp : P m with
            | none => rw [hp] at hk; cases hk
            | some b => rw [hp] at hk; injection hk with hk; have h5 := (HPB.out m hm b hp).1; simp only at hk; omega))
          have HE2 := Lib.hid (show ∀ j, j < m + 1 → (X j).length ≤ (if j = m then zs else Z j).length ∧ ∀ t, t < (X j).length → nth (if j = m then zs else Z j) t = nt (nth (X j) t) from fun j hj => by
            by_cases e : j = m
            · subst e; simp only [if_true]; exact ⟨h2, h3⟩
            · simp only [if_neg e]; exact HE.out j (by omega))
          have HF2 := Lib.hid (show ∀ j, m + 1 ≤ j → j < i → (if j = m then zs else Z j) = X j from fun j hj1 hj2 => by
            rw [if_neg (by omega)]; exact HF.out j (by omega) hj2)
          clear h1 h2 h3 h4 hgw2 hgl2
          go_wp2_with fail
          go_roundw
          case rel => exact ⟨m + 1, fun j => if j = m then zs else Z j, by omega, by go_num, HRA2.out, HRB2.out, HE2.out, HF2.out, HX2.out⟩
          case measure => simp [intOf]; omega
        · obtain rfl : m = i := by omega
          clear hm hmi HF
          go_wp2_with fail
          go_loopw [6] (fun s wt => ∃ (n : Nat), n ≤ m ∧ s = .int .i64 n ∧ Hid (Rows w0.heap.size m gb P C X Z wt) ∧ Hid (Rows w1.heap.size m gw Q D X X wt) ∧ Hid (Ext w0 wt)) (fun s _ => m - (intOf s).toNat)
          case atStart => exact ⟨0, by omega, rfl, HRA.out, HRB.out, HX.out⟩
          case round =>
            clear HRA HRB HX
            obtain ⟨n, hnm, rfl, HRA, HRB, HX⟩ := hrel
            by_cases hn : n < m
            · have hlen : ((X n).length : Int) ≤ 1000000 := by have := (HXX.out n hn).1; omega
              go_wp2_with fail
              go_loopw [7] (fun s wt => ∃ (t : Nat), t ≤ (X n).length ∧ s = .int .i64 t ∧ Hid (Rows w0.heap.size m gb P C X Z wt) ∧ Hid (Rows w1.heap.size m gw Q D X X wt) ∧ Hid (Ext w0 wt)) (fun s _ => (X n).length - (intOf s).toNat)
              case atStart => exact ⟨0, by omega, rfl, HRA.out, HRB.out, HX.out⟩
              case round =>
                clear HRA HRB HX
                obtain ⟨t, htn, rfl, HRA, HRB, HX⟩ := hrel
                have hci := HRA.out.idx n hn
                by_cases ht : t < (X n).length
                · have hcw := HRB.out.idx n hn
                  obtain ⟨a, hpa, hca⟩ := (HRA.out.row n hn).rd.at_ t (by have := (HE.out n hn).1; omega)
                  obtain ⟨b, hqb, hcb'⟩ := (HRB.out.row n hn).rd.at_ t ht
                  rw [(HE.out n hn).2 t ht] at hca
                  rw [hpa] at hci
                  rw [hqb] at hcw
                  have hbn : (nt (nth (X n) t) != bits .xor .u32 (if IntKind.u32.signed = true then -1 else IntKind.u32.max) (nth (X n) t)) = false := bne_eq_false_iff_eq.2 rfl
                  clear hpa hqb
                  go_wp2_with fail
                  go_quiet (fail)
                  go_wp2_with fail
                  go_roundw
                  case rel => exact ⟨t + 1, by omega, by go_num, HRA.out.ext ((Ext.refl _).drewN nq), HRB.out.ext ((Ext.refl _).drewN nq), HX.out.drewN nq⟩
                  case measure => simp [intOf]; omega
                · obtain rfl : t = (X n).length := by omega
                  go_wp2_with fail
                  go_roundw
                  case rel => exact ⟨n + 1, by omega, by go_num, HRA.out, HRB.out, HX.out⟩
                  case measure => simp [intOf]; omega
            · obtain rfl : n = m := by omega
              go_wp2_with fail
              go_ret
              exact ⟨rfl, HX.out⟩

end Go.Proofs.Ytnhgagfkepmanaa
