/- LentRatios. -/
import Derived.Test.YtnhgagfkepmanaaK6
namespace Go.Proofs.Ytnhgagfkepmanaa
open Go Go.RowKit

theorem info_ratio : (Try.prog.info? 27).map (fun i => (i.zero, i.size, i.bytes)) = some (some (.agg #[.bool false, .slice none 0 0, .slice none 0 0]), 3, 56) := by kernel_rfl
/-- a list of fractions of the call's own: its cells, and the words that it leads to -/
structure Rows2 (w : World) (base : Nat) (v : Value) (k : Nat) (P : Nat → Option Addr) (C : Nat → Nat) (F : Nat → Fr) (X : Nat → List Int) : Prop where
  row : ∃ vs, w.ownsRow base 27 3 v k vs ∧ ∀ j, j < k → vs[j * 3]? = some (.bool (F j).neg) ∧ vs[j * 3 + 1]? = some (.slice (P (2 * j)) (F j).num.length (C (2 * j))) ∧ vs[j * 3 + 2]? = some (.slice (P (2 * j + 1)) (F j).den.length (C (2 * j + 1)))
  own : ∀ j, j < 2 * k → Own w base (P j) (C j) (X j)
  ap : ∀ i j, i < 2 * k → j < 2 * k → i ≠ j → ∀ a b, P i = some a → P j = some b → a.block ≠ b.block
theorem Rows2.nil (w : World) (base : Nat) (F : Nat → Fr) (X : Nat → List Int) : Rows2 w base (.slice none 0 0) 0 (fun _ => none) (fun _ => 0) F X :=
  ⟨⟨[], World.ownsRow_nil w base _ 3, fun j hj => by omega⟩, fun j hj => by omega, fun i j hi => by omega⟩
/-- words and fractions lie in different rows -/
theorem row_ne {w : World} {base base' k c : Nat} {a : Addr} {xs : List Int} {v : Value} {vs : List Value} (h : Own w base (some a) c xs) (k2 : w.ownsRow base' 27 3 v k vs) : v.ownBlock ≠ some a.block := by
  intro e
  rcases h.cases with ⟨h1, _⟩ | ⟨g, cur, h1, h2, h3, _⟩
  · cases h1
  · cases h1
    rcases k2.2 with ⟨rfl, _⟩ | ⟨g', cap, cur', rfl, _, h4, _⟩
    · cases e
    · have e2 : g' = g := Option.some.inj e
      subst e2
      rw [h3] at h4
      cases h4
theorem Rows2.ext {w w' : World} {base : Nat} {v : Value} {k : Nat} {P : Nat → Option Addr} {C : Nat → Nat} {F : Nat → Fr} {X : Nat → List Int} (h : Rows2 w base v k P C F X) (x : Ext w w') : Rows2 w' base v k P C F X := by
  obtain ⟨vs, h1, h2⟩ := h.row
  exact ⟨⟨vs, ownsRow_ext h1 x, h2⟩, fun j hj => (h.own j hj).ext x, h.ap⟩
theorem Rows2.ge {w : World} {base : Nat} {v : Value} {k : Nat} {P : Nat → Option Addr} {C : Nat → Nat} {F : Nat → Fr} {X : Nat → List Int} (h : Rows2 w base v k P C F X) : ∀ b, v.ownBlock = some b → base ≤ b := by
  obtain ⟨vs, h1, h2⟩ := h.row
  exact ownsRow_ge h1
theorem Rows2.slice {w : World} {base : Nat} {v : Value} {k : Nat} {P : Nat → Option Addr} {C : Nat → Nat} {F : Nat → Fr} {X : Nat → List Int} (h : Rows2 w base v k P C F X) (hk : 0 < k) : ∃ g cap, v = .slice (some ⟨g, 0, none⟩) k cap ∧ k ≤ cap ∧ cap ≤ 9223372036854775807 ∧ base ≤ g ∧ g < w.heap.size := by
  obtain ⟨vs, h1, h2⟩ := h.row
  rcases h1.2 with ⟨_, h3⟩ | ⟨g, cap, cur, h3, h4, h5, h6, h7, _⟩
  · omega
  · exact ⟨g, cap, h3, h6, by simp only [maxLen] at h7; omega, h4, (Array.getElem?_eq_some_iff.1 h5).1⟩
theorem Rows2.cells {w : World} {base g c : Nat} {k : Nat} {P : Nat → Option Addr} {C : Nat → Nat} {F : Nat → Fr} {X : Nat → List Int} (h : Rows2 w base (.slice (some ⟨g, 0, none⟩) k c) k P C F X) (j : Nat) (hj : j < k) :
    w.cell? ⟨g, j * 3, none⟩ = some (.bool (F j).neg) ∧ w.cell? ⟨g, j * 3 + 1, none⟩ = some (.slice (P (2 * j)) (F j).num.length (C (2 * j))) ∧ w.cell? ⟨g, j * 3 + 2, none⟩ = some (.slice (P (2 * j + 1)) (F j).den.length (C (2 * j + 1))) := by
  obtain ⟨vs, h1, h2⟩ := h.row
  obtain ⟨e0, e1, e2⟩ := h2 j hj
  exact ⟨(World.ownsRow.cellAt h1 _ (by omega)).trans e0, (World.ownsRow.cellAt h1 _ (by omega)).trans e1, (World.ownsRow.cellAt h1 _ (by omega)).trans e2⟩
theorem three_at {vs : List Value} {k : Nat} (hl : vs.length = k * 3) (a b c : Value) : (vs ++ [a, b, c])[k * 3]? = some a ∧ (vs ++ [a, b, c])[k * 3 + 1]? = some b ∧ (vs ++ [a, b, c])[k * 3 + 2]? = some c := by
  refine ⟨?_, ?_, ?_⟩ <;> rw [List.getElem?_append_right (by omega), hl] <;> simp

set_option maxHeartbeats 1000000 in
/-- append of one fraction -/
theorem wpList_appR {w : World} {ops : Array Oper} {rest : List Oper} {o : Oper} {a : Act} {Q : Exit → Act → World → Prop} (hgd : o.guard = none) (s x : Operand)
    (ho : o.op = .call { callee := .builtin .append, args := #[s, x], argTypes := #[28, 28] })
    (base : Nat) (v : Value) (k : Nat) (P : Nat → Option Addr) (C : Nat → Nat) (F : Nat → Fr) (X : Nat → List Int) (hs : a.eval s = v) (hR : Rows2 w base v k P C F X)
    (ad : Addr) (c : Nat) (hx : a.eval x = .slice (some ad) 1 c) (A B : Option Addr) (c1 c2 : Nat)
    (h0 : w.cell? (ad.add 0) = some (.bool (F k).neg)) (h1 : w.cell? (ad.add 1) = some (.slice A (F k).num.length c1)) (h2 : w.cell? (ad.add 2) = some (.slice B (F k).den.length c2))
    (hA : Own w base A c1 (X (2 * k))) (hB : Own w base B c2 (X (2 * k + 1))) (hAB : ∀ a b, A = some a → B = some b → a.block ≠ b.block)
    (hAP : ∀ j, j < 2 * k → ∀ a b, P j = some a → A = some b → a.block ≠ b.block) (hBP : ∀ j, j < 2 * k → ∀ a b, P j = some a → B = some b → a.block ≠ b.block)
    (hk : k ≤ 1000000) (hbase : base ≤ w.heap.size)
    (h : ∀ v' P' C' w', Rows2 w' base v' (k + 1) P' C' F X → w.grownBy w' v.ownBlock → wpList Try.prog ops Q rest (a.put o.dst v') w') : wpList Try.prog ops Q (o :: rest) a w := by
  obtain ⟨i0, hi, hz0, hz1, hz2⟩ := info_parts info_ratio
  obtain ⟨vs, hv1, hv2⟩ := hR.row
  have hl : vs.length = k * 3 := hv1.1
  refine wpList_append_own w hgd s x 28 ho base 27 i0 _ 3 56 Try.underlying28 hi hz0 hz1 hz2 rfl (by decide) v k vs hs hv1 ad 1 c [.bool (F k).neg, .slice A (F k).num.length c1, .slice B (F k).den.length c2] hx rfl
    (fun j u hu => by
      match j, hu with
      | 0, hu => cases hu; exact h0
      | 1, hu => cases hu; exact h1
      | 2, hu => cases hu; exact h2) (by intro u hu; simp at hu; rcases hu with rfl | rfl | rfl <;> rfl) (by unfold maxLen; omega) (by omega) hbase ?_
  intro v' w' hr hg _
  obtain ⟨t0, t1, t2⟩ := three_at hl (.bool (F k).neg) (.slice A (F k).num.length c1) (.slice B (F k).den.length c2)
  refine h v' (fun j => if j = 2 * k then A else if j = 2 * k + 1 then B else P j) (fun j => if j = 2 * k then c1 else if j = 2 * k + 1 then c2 else C j) w' ⟨⟨_, hr, fun j hj => ?_⟩, fun j hj => ?_, fun i j hi hj hne => ?_⟩ hg
  · by_cases e : j = k
    · subst e
      refine ⟨t0, ?_, ?_⟩
      · rw [if_pos rfl, if_pos rfl]; exact t1
      · rw [if_neg (by omega), if_pos rfl, if_neg (by omega), if_pos rfl]; exact t2
    · obtain ⟨e0, e1, e2⟩ := hv2 j (by omega)
      rw [if_neg (by omega), if_neg (by omega), if_neg (by omega), if_neg (by omega), if_neg (by omega), if_neg (by omega), if_neg (by omega), if_neg (by omega)]
      refine ⟨?_, ?_, ?_⟩ <;> rw [List.getElem?_append_left (by omega)] <;> assumption
  · have keep : ∀ {D : Option Addr} {d : Nat} {xs : List Int}, Own w base D d xs → Own w' base D d xs := fun {D d xs} hD => hD.kept hg (fun a ha e => by
      subst ha
      exact row_ne hD hv1 e.symm)
    by_cases e1 : j = 2 * k
    · rw [if_pos e1, if_pos e1, e1]; exact keep hA
    · rw [if_neg e1, if_neg e1]
      by_cases e2 : j = 2 * k + 1
      · rw [if_pos e2, if_pos e2, e2]; exact keep hB
      · rw [if_neg e2, if_neg e2]; exact keep (hR.own j (by omega))
  · intro a b ha hb
    by_cases e1 : i = 2 * k
    · rw [if_pos e1] at ha
      rw [if_neg (by omega)] at hb
      by_cases e2 : j = 2 * k + 1
      · rw [if_pos e2] at hb; exact hAB a b ha hb
      · rw [if_neg e2] at hb; exact fun e => hAP j (by omega) b a hb ha e.symm
    · rw [if_neg e1] at ha
      by_cases e2 : i = 2 * k + 1
      · rw [if_pos e2] at ha
        by_cases e3 : j = 2 * k
        · rw [if_pos e3] at hb; exact fun e => hAB b a hb ha e.symm
        · rw [if_neg e3, if_neg (by omega)] at hb; exact fun e => hBP j (by omega) b a hb ha e.symm
      · rw [if_neg e2] at ha
        by_cases e3 : j = 2 * k
        · rw [if_pos e3] at hb; exact hAP i (by omega) a b ha hb
        · rw [if_neg e3] at hb
          by_cases e4 : j = 2 * k + 1
          · rw [if_pos e4] at hb; exact hBP i (by omega) a b ha hb
          · rw [if_neg e4] at hb; exact hR.ap i j (by omega) (by omega) hne a b ha hb

/-- a list that is lent: the fractions, and three marks -/
def LF (L : Nat → Fr) (n j : Nat) : Fr := if j < n then L j else ⟨true, [77], []⟩
def LX (L : Nat → Fr) (n j : Nat) : List Int := if j < 2 * n then (if j % 2 = 0 then (L (j / 2)).num else (L (j / 2)).den) ++ marks else if j % 2 = 0 then [77] else []
theorem LF_lt {L : Nat → Fr} {n j : Nat} (h : j < n) : LF L n j = L j := if_pos h
theorem LF_ge {L : Nat → Fr} {n j : Nat} (h : n ≤ j) : LF L n j = ⟨true, [77], []⟩ := if_neg (by omega)
theorem LX_num {L : Nat → Fr} {n j : Nat} (h : j < n) : LX L n (2 * j) = (L j).num ++ marks := by
  unfold LX; rw [if_pos (by omega), if_pos (by omega), show 2 * j / 2 = j by omega]
theorem LX_den {L : Nat → Fr} {n j : Nat} (h : j < n) : LX L n (2 * j + 1) = (L j).den ++ marks := by
  unfold LX; rw [if_pos (by omega), if_neg (by omega), show (2 * j + 1) / 2 = j by omega]
theorem LX_num' {L : Nat → Fr} {n j : Nat} (h : n ≤ j) : LX L n (2 * j) = [77] := by
  unfold LX; rw [if_neg (by omega), if_pos (by omega)]
theorem LX_den' {L : Nat → Fr} {n j : Nat} (h : n ≤ j) : LX L n (2 * j + 1) = [] := by
  unfold LX; rw [if_neg (by omega), if_neg (by omega)]

set_option maxRecDepth 4000 in
set_option maxHeartbeats 2000000 in
theorem klentRs_any (A : Option Addr) (n c : Nat) (P : Nat → Option Addr) (C : Nat → Nat) (L : Nat → Fr) (w : World) (hf : FsA A n P C L w) (hn : n ≤ 300) (hm : ∀ j, j < n → (L j).num.length ≤ 1000000 ∧ (L j).den.length ≤ 1000000) :
    Calls Try.prog 14 #[.slice A n c] w fun e w' => ∃ v P' C', e = .returned v ∧ Rows2 w' w.heap.size v (n + 3) P' C' (LF L n) (LX L n) ∧ Ext w w' := by
  have H := Lib.hid hf.1
  have HF := Lib.hid hf.2
  have HM := Lib.hid hm
  clear hf hm
  go_enter Try.func14, Try.ntmps14
  go_wp2_with fail
  go_loopw [3, 4] (fun s i wr => ∃ (v : Value) (k : Nat) (P' : Nat → Option Addr) (C' : Nat → Nat), v = s ∧ k ≤ n ∧ i = .int .i64 k ∧ Hid (Rows2 wr w.heap.size v k P' C' (LF L n) (LX L n)) ∧ Hid (Ext w wr)) (fun _ i _ => n - (intOf i).toNat)
  case atStart => exact ⟨.slice none 0 0, 0, _, _, rfl, by omega, rfl, Rows2.nil _ _ _ _, Ext.refl w⟩
  case round =>
    obtain ⟨v, k, P', C', rfl, hk, rfl, HR, HX⟩ := hrel
    by_cases hkn : k < n
    · obtain ⟨gr, o, rfl⟩ := H.out k hkn
      have HFF := Lib.hid ((HF.out gr o rfl).ext HX.out)
      have e0 := HFF.out.neg k hkn
      have e1 := HFF.out.num k hkn
      have e2 := HFF.out.den k hkn
      have HC := Lib.hid (klentR_any (L k) (P (2 * k)) (P (2 * k + 1)) (C (2 * k)) (C (2 * k + 1)) _ (HFF.out.rnum k hkn) (HFF.out.rden k hkn) (HM.out k hkn).1 (HM.out k hkn).2)
      go_wp2_with fail
      refine HC.out.mono ?_; rintro e w1 ⟨A1, c1, B1, d1, rfl, o1, o2, ap, hx⟩
      have O1 := Lib.hid o1
      have O2 := Lib.hid o2
      have AP := Lib.hid ap
      have HX1 := Lib.hid (HX.out.trans hx)
      have HR1 := Lib.hid (HR.out.ext hx)
      have HLF := Lib.hid (LF_lt (L := L) hkn)
      have hsz := Lib.hid HX.out.size
      clear o1 o2 ap hx e0 e1 e2
      have HN := Lib.hid (LX_num (L := L) hkn)
      have HD := Lib.hid (LX_den (L := L) hkn)
      have HB := Lib.hid (show ∀ j, j < 2 * k → ∀ a, P' j = some a → a.block < wr.heap.size from fun j hj a ha => by have h1 := HR.out.own j hj; rw [ha] at h1; exact h1.block.2)
      have hx1 := (Ext.refl w1).alloc (.cells #[.bool (L k).neg, .slice A1 (L k).num.length c1, .slice B1 (L k).den.length d1] 27)
      have HXA := Lib.hid hx1
      clear hx1
      have K0 := Lib.hid (show (w1.alloc (.cells #[.bool (L k).neg, .slice A1 (L k).num.length c1, .slice B1 (L k).den.length d1] 27)).cell? ((⟨w1.heap.size, 0, none⟩ : Addr).add 0) = some (.bool (LF L n k).neg) by rw [HLF.out]; simp [go_sem, Addr.add])
      have K1 := Lib.hid (show (w1.alloc (.cells #[.bool (L k).neg, .slice A1 (L k).num.length c1, .slice B1 (L k).den.length d1] 27)).cell? ((⟨w1.heap.size, 0, none⟩ : Addr).add 1) = some (.slice A1 (LF L n k).num.length c1) by rw [HLF.out]; simp [go_sem, Addr.add])
      have K2 := Lib.hid (show (w1.alloc (.cells #[.bool (L k).neg, .slice A1 (L k).num.length c1, .slice B1 (L k).den.length d1] 27)).cell? ((⟨w1.heap.size, 0, none⟩ : Addr).add 2) = some (.slice B1 (LF L n k).den.length d1) by rw [HLF.out]; simp [go_sem, Addr.add])
      have KA := Lib.hid (show Own (w1.alloc (.cells #[.bool (L k).neg, .slice A1 (L k).num.length c1, .slice B1 (L k).den.length d1] 27)) w.heap.size A1 c1 (LX L n (2 * k)) by rw [HN.out]; exact (O1.out.lower hsz.out).ext HXA.out)
      have KB := Lib.hid (show Own (w1.alloc (.cells #[.bool (L k).neg, .slice A1 (L k).num.length c1, .slice B1 (L k).den.length d1] 27)) w.heap.size B1 d1 (LX L n (2 * k + 1)) by rw [HD.out]; exact (O2.out.lower hsz.out).ext HXA.out)
      have KP := Lib.hid (show ∀ j, j < 2 * k → ∀ a b, P' j = some a → A1 = some b → a.block ≠ b.block from fun j hj a b ha hb => by have h1 := HB.out j hj a ha; have h2 := O1.out; rw [hb] at h2; have h3 := h2.block.1; omega)
      have KQ := Lib.hid (show ∀ j, j < 2 * k → ∀ a b, P' j = some a → B1 = some b → a.block ≠ b.block from fun j hj a b ha hb => by have h1 := HB.out j hj a ha; have h2 := O2.out; rw [hb] at h2; have h3 := h2.block.1; omega)
      have KZ := Lib.hid (show w.heap.size ≤ (w1.alloc (.cells #[.bool (L k).neg, .slice A1 (L k).num.length c1, .slice B1 (L k).den.length d1] 27)).heap.size by have := HX1.out.size; simp; omega)
      have hk3 : k ≤ 1000000 := by omega
      go_wp2_with (at_builtin; refine wpList_appR rfl _ _ rfl w.heap.size v k P' C' (LF L n) (LX L n) rfl (HR1.out.ext HXA.out) ⟨w1.heap.size, 0, none⟩ 1 rfl A1 B1 c1 d1 K0.out K1.out K2.out KA.out KB.out AP.out KP.out KQ.out hk3 KZ.out ?_; intro v' P2 C2 w2 hR hg)
      have HR2 := Lib.hid hR
      have HX2 := Lib.hid ((HX1.out.alloc _).grown hg HR.out.ge)
      clear hR hg
      go_roundw
      case rel => exact ⟨v', k + 1, P2, C2, rfl, by omega, by go_num, HR2.out, HX2.out⟩
      case measure => simp [intOf]; omega
    · obtain rfl : k = n := by omega
      clear hkn hk
      go_wp2_with fail
      go_loopw [3, 5] (fun s i wt => ∃ (v : Value) (m : Nat) (P' : Nat → Option Addr) (C' : Nat → Nat), v = s ∧ m ≤ 3 ∧ i = .int .i64 m ∧ Hid (Rows2 wt w.heap.size v (k + m) P' C' (LF L k) (LX L k)) ∧ Hid (Ext w wt)) (fun _ i _ => 3 - (intOf i).toNat)
      case atStart => exact ⟨v, 0, P', C', rfl, by omega, rfl, HR.out, HX.out⟩
      case round =>
        clear HR HX P' C'
        obtain ⟨v, m, P', C', rfl, hm, rfl, HR, HX⟩ := hrel
        by_cases hm3 : m < 3
        · have HLF := Lib.hid (LF_ge (L := L) (show k ≤ k + m by omega))
          have HN := Lib.hid (LX_num' (L := L) (show k ≤ k + m by omega))
          have HD := Lib.hid (LX_den' (L := L) (show k ≤ k + m by omega))
          have hsz := Lib.hid HX.out.size
          have HO := Lib.hid (Own.lit wr #[.int .u32 77] [77] rfl (by simp))
          have HB := Lib.hid (show ∀ j, j < 2 * (k + m) → ∀ a, P' j = some a → a.block < wr.heap.size from fun j hj a ha => by have h1 := HR.out.own j hj; rw [ha] at h1; exact h1.block.2)
          have HXA := Lib.hid (((Ext.refl wr).alloc (.cells #[.int .u32 77] 52)).alloc (.cells #[.bool true, .slice (some ⟨wr.heap.size, 0, none⟩) 1 1, .slice none 0 0] 27))
          have HXB := Lib.hid ((Ext.refl (wr.alloc (.cells #[.int .u32 77] 52))).alloc (.cells #[.bool true, .slice (some ⟨wr.heap.size, 0, none⟩) 1 1, .slice none 0 0] 27))
          have K0 := Lib.hid (show ((wr.alloc (.cells #[.int .u32 77] 52)).alloc (.cells #[.bool true, .slice (some ⟨wr.heap.size, 0, none⟩) 1 1, .slice none 0 0] 27)).cell? ((⟨wr.heap.size + 1, 0, none⟩ : Addr).add 0) = some (.bool (LF L k (k + m)).neg) by rw [HLF.out]; simp [go_sem, Addr.add])
          have K1 := Lib.hid (show ((wr.alloc (.cells #[.int .u32 77] 52)).alloc (.cells #[.bool true, .slice (some ⟨wr.heap.size, 0, none⟩) 1 1, .slice none 0 0] 27)).cell? ((⟨wr.heap.size + 1, 0, none⟩ : Addr).add 1) = some (.slice (some ⟨wr.heap.size, 0, none⟩) (LF L k (k + m)).num.length 1) by rw [HLF.out]; simp [go_sem, Addr.add])
          have K2 := Lib.hid (show ((wr.alloc (.cells #[.int .u32 77] 52)).alloc (.cells #[.bool true, .slice (some ⟨wr.heap.size, 0, none⟩) 1 1, .slice none 0 0] 27)).cell? ((⟨wr.heap.size + 1, 0, none⟩ : Addr).add 2) = some (.slice none (LF L k (k + m)).den.length 0) by rw [HLF.out]; simp [go_sem, Addr.add])
          have KA := Lib.hid (show Own ((wr.alloc (.cells #[.int .u32 77] 52)).alloc (.cells #[.bool true, .slice (some ⟨wr.heap.size, 0, none⟩) 1 1, .slice none 0 0] 27)) w.heap.size (some ⟨wr.heap.size, 0, none⟩) 1 (LX L k (2 * (k + m))) by rw [HN.out]; exact (HO.out.lower hsz.out).ext HXB.out)
          have KB := Lib.hid (show Own ((wr.alloc (.cells #[.int .u32 77] 52)).alloc (.cells #[.bool true, .slice (some ⟨wr.heap.size, 0, none⟩) 1 1, .slice none 0 0] 27)) w.heap.size none 0 (LX L k (2 * (k + m) + 1)) by rw [HD.out]; exact Own.nil _ _)
          have KP := Lib.hid (show ∀ j, j < 2 * (k + m) → ∀ a b, P' j = some a → some (⟨wr.heap.size, 0, none⟩ : Addr) = some b → a.block ≠ b.block from fun j hj a b ha hb => by have h1 := HB.out j hj a ha; cases hb; simp only; omega)
          have KZ := Lib.hid (show w.heap.size ≤ ((wr.alloc (.cells #[.int .u32 77] 52)).alloc (.cells #[.bool true, .slice (some ⟨wr.heap.size, 0, none⟩) 1 1, .slice none 0 0] 27)).heap.size by have := HX.out.size; simp; omega)
          have hk3 : k + m ≤ 1000000 := by omega
          go_wp2_with (at_builtin; refine wpList_appR rfl _ _ rfl w.heap.size v (k + m) P' C' (LF L k) (LX L k) rfl (HR.out.ext HXA.out) ⟨wr.heap.size + 1, 0, none⟩ 1 rfl (some ⟨wr.heap.size, 0, none⟩) none 1 0 K0.out K1.out K2.out KA.out KB.out (fun _ _ _ h => by cases h) KP.out (fun _ _ _ _ _ h => by cases h) hk3 KZ.out ?_; intro v' P2 C2 w2 hR hg)
          have HR2 := Lib.hid hR
          have HX2 := Lib.hid (((HX.out.alloc _).alloc _).grown hg HR.out.ge)
          clear hR hg
          go_roundw
          case rel => exact ⟨v', m + 1, P2, C2, rfl, by omega, by go_num, HR2.out, HX2.out⟩
          case measure => simp [intOf]; omega
        · obtain rfl : m = 3 := by omega
          go_wp2_with fail
          go_ret
          exact ⟨v, P', C', rfl, HR.out, HX.out⟩

theorem klongA_any (w : World) (A : Option Addr) (n c : Nat) (P : Nat → Option Addr) (C : Nat → Nat) (L : Nat → Fr) (h : FsA A n P C L w) (hn : n ≤ 9223372036854775807) (b : Bool) (hb : decide (∃ j, j < n ∧ (isLong (L j).num.length = true ∨ isLong (L j).den.length = true)) = b) :
    Calls Try.prog 5 #[.slice A n c] w fun e w' => e = .returned (.bool b) ∧ w' = w := by
  by_cases h0 : n = 0
  · have HB := Lib.hid (show b = false by rw [← hb]; exact decide_eq_false (by rintro ⟨j, hj, _⟩; omega))
    subst h0
    clear h hb
    go_enter Try.func5, Try.ntmps5
    go_wp2_with fail
    go_loop [3] (fun s => s = .int .i64 0) (fun _ => 0)
    case atStart => rfl
    case round =>
      subst hrel
      go_wp2_with fail
      go_ret
      exact ⟨by rw [HB.out]; rfl, rfl⟩
  · obtain ⟨gr, o, rfl⟩ := h.1 0 (by omega)
    have hf := h.2 gr o rfl
    refine klongR_any w gr o n c P C (fun j => if j % 2 = 0 then (L (j / 2)).num.length else (L (j / 2)).den.length) ⟨fun j hj => ?_, fun j hj => ?_⟩ hn (fun j hj => ?_) b ?_
    · show _ = some (Value.slice _ ((if 2 * j % 2 = 0 then (L (2 * j / 2)).num.length else (L (2 * j / 2)).den.length : Nat)) _)
      rw [if_pos (by omega), show 2 * j / 2 = j by omega]; exact hf.num j hj
    · show _ = some (Value.slice _ ((if (2 * j + 1) % 2 = 0 then (L ((2 * j + 1) / 2)).num.length else (L ((2 * j + 1) / 2)).den.length : Nat)) _)
      rw [if_neg (by omega), show (2 * j + 1) / 2 = j by omega]; exact hf.den j hj
    · have h1 := (hf.rnum (j / 2) (by omega)).lim
      have h2 := (hf.rden (j / 2) (by omega)).lim
      show (if j % 2 = 0 then (L (j / 2)).num.length else (L (j / 2)).den.length : Nat) ≤ _
      split <;> assumption
    · rw [← hb]
      apply decide_eq_decide.2
      constructor
      · rintro ⟨j, hj, h1⟩
        refine ⟨j / 2, by omega, ?_⟩
        by_cases e : j % 2 = 0
        · rw [if_pos e] at h1; exact .inl h1
        · rw [if_neg e] at h1; exact .inr h1
      · rintro ⟨j, hj, h1 | h1⟩
        · exact ⟨2 * j, by omega, by rw [if_pos (by omega), show 2 * j / 2 = j by omega]; exact h1⟩
        · exact ⟨2 * j + 1, by omega, by rw [if_neg (by omega), show (2 * j + 1) / 2 = j by omega]; exact h1⟩

end Go.Proofs.Ytnhgagfkepmanaa
