/- The law RatioSums. -/
import Derived.Test.YtnhgagfkepmanaaK9
namespace Go.Proofs.Ytnhgagfkepmanaa
open Go Go.RowKit

/-- the words that are seen of a list that is lent -/
def LV (L : Nat → Fr) (n j : Nat) : List Int := if j % 2 = 0 then (LF L n (j / 2)).num else (LF L n (j / 2)).den
theorem LX_vis (L : Nat → Fr) (n j : Nat) (hj : j < 2 * (n + 3)) : ∃ ys, LX L n j = LV L n j ++ ys := by
  have hl : ∀ i, LV L n (2 * i) = (LF L n i).num := fun i => by unfold LV; rw [if_pos (by omega), show 2 * i / 2 = i by omega]
  have hd : ∀ i, LV L n (2 * i + 1) = (LF L n i).den := fun i => by unfold LV; rw [if_neg (by omega), show (2 * i + 1) / 2 = i by omega]
  obtain ⟨i, hi⟩ : ∃ i, j = 2 * i ∨ j = 2 * i + 1 := ⟨j / 2, by omega⟩
  by_cases hn : i < n
  · rcases hi with rfl | rfl
    · exact ⟨marks, by rw [LX_num hn, hl, LF_lt hn]⟩
    · exact ⟨marks, by rw [LX_den hn, hd, LF_lt hn]⟩
  · rcases hi with rfl | rfl
    · exact ⟨[], by rw [LX_num' (by omega), hl, LF_ge (by omega)]; rfl⟩
    · exact ⟨[], by rw [LX_den' (by omega), hd, LF_ge (by omega)]; rfl⟩
theorem Rows2.seen {w : World} {base : Nat} {v : Value} {n : Nat} {P : Nat → Option Addr} {C : Nat → Nat} {L : Nat → Fr} (h : Rows2 w base v (n + 3) P C (LF L n) (LX L n)) (j : Nat) (hj : j < 2 * (n + 3)) : Own w base (P j) (C j) (LV L n j) := by
  obtain ⟨ys, e⟩ := LX_vis L n j hj
  exact own_pre (h.own j hj) e
theorem Rows2.fs {w : World} {base g c : Nat} {n : Nat} {P : Nat → Option Addr} {C : Nat → Nat} {L : Nat → Fr} (h : Rows2 w base (.slice (some ⟨g, 0, none⟩) (n + 3) c) (n + 3) P C (LF L n) (LX L n)) : Fs g 0 n P C L w := by
  refine ⟨fun j hj => ?_, fun j hj => ?_, fun j hj => ?_, fun j hj => ?_, fun j hj => ?_⟩
  · have := (h.cells j (by omega)).1; rw [LF_lt hj] at this; rw [Nat.zero_add]; exact this
  · have := (h.cells j (by omega)).2.1; rw [LF_lt hj] at this; rw [Nat.zero_add]; exact this
  · have := (h.cells j (by omega)).2.2; rw [LF_lt hj] at this; rw [Nat.zero_add]; exact this
  · exact (own_pre (h.own (2 * j) (by omega)) (LX_num hj)).rd
  · exact (own_pre (h.own (2 * j + 1) (by omega)) (LX_den hj)).rd
theorem LV_small {L : Nat → Fr} {n : Nat} (hw : ∀ j, j < n → (L j).Wf) (hm : ∀ j, j < n → (L j).num.length ≤ 2056 ∧ (L j).den.length ≤ 2056) (j : Nat) : (LV L n j).length ≤ 1000000 ∧ Wf (LV L n j) := by
  have w77 : Wf [77] := by intro x hx; simp at hx; omega
  unfold LV LF
  by_cases h : j / 2 < n
  · rw [if_pos h]
    have h1 := hm _ h
    have h2 := hw _ h
    split
    · exact ⟨by omega, h2.num⟩
    · exact ⟨by omega, h2.den⟩
  · rw [if_neg h]
    split
    · exact ⟨by decide, w77⟩
    · exact ⟨by decide, wf_nil⟩
/-- what is told of sums may be handed about -/
theorem sum_small (L : Nat → Fr) : ∀ d q k, ¬ lng q = true → Small (sumFrom L q k d).1
  | 0, q, k, h => small_enc h
  | d + 1, q, k, h => by
    unfold sumFrom
    by_cases hl : lng (q + (L k).q) = true
    · rw [if_pos hl]; exact small_zero
    · rw [if_neg hl]; exact sum_small L d _ _ hl
theorem fsum_small (L : Nat → Fr) (n : Nat) : ∀ d k, Small (fsumFrom L n k d).1
  | 0, k => sum_small L n 0 0 not_lng_zero
  | d + 1, k => by
    unfold fsumFrom
    by_cases hl : fchk (L k) ≠ 0
    · rw [if_pos hl]; exact small_zero
    · rw [if_neg hl]; exact fsum_small L n d _

theorem LV_num (L : Nat → Fr) (n i : Nat) : LV L n (2 * i) = (LF L n i).num := by unfold LV; rw [if_pos (by omega), show 2 * i / 2 = i by omega]
theorem LV_den (L : Nat → Fr) (n i : Nat) : LV L n (2 * i + 1) = (LF L n i).den := by unfold LV; rw [if_neg (by omega), show (2 * i + 1) / 2 = i by omega]
theorem one_cells {vs : List Value} {k : Nat} {P : Nat → Option Addr} {C : Nat → Nat} {F : Nat → Fr} (hl : vs.length = k * 3) (h : ∀ j, j < k → vs[j * 3]? = some (.bool (F j).neg) ∧ vs[j * 3 + 1]? = some (.slice (P (2 * j)) (F j).num.length (C (2 * j))) ∧ vs[j * 3 + 2]? = some (.slice (P (2 * j + 1)) (F j).den.length (C (2 * j + 1)))) : ∀ u ∈ vs, u.oneCell' = true := by
  intro u hu
  obtain ⟨i, hi, rfl⟩ := List.mem_iff_getElem.1 hu
  obtain ⟨h0, h1, h2⟩ := h (i / 3) (by omega)
  have e : vs[i]? = some vs[i] := List.getElem?_eq_getElem hi
  have hr : i = i / 3 * 3 ∨ i = i / 3 * 3 + 1 ∨ i = i / 3 * 3 + 2 := by omega
  rcases hr with hr | hr | hr
  · rw [← hr, e] at h0; rw [Option.some.inj h0]; rfl
  · rw [← hr, e] at h1; rw [Option.some.inj h1]; rfl
  · rw [← hr, e] at h2; rw [Option.some.inj h2]; rfl
/-- one, and others behind it -/
def Pre {α : Type} (a b : α) (f : Nat → α) (j : Nat) : α := if j = 0 then a else if j = 1 then b else f (j - 2)
theorem Pre_zero {α : Type} (a b : α) (f : Nat → α) : Pre a b f 0 = a := rfl
theorem Pre_one {α : Type} (a b : α) (f : Nat → α) : Pre a b f 1 = b := rfl
theorem Pre_two {α : Type} (a b : α) (f : Nat → α) (j : Nat) : Pre a b f (j + 2) = f j := by unfold Pre; rw [if_neg (by omega), if_neg (by omega)]; rfl
theorem pre_sides {w : World} {base g cap k : Nat} {A B : Option Addr} {c d : Nat} {a : Fr} {P : Nat → Option Addr} {C : Nat → Nat} {F : Nat → Fr} {X : Nat → List Int} {vs : List Value}
    (hr : w.ownsRow base 27 3 (.slice (some ⟨g, 0, none⟩) (1 + k) cap) (1 + k) ([.bool a.neg, .slice A a.num.length c, .slice B a.den.length d] ++ vs))
    (h : ∀ j, j < k → vs[j * 3]? = some (.bool (F j).neg) ∧ vs[j * 3 + 1]? = some (.slice (P (2 * j)) (F j).num.length (C (2 * j))) ∧ vs[j * 3 + 2]? = some (.slice (P (2 * j + 1)) (F j).den.length (C (2 * j + 1))))
    (hn : ∀ j, X (2 * j) = (F j).num) (hd : ∀ j, X (2 * j + 1) = (F j).den) :
    Sides g 0 (1 + k) (Pre A B P) (Pre c d C) (fun j => (Pre a.num a.den X j).length) w := by
  refine ⟨fun j hj => ?_, fun j hj => ?_⟩
  · rw [Nat.zero_add, World.ownsRow.cellAt hr _ (by omega)]
    cases j with
    | zero => rfl
    | succ j =>
      rw [show 2 * (j + 1) = 2 * j + 2 by omega, Pre_two, Pre_two]
      simp only [Pre_two]
      rw [hn, show (j + 1) * 3 + 1 = (j * 3 + 1) + 3 by omega]
      exact (h j (by omega)).2.1
  · rw [Nat.zero_add, World.ownsRow.cellAt hr _ (by omega)]
    cases j with
    | zero => rfl
    | succ j =>
      rw [show 2 * (j + 1) + 1 = (2 * j + 1) + 2 by omega, Pre_two, Pre_two]
      simp only [Pre_two]
      rw [hd, show (j + 1) * 3 + 2 = (j * 3 + 2) + 3 by omega]
      exact (h j (by omega)).2.2

/-- append of fractions behind one -/
theorem wpList_appL {w : World} {ops : Array Oper} {rest : List Oper} {o : Oper} {a : Act} {Q : Exit → Act → World → Prop} (hgd : Region.wanted o (yielded ops a.tmps) = true) (s x : Operand)
    (ho : o.op = .call { callee := .builtin .append, args := #[s, x], argTypes := #[28, 28] })
    (base : Nat) (v : Value) (vs : List Value) (hs : a.eval s = v) (hown : w.ownsRow base 27 3 v 1 vs)
    (ad : Addr) (m c : Nat) (news : List Value) (hx : a.eval x = .slice (some ad) m c) (hl : news.length = m * 3) (hnews : ∀ j u, news[j]? = some u → w.cell? (ad.add j) = some u) (h1 : ∀ u ∈ news, u.oneCell' = true)
    (hm : m ≤ 1000000) (hbase : base ≤ w.heap.size)
    (h : ∀ v' w', w'.ownsRow base 27 3 v' (1 + m) (vs ++ news) → w.grownBy w' v.ownBlock → wpList Try.prog ops Q rest (a.put o.dst v') w') : wpList Try.prog ops Q (o :: rest) a w := by
  obtain ⟨i0, hi, hz0, hz1, hz2⟩ := info_parts info_ratio
  refine wpList_step fun K hK => ?_
  rw [if_pos hgd]
  exact wp_append_own w s x 28 ho base 27 i0 _ 3 56 Try.underlying28 hi hz0 hz1 hz2 rfl (by decide) v 1 vs hs hown ad m c news hx hl hnews h1 (by unfold maxLen; omega) (by omega) hbase fun v' w' h2 h3 _ => hK _ _ (h v' w' h2 h3)

set_option maxRecDepth 8000 in
set_option maxHeartbeats 4000000 in
theorem ratioSums_any (A : Option Addr) (n c : Nat) (P : Nat → Option Addr) (C : Nat → Nat) (L : Nat → Fr) (w : World) (h : FsA A n P C L w) (hw : ∀ j, j < n → (L j).Wf) (hn : n ≤ 9223372036854775807) :
    Calls Try.prog 4 #[.slice A n c] w fun e w' => e = .returned (.bool true) ∧ Ext w w' := by
  have H := Lib.hid h
  have HW := Lib.hid hw
  clear h hw
  by_cases h3 : 300 < n
  · go_enter Try.func4, Try.ntmps4
    go_wp2_with fail
    go_ret
    exact ⟨rfl, Ext.refl w⟩
  have HLong := Lib.hid (fun b hb => klongA_any w A n c P C L H.out hn b hb)
  by_cases hlong : ∃ j, j < n ∧ (isLong (L j).num.length = true ∨ isLong (L j).den.length = true)
  · have HK := Lib.hid (HLong.out true (decide_eq_true hlong))
    clear hlong HLong
    go_enter Try.func4, Try.ntmps4
    go_wp2_with fail
    refine HK.out.mono ?_; rintro e w1 ⟨rfl, rfl⟩
    go_wp2_with fail
    go_ret
    exact ⟨rfl, Ext.refl _⟩
  have HK := Lib.hid (HLong.out false (decide_eq_false hlong))
  have hb : ∀ j, j < n → (L j).num.length ≤ 2056 ∧ (L j).den.length ≤ 2056 := fun j hj => by
    have h1 : ¬ (isLong (L j).num.length = true) := fun e => hlong ⟨j, hj, .inl e⟩
    have h2 : ¬ (isLong (L j).den.length = true) := fun e => hlong ⟨j, hj, .inr e⟩
    unfold isLong at h1 h2
    simp at h1 h2
    omega
  have HB := Lib.hid hb
  have HLR := Lib.hid (fun wx (hx : Ext w wx) => klentRs_any A n c P C L wx (H.out.ext hx) (by omega) (fun j hj => ⟨by have := HB.out j hj; omega, by have := HB.out j hj; omega⟩))
  obtain ⟨t, ht⟩ : ∃ t, fsum L n = t := ⟨_, rfl⟩
  have HTS := Lib.hid (show Small t.1 by rw [← ht]; exact fsum_small L n n 0)
  have HT := Lib.hid ht
  clear hlong HLong hb ht
  go_enter Try.func4, Try.ntmps4
  go_wp2_with fail
  refine HK.out.mono ?_; rintro e w1 ⟨rfl, hw1⟩
  subst hw1
  go_wp2_with fail
  refine (HLR.out _ (Ext.refl _)).mono ?_; rintro e w2 ⟨v, P', C', rfl, hR, hx⟩
  obtain ⟨g, cap, rfl, hc1, hc2, hg1, hg2⟩ := hR.slice (by omega)
  have HR := Lib.hid hR
  have HX2 := Lib.hid hx
  clear hR hx HLR
  have hlen1 : (n : Int) ≤ (cap : Int) := by omega
  have hlen0 : (0 : Int) ≤ (n : Int) := by omega
  have HS := Lib.hid (fun wx (hx : Ext w2 wx) => sum_any (some ⟨g, 0, none⟩) n cap P' C' L wx ((HR.out.fs.any).ext hx) HW.out (by omega) t HT.out)
  have HG := Lib.hid (fun wx (hx : Ext w1 wx) => gsum_any A n c P C L wx (H.out.ext hx) HW.out (by omega) t HT.out)
  have htt1 : (t.2.1 == t.2.1) = true := beq_self_eq_true _
  have htt2 : (t.2.2 == t.2.2) = true := beq_self_eq_true _
  go_wp2_with fail
  refine (HS.out _ (Ext.refl _)).mono ?_; rintro e w3 ⟨A3, c3, B3, d3, rfl, o1, o2, ap, hx⟩
  have O1 := Lib.hid o1
  have O2 := Lib.hid o2
  have AP := Lib.hid ap
  have HX3 := Lib.hid hx
  clear o1 o2 ap hx
  have HCA := Lib.hid ((Cells.new w3 [.bool t.1.neg, .slice A3 t.1.num.length c3, .slice B3 t.1.den.length d3] 27).ext ((Ext.refl _).alloc (.cells #[.int .i64 t.2.1, .int .i64 t.2.2] 39)))
  have HCF : Hid (Cells ((w3.alloc (.cells #[.bool t.1.neg, .slice A3 t.1.num.length c3, .slice B3 t.1.den.length d3] 27)).alloc (.cells #[.int .i64 t.2.1, .int .i64 t.2.2] 39)) (w3.heap.size + 1) [.int .i64 t.2.1, .int .i64 t.2.2]) := by
    have := Cells.new (w3.alloc (.cells #[.bool t.1.neg, .slice A3 t.1.num.length c3, .slice B3 t.1.den.length d3] 27)) [.int .i64 t.2.1, .int .i64 t.2.2] 39
    unfold Hid
    simpa using this
  have HXa := Lib.hid (((Ext.refl w3).alloc (.cells #[.bool t.1.neg, .slice A3 t.1.num.length c3, .slice B3 t.1.den.length d3] 27)).alloc (.cells #[.int .i64 t.2.1, .int .i64 t.2.2] 39))
  go_wp2_with fail
  refine (HG.out _ ?hx).mono ?_
  case hx => exact (HX2.out.trans HX3.out).trans HXa.out
  rintro e w4 ⟨A4, c4, B4, d4, rfl, o1, o2, ap, hx⟩
  have Q1 := Lib.hid o1
  have Q2 := Lib.hid o2
  have HX4 := Lib.hid (HXa.out.trans hx)
  have HCA := Lib.hid (HCA.out.ext hx)
  have HCF := Lib.hid (HCF.out.ext hx)
  clear o1 o2 ap hx HXa
  have HCB := Lib.hid ((Cells.new w4 [.bool t.1.neg, .slice A4 t.1.num.length c4, .slice B4 t.1.den.length d4] 27).ext ((Ext.refl _).alloc (.cells #[.int .i64 t.2.1, .int .i64 t.2.2] 39)))
  have HCG : Hid (Cells ((w4.alloc (.cells #[.bool t.1.neg, .slice A4 t.1.num.length c4, .slice B4 t.1.den.length d4] 27)).alloc (.cells #[.int .i64 t.2.1, .int .i64 t.2.2] 39)) (w4.heap.size + 1) [.int .i64 t.2.1, .int .i64 t.2.2]) := by
    have := Cells.new (w4.alloc (.cells #[.bool t.1.neg, .slice A4 t.1.num.length c4, .slice B4 t.1.den.length d4] 27)) [.int .i64 t.2.1, .int .i64 t.2.2] 39
    unfold Hid
    simpa using this
  have HXb := Lib.hid (((Ext.refl w4).alloc (.cells #[.bool t.1.neg, .slice A4 t.1.num.length c4, .slice B4 t.1.den.length d4] 27)).alloc (.cells #[.int .i64 t.2.1, .int .i64 t.2.2] 39))
  have a0 := HCA.out.past2 0 _ rfl
  have a1 := HCA.out.past2 1 _ rfl
  have a2 := HCA.out.past2 2 _ rfl
  have f0 := HCF.out.past2 0 _ rfl
  have f1 := HCF.out.past2 1 _ rfl
  go_wp2_with fail
  clear a0 a1 a2 f0 f1
  refine (ksameR_any t.1.neg t.1.neg A3 B3 A4 B4 t.1.num t.1.den t.1.num t.1.den c3 d3 c4 d4 _ (O1.out.rd.ext ?hx1) (O2.out.rd.ext ?hx1) (Q1.out.rd.ext ?hx2) (Q2.out.rd.ext ?hx2) true (decide_eq_true rfl)).mono ?_
  case hx1 => exact HX4.out.trans HXb.out
  case hx2 => exact HXb.out
  rintro e w5 ⟨rfl, hx⟩
  have HX5 := Lib.hid (HXb.out.trans hx)
  clear hx HXb HCB HCG HCF
  have HX25 := Lib.hid (HX3.out.trans (HX4.out.trans HX5.out))
  go_wp2_with fail
  refine (kkeptRs_any g cap A n c w1.heap.size P' P C' C L _ (HR.out.ext HX25.out) (H.out.ext (HX2.out.trans HX25.out)) (by omega) (fun j hj => ⟨by have := HB.out j hj; omega, by have := HB.out j hj; omega⟩)).mono ?_
  rintro e w6 ⟨rfl, hx⟩
  have HX26 := Lib.hid (HX25.out.trans hx)
  have HX36 := Lib.hid (HX4.out.trans (HX5.out.trans hx))
  have HCA := Lib.hid (HCA.out.ext (HX5.out.trans hx))
  clear hx HX5 HX25 HX4
  have a0 := HCA.out.at 0 _ rfl
  have a1 := HCA.out.at 1 _ rfl
  have a2 := HCA.out.at 2 _ rfl
  obtain ⟨vs, hv1, hv2⟩ := (HR.out.ext HX26.out).row
  have HV1 := Lib.hid hv1
  have HV2 := Lib.hid hv2
  clear hv1 hv2
  have HXL := Lib.hid ((Ext.refl w6).alloc (.cells #[.bool t.1.neg, .slice A3 t.1.num.length c3, .slice B3 t.1.den.length d3] 27))
  have HLIT := Lib.hid (show (w6.alloc (.cells #[.bool t.1.neg, .slice A3 t.1.num.length c3, .slice B3 t.1.den.length d3] 27)).ownsRow w1.heap.size 27 3 (.slice (some ⟨w6.heap.size, 0, none⟩) 1 1) 1 [.bool t.1.neg, .slice A3 t.1.num.length c3, .slice B3 t.1.den.length d3] from
    ⟨rfl, .inr ⟨w6.heap.size, 1, #[.bool t.1.neg, .slice A3 t.1.num.length c3, .slice B3 t.1.den.length d3], rfl, by have := HX2.out.size; have := HX26.out.size; omega, heap_alloc_new w6 _, Nat.le_refl _, by decide, rfl, rfl⟩⟩)
  have HNW := Lib.hid (show ∀ j u, vs[j]? = some u → (w6.alloc (.cells #[.bool t.1.neg, .slice A3 t.1.num.length c3, .slice B3 t.1.den.length d3] 27)).cell? ((⟨g, 0, none⟩ : Addr).add j) = some u from (ownsRow_ext HV1.out HXL.out).cells rfl)
  have HON := Lib.hid (show ∀ u ∈ vs, u.oneCell' = true from one_cells HV1.out.1 HV2.out)
  have HBS := Lib.hid (show w1.heap.size ≤ (w6.alloc (.cells #[.bool t.1.neg, .slice A3 t.1.num.length c3, .slice B3 t.1.den.length d3] 27)).heap.size by have := HX2.out.size; have := HX26.out.size; simp; omega)
  have hm3 : n + 3 ≤ 1000000 := by omega
  go_wp2_with (at_builtin; go_loud (refine wpList_appL rfl _ _ rfl w1.heap.size (.slice (some ⟨w6.heap.size, 0, none⟩) 1 1) _ rfl HLIT.out ⟨g, 0, none⟩ (n + 3) cap vs rfl HV1.out.1 HNW.out HON.out hm3 HBS.out ?_; intro v' w7 hr hg))
  have hvc : ∃ g' cap', v' = .slice (some ⟨g', 0, none⟩) (1 + (n + 3)) cap' := by
    rcases hr.2 with ⟨_, h2⟩ | ⟨g', cap', cur, h1, _⟩
    · omega
    · exact ⟨g', cap', h1⟩
  obtain ⟨g', cap', rfl⟩ := hvc
  have HXe := Lib.hid (show Ext w6 w7 from ((Ext.refl w6).alloc _).grown hg (fun k hk => by cases hk; exact Nat.le_refl _))
  have HSD := Lib.hid (pre_sides (X := LV L n) hr HV2.out (LV_num L n) (LV_den L n))
  have z1 := HX2.out.size
  have HO1 := Lib.hid (((O1.out.ext (HX36.out)).ext HXe.out).lower z1)
  have HO2 := Lib.hid (((O2.out.ext (HX36.out)).ext HXe.out).lower z1)
  have b1 : ∀ a, A3 = some a → w2.heap.size ≤ a.block := fun a e => by have h := O1.out; rw [e] at h; exact h.block.1
  have b2 : ∀ a, B3 = some a → w2.heap.size ≤ a.block := fun a e => by have h := O2.out; rw [e] at h; exact h.block.1
  have bP : ∀ j, j < 2 * (n + 3) → ∀ a, P' j = some a → a.block < w2.heap.size := fun j hj a e => by have h := HR.out.own j hj; rw [e] at h; exact h.block.2
  clear hr hg
  refine (kapartR_any w1 w7 g' 0 (1 + (n + 3)) cap' (Pre A3 B3 P') (Pre c3 d3 C') (Pre t.1.num t.1.den (LV L n)) HSD.out (HX2.out.trans (HX26.out.trans HXe.out)) (by omega) (by omega) (fun j hj => ?hown) (fun i j hi hj hne a b ha hb => ?hap) (fun j hj => ?hsm)).mono ?_
  case hown =>
    match j, hj with
    | 0, _ => exact HO1.out
    | 1, _ => exact HO2.out
    | j + 2, hj => rw [Pre_two, Pre_two, Pre_two]; exact ((HR.out.ext HX26.out).ext HXe.out).seen j (by omega)
  case hap =>
    match i, hi, j, hj with
    | 0, _, 0, _ => exact absurd rfl hne
    | 1, _, 1, _ => exact absurd rfl hne
    | 0, _, 1, _ => exact AP.out a b ha hb
    | 1, _, 0, _ => exact fun e => AP.out b a hb ha e.symm
    | 0, _, j + 2, hj => rw [Pre_two] at hb; have h1 := b1 a ha; have h2 := bP j (by omega) b hb; omega
    | 1, _, j + 2, hj => rw [Pre_two] at hb; have h1 := b2 a ha; have h2 := bP j (by omega) b hb; omega
    | i + 2, hi, 0, _ => rw [Pre_two] at ha; have h1 := b1 b hb; have h2 := bP i (by omega) a ha; omega
    | i + 2, hi, 1, _ => rw [Pre_two] at ha; have h1 := b2 b hb; have h2 := bP i (by omega) a ha; omega
    | i + 2, hi, j + 2, hj => rw [Pre_two] at ha hb; exact HR.out.ap i j (by omega) (by omega) (by omega) a b ha hb
  case hsm =>
    match j, hj with
    | 0, _ => exact HTS.out.1
    | 1, _ => exact HTS.out.2
    | j + 2, _ => rw [Pre_two]; exact LV_small HW.out HB.out j
  rintro e w8 ⟨rfl, hx⟩
  have HX8 := Lib.hid hx
  clear hx
  go_wp2_with fail
  go_ret
  exact ⟨rfl, HX8.out⟩

end Go.Proofs.Ytnhgagfkepmanaa
