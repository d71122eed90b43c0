/- Texts of this claim, joined: R13 R2s Y1 G1 G2 G3 G4. -/
import Derived.Handy
import Derived.Lib.ItoaWalk
import Derived.Deep.RegionHeld3
import Derived.Test.YtifonmdcicegdaaGreatQo
set_option linter.unusedVariables false
set_option linter.unusedSimpArgs false
namespace Go.Proofs.YtifonmdcicegdaaGreat
open Go Go.RowKit

set_option maxRecDepth 4000 in
set_option maxHeartbeats 2000000 in
theorem neg_fr (a : Fr) (A B : Option Addr) (c1 c2 : Nat) (w : World) (ha : Rd w A c1 a.num) (hb : Rd w B c2 a.den) (wa : a.Wf) :
    Calls Tryz.prog 23 #[.agg #[.bool a.neg, .slice A a.num.length c1, .slice B a.den.length c2]] w (RatP w (fneg a)) := by
  have HA := Lib.hid ha
  have HB := Lib.hid hb
  clear ha hb
  by_cases hk : fchk a ≠ 0
  · have HT := Lib.hid (show fneg a = (Fr.zero, fchk a) from if_pos hk)
    have hb1 : (fchk a != 0) = true := bne_iff_ne.2 hk
    clear hk
    go_enter Tryz.func23, Tryz.ntmps23
    go_wp2_with fail
    obtain ⟨W, hW⟩ : ∃ W, W = (w.alloc (.cells #[.bool a.neg, .slice A a.num.length c1, .slice B a.den.length c2] 24)).alloc (.cells #[.bool false, .slice none 0 0, .slice none 0 0] 24) := ⟨_, rfl⟩
    have F0 : Thr W w.heap.size (.bool a.neg) (.slice A a.num.length c1) (.slice B a.den.length c2) := by rw [hW]; refine ⟨?_, ?_, ?_⟩ <;> simp [go_sem]
    have HX : Hid (Ext w W) := by rw [hW]; exact ((Ext.refl w).alloc _).alloc _
    have HV : Hid (VarF (w.heap.size + 1) W.heap.size Fr.zero none 0 none 0 W) := by
      have h1 := VarF.zero (w.alloc (.cells #[.bool a.neg, .slice A a.num.length c1, .slice B a.den.length c2] 24)) W.heap.size
      rw [← hW] at h1
      unfold Hid
      simpa using h1
    have HZ := Lib.hid (show W.heap.size = w.heap.size + 2 by rw [hW]; simp)
    try rw [← hW]
    clear hW
    refine (rcheck_fr a A B c1 c2 W (HA.out.ext HX.out) (HB.out.ext HX.out) wa).mono ?_; rintro e w1 ⟨rfl, hx1⟩
    have F1 := thr_ext hx1 F0
    have HX1 := Lib.hid (HX.out.trans hx1)
    have HV1 := Lib.hid (HV.out.ext hx1)
    have HZ1 := Lib.hid (show w.heap.size + 2 ≤ w1.heap.size by have := hx1.size; have := HZ.out; omega)
    clear hx1 F0 HX HV
    have r0 := HV1.out.c0
    have s0 := HV1.out.fr 0
    have r1 := HV1.out.c1
    have s1 := HV1.out.fr 1
    have r2 := HV1.out.c2
    have s2 := HV1.out.fr 2
    clear F1
    go_wp2_with fail
    exact bodyPost_ret (v := .tuple #[.agg #[.bool false, .slice none 0 0, .slice none 0 0], .int .i64 (fchk a)]) (by simp [results, Tryz.results23, go_sem, r0, r1, r2]) rfl (RatP.nil HT.out rfl (by repeat (first | (with_reducible exact HX1.out) | refine Ext.setCell ?_ (by simp; try omega) _)))
  have h0 : fchk a = 0 := by simpa using hk
  have hb1 : (fchk a != 0) = false := bne_eq_false_iff_eq.2 h0
  have HT := Lib.hid (fneg_ok wa h0)
  obtain ⟨t1, t2⟩ := trimW_ok wa h0
  have HCP := Lib.hid (fun wx (hx : Ext w wx) => copied_any a A B c1 c2 wx (HA.out.ext hx) (HB.out.ext hx) t1 t2)
  clear hk h0 t1 t2
  go_enter Tryz.func23, Tryz.ntmps23
  go_wp2_with fail
  obtain ⟨W, hW⟩ : ∃ W, W = (w.alloc (.cells #[.bool a.neg, .slice A a.num.length c1, .slice B a.den.length c2] 24)).alloc (.cells #[.bool false, .slice none 0 0, .slice none 0 0] 24) := ⟨_, rfl⟩
  have F0 : Thr W w.heap.size (.bool a.neg) (.slice A a.num.length c1) (.slice B a.den.length c2) := by rw [hW]; refine ⟨?_, ?_, ?_⟩ <;> simp [go_sem]
  have HX : Hid (Ext w W) := by rw [hW]; exact ((Ext.refl w).alloc _).alloc _
  have HV : Hid (VarF (w.heap.size + 1) W.heap.size Fr.zero none 0 none 0 W) := by
    have h1 := VarF.zero (w.alloc (.cells #[.bool a.neg, .slice A a.num.length c1, .slice B a.den.length c2] 24)) W.heap.size
    rw [← hW] at h1
    unfold Hid
    simpa using h1
  have HZ := Lib.hid (show W.heap.size = w.heap.size + 2 by rw [hW]; simp)
  try rw [← hW]
  clear hW
  refine (rcheck_fr a A B c1 c2 W (HA.out.ext HX.out) (HB.out.ext HX.out) wa).mono ?_; rintro e w1 ⟨rfl, hx1⟩
  have F1 := thr_ext hx1 F0
  have HX1 := Lib.hid (HX.out.trans hx1)
  have HV1 := Lib.hid (HV.out.ext hx1)
  have HZ1 := Lib.hid (show w.heap.size + 2 ≤ w1.heap.size by have := hx1.size; have := HZ.out; omega)
  clear hx1 F0 HX HV
  obtain ⟨u0, u1, u2⟩ := F1
  go_wp2_with fail
  refine (HCP.out _ HX1.out).mono ?_; rintro e w2 ⟨A9, c9, B9, d9, rfl, o1, o2, ap, hx⟩
  have hzz := HZ1.out
  have O1 := Lib.hid (o1.lower (show w.heap.size + 2 ≤ w1.heap.size by omega))
  have O2 := Lib.hid (o2.lower (show w.heap.size + 2 ≤ w1.heap.size by omega))
  have AP := Lib.hid ap
  have HX2 := Lib.hid (HX1.out.trans hx)
  have HV2 := Lib.hid (HV1.out.ext hx)
  clear o1 o2 ap hx u0 u1 u2 HV1
  go_wp2_with fail
  refine (turned_any a A9 B9 c9 d9 _).mono ?_; rintro e w3 ⟨rfl, hx⟩
  have O1 := Lib.hid (O1.out.ext hx)
  have O2 := Lib.hid (O2.out.ext hx)
  have HX9 := Lib.hid (HX2.out.trans hx)
  have HV9 := Lib.hid (HV2.out.ext hx)
  have r0 := HV9.out.c0
  have s0 := HV9.out.fr 0
  have r1 := HV9.out.c1
  have s1 := HV9.out.fr 1
  have r2 := HV9.out.c2
  have s2 := HV9.out.fr 2
  clear hx
  go_wp2_with fail
  exact bodyPost_ret (v := .tuple #[.agg #[.bool (fturn a).neg, .slice A9 a.num.length c9, .slice B9 a.den.length d9], .int .i64 0]) (by simp [results, Tryz.results23, go_sem, r0, r1, r2]) rfl (RatP.mk (s := (fturn a).neg) (xs := a.num) (ys := a.den) HT.out rfl (by refine Own.lower ?_ (show w.heap.size ≤ w.heap.size + 2 by omega); repeat (first | (with_reducible exact O1.out) | refine Own.setBelow ?_ (by simp; try omega) _)) (by refine Own.lower ?_ (show w.heap.size ≤ w.heap.size + 2 by omega); repeat (first | (with_reducible exact O2.out) | refine Own.setBelow ?_ (by simp; try omega) _)) AP.out (by repeat (first | (with_reducible exact HX9.out) | refine Ext.setCell ?_ (by simp; try omega) _)))

end Go.Proofs.YtifonmdcicegdaaGreat

namespace Go.Proofs.YtifonmdcicegdaaGreat
open Go Go.RowKit

set_option maxHeartbeats 1000000 in
theorem size_any (x : Int) (w : World) (h0 : -9223372036854775808 ≤ x) (h1 : x ≤ 9223372036854775807) :
    Calls Tryz.prog 246 #[.int .i64 x] w fun e w' => ∃ A' c', e = .returned (.slice A' (wd x.natAbs).length c') ∧ Own w' w.heap.size A' c' (wd x.natAbs) ∧ Ext w w' := by
  obtain ⟨m, hm⟩ : ∃ m, m = x.natAbs := ⟨_, rfl⟩
  rw [← hm]
  have H := Lib.hid (of_any m w (by omega))
  by_cases hx : x < 0
  · have HE := Lib.hid (show IntKind.u64.wrap (-IntKind.u64.wrap x) = (m : Int) by rw [IntKind.wrap_u64, IntKind.wrap_u64]; omega)
    clear hm
    go_enter Tryz.func246, Tryz.ntmps246
    go_wp2_with fail
    rw [HE.out]
    refine H.out.mono ?_; rintro e w1 ⟨A1, c1, rfl, h1, hx1⟩
    have H1 := Lib.hid h1
    have HX1 := Lib.hid hx1
    clear h1 hx1
    go_wp2_with fail
    go_ret
    exact ⟨_, _, rfl, H1.out, HX1.out⟩
  · obtain rfl : x = (m : Int) := by omega
    clear hm
    go_enter Tryz.func246, Tryz.ntmps246
    go_wp2_with fail
    refine H.out.mono ?_; rintro e w1 ⟨A1, c1, rfl, h1, hx1⟩
    have H1 := Lib.hid h1
    have HX1 := Lib.hid hx1
    clear h1 hx1
    go_wp2_with fail
    go_ret
    exact ⟨_, _, rfl, H1.out, HX1.out⟩

/-- Small's answer -/
def fsmall (n d : Int) : Fr × Int := if d = 0 then (Fr.zero, 7) else tell (mkRat (sg (decide (n < 0) != decide (d < 0)) n.natAbs) d.natAbs)
theorem wd_len_64 (x : Int) (h0 : -9223372036854775808 ≤ x) (h1 : x ≤ 9223372036854775807) : (wd x.natAbs).length ≤ 2 := wd_two' _ (by omega)

set_option maxHeartbeats 1000000 in
theorem small_frac (n d : Int) (w : World) (h0 : -9223372036854775808 ≤ n) (h1 : n ≤ 9223372036854775807) (k0 : -9223372036854775808 ≤ d) (k1 : d ≤ 9223372036854775807) :
    Calls Tryz.prog 165 #[.int .i64 n, .int .i64 d] w (RatP w (fsmall n d)) := by
  by_cases hd : d = 0
  · have HT := Lib.hid (show fsmall n d = (Fr.zero, 7) from if_pos hd)
    subst hd
    go_enter Tryz.func165, Tryz.ntmps165
    go_wp2_with fail
    exact bodyPost_ret (v := .tuple #[.agg #[.bool false, .slice none 0 0, .slice none 0 0], .int .i64 7]) (by simp [results, Tryz.results165, go_sem]) rfl (RatP.nil HT.out rfl (by repeat (first | exact Ext.refl w | refine Ext.setCell ?_ (Nat.le_refl _) _ | refine Ext.alloc ?_ _)))
  · have hdb : (d == 0) = false := beq_eq_false_iff_ne.2 hd
    have Hn := Lib.hid (wd_len_64 n h0 h1)
    have Hd := Lib.hid (wd_len_64 d k0 k1)
    have Hz := Lib.hid (show d.natAbs ≠ 0 by omega)
    obtain ⟨t, ht⟩ : ∃ t, t = tell (mkRat (sg (decide (n < 0) != decide (d < 0)) n.natAbs) d.natAbs) := ⟨_, rfl⟩
    have HT := Lib.hid (show fsmall n d = t by rw [ht]; exact if_neg hd)
    have HL := fun (wx : World) (b : Bool) (A B : Option Addr) (c e : Nat) (ha : Rd wx A c (wd n.natAbs)) (hb : Rd wx B e (wd d.natAbs)) (hbb : b = (decide (n < 0) != decide (d < 0))) => Lib.hid (show Calls Tryz.prog 141 #[.bool b, .slice A (wd n.natAbs).length c, .slice B (wd d.natAbs).length e] wx (RatP wx t) by
      subst hbb; rw [ht]; exact lowest_any _ A B _ _ c e wx ha hb Hz.out (by have := Hn.out; omega) (by have := Hd.out; omega))
    have HLL := Lib.hid HL
    clear HL ht hd
    go_enter Tryz.func165, Tryz.ntmps165
    go_wp2_with fail
    refine (size_any n _ h0 h1).mono ?_; rintro e w1 ⟨A1, c1, rfl, h1', hx1⟩
    have H1 := Lib.hid h1'
    have HX1 := Lib.hid hx1
    clear h1' hx1
    go_wp2_with fail
    refine (size_any d _ k0 k1).mono ?_; rintro e w2 ⟨A2, c2, rfl, h2, hx2⟩
    have H2 := Lib.hid h2
    have H1 := Lib.hid (H1.out.ext hx2)
    have HX2 := Lib.hid (HX1.out.trans hx2)
    clear h2 hx2
    go_wp2_with fail
    refine (HLL.out _ _ _ _ _ _ H1.out.rd H2.out.rd rfl).out.mono ?_; rintro e w3 ⟨A3, c3, B3, d3, rfl, h3, h4, h5, hx3⟩
    have H3 := Lib.hid (h3.lower (show w.heap.size + 1 ≤ w2.heap.size by have := HX2.out.size; simp at this; omega))
    have H4 := Lib.hid (h4.lower (show w.heap.size + 1 ≤ w2.heap.size by have := HX2.out.size; simp at this; omega))
    have HAp := Lib.hid h5
    have HX3 := Lib.hid (HX2.out.trans hx3)
    have HXw := Lib.hid (((Ext.refl w).alloc _).trans HX3.out)
    have hz3 : w.heap.size < w3.heap.size := by have := HX3.out.size; simp at this; omega
    clear h3 h4 h5 hx3
    obtain ⟨hc, hf⟩ := bcell HX3.out
    go_wp2_with fail
    exact bodyPost_ret (v := .tuple #[.agg #[.bool t.1.neg, .slice A3 t.1.num.length c3, .slice B3 t.1.den.length d3], .int .i64 t.2]) (by simp [results, Tryz.results165, go_sem, hc]) rfl (RatP.mk HT.out rfl (by refine Own.lower ?_ (Nat.le_succ _); repeat (first | exact H3.out | refine Own.setBelow ?_ (Nat.lt_succ_self _) _)) (by refine Own.lower ?_ (Nat.le_succ _); repeat (first | exact H4.out | refine Own.setBelow ?_ (Nat.lt_succ_self _) _)) HAp.out (by repeat (first | exact HXw.out | refine Ext.setCell ?_ (Nat.le_refl _) _)))

end Go.Proofs.YtifonmdcicegdaaGreat

namespace Go.Proofs.YtifonmdcicegdaaGreat
open Go Go.RowKit

/-- where a fraction's words lie -/
structure Adr where
  A : Option Addr
  c : Nat
  B : Option Addr
  d : Nat
/-- they do not lie in this block -/
def Adr.Off (p : Adr) (k : Nat) : Prop := (∀ a, p.A = some a → a.block ≠ k) ∧ (∀ a, p.B = some a → a.block ≠ k)
/-- they lie in other blocks than another's -/
structure Adr.Dis (p q : Adr) : Prop where
  aa : ∀ a b, p.A = some a → q.A = some b → a.block ≠ b.block
  ab : ∀ a b, p.A = some a → q.B = some b → a.block ≠ b.block
  ba : ∀ a b, p.B = some a → q.A = some b → a.block ≠ b.block
  bb : ∀ a b, p.B = some a → q.B = some b → a.block ≠ b.block
def Adr.nil : Adr := ⟨none, 0, none, 0⟩
/-- a fraction that is read -/
structure RF (w : World) (p : Adr) (f : Fr) : Prop where
  num : Rd w p.A p.c f.num
  den : Rd w p.B p.d f.den
  wf : f.Wf
/-- one in the call's own memory -/
structure OF (w : World) (base : Nat) (p : Adr) (f : Fr) : Prop where
  num : Own w base p.A p.c f.num
  den : Own w base p.B p.d f.den
  ap : ∀ a b, p.A = some a → p.B = some b → a.block ≠ b.block
  wf : f.Wf
theorem RF.ext {w w' : World} {p : Adr} {f : Fr} (h : RF w p f) (x : Ext w w') : RF w' p f := ⟨h.num.ext x, h.den.ext x, h.wf⟩
theorem OF.rf {w : World} {base : Nat} {p : Adr} {f : Fr} (h : OF w base p f) : RF w p f := ⟨h.num.rd, h.den.rd, h.wf⟩
theorem OF.ext {w w' : World} {base : Nat} {p : Adr} {f : Fr} (h : OF w base p f) (x : Ext w w') : OF w' base p f := ⟨h.num.ext x, h.den.ext x, h.ap, h.wf⟩
theorem OF.lower {w : World} {base base' : Nat} {p : Adr} {f : Fr} (h : OF w base p f) (hb : base' ≤ base) : OF w base' p f := ⟨h.num.lower hb, h.den.lower hb, h.ap, h.wf⟩
theorem OF.kept {w w' : World} {base k : Nat} {p : Adr} {f : Fr} (h : OF w base p f) (g : w.grownBy w' (some k)) (o : p.Off k) : OF w' base p f :=
  ⟨h.num.kept g (fun a ha e => o.1 a ha (Option.some.inj e)), h.den.kept g (fun a ha e => o.2 a ha (Option.some.inj e)), h.ap, h.wf⟩
theorem OF.set {w : World} {base : Nat} {p : Adr} {f : Fr} {a : Addr} {u : Value} (h : OF w base p f) (o : p.Off a.block) : OF (w.setCell a u) base p f := h.kept (grown_setCell w a u) o
theorem OF.offLo {w : World} {base k : Nat} {p : Adr} {f : Fr} (h : OF w base p f) (hk : k < base) : p.Off k :=
  ⟨fun a ha e => by have := h.num; rw [ha] at this; have := this.block.1; omega, fun a ha e => by have := h.den; rw [ha] at this; have := this.block.1; omega⟩
theorem OF.offHi {w : World} {base k : Nat} {p : Adr} {f : Fr} (h : OF w base p f) (hk : w.heap.size ≤ k) : p.Off k :=
  ⟨fun a ha e => by have := h.num; rw [ha] at this; have := this.block.2; omega, fun a ha e => by have := h.den; rw [ha] at this; have := this.block.2; omega⟩
theorem OF.alloc {w : World} {base : Nat} {p : Adr} {f : Fr} {o : Obj} (h : OF w base p f) : OF (w.alloc o) base p f := h.ext ((Ext.refl w).alloc o)
theorem OF.drew {w : World} {base : Nat} {p : Adr} {f : Fr} (h : OF w base p f) : OF w.drew base p f := h.ext (Ext.refl w).drew
theorem OF.dis {w w' : World} {base base' : Nat} {p q : Adr} {f g : Fr} (h : OF w base p f) (k : OF w' base' q g) (hb : w.heap.size ≤ base') : p.Dis q :=
  ⟨h.num.apart k.num hb, h.num.apart k.den hb, h.den.apart k.num hb, h.den.apart k.den hb⟩
theorem Adr.Dis.symm {p q : Adr} (h : p.Dis q) : q.Dis p := ⟨fun a b e f => (h.aa b a f e).symm, fun a b e f => (h.ba b a f e).symm, fun a b e f => (h.ab b a f e).symm, fun a b e f => (h.bb b a f e).symm⟩
theorem OF.nil (w : World) (base : Nat) : OF w base Adr.nil Fr.zero := ⟨Own.nil _ _, Own.nil _ _, (fun _ _ h => by cases h), Fr.zero_wf⟩
theorem Adr.Dis.nil (p : Adr) : p.Dis Adr.nil := ⟨(fun _ _ _ h => by cases h), (fun _ _ _ h => by cases h), (fun _ _ _ h => by cases h), (fun _ _ _ h => by cases h)⟩
theorem Adr.Off.nil (k : Nat) : Adr.nil.Off k := ⟨(fun _ h => by cases h), (fun _ h => by cases h)⟩

/-- a call's answer: a fraction in new memory and an error -/
def TF (w : World) (t : Fr × Int) (e : Ending) (w' : World) : Prop :=
  ∃ p : Adr, e = .returned (.tuple #[.agg #[.bool t.1.neg, .slice p.A t.1.num.length p.c, .slice p.B t.1.den.length p.d], .int .i64 t.2]) ∧ OF w' w.heap.size p t.1 ∧ Below w.heap.size w w'
theorem RatP.tf {w w' : World} {t : Fr × Int} {e : Ending} (h : RatP w t e w') (hg : t.1.Wf) : TF w t e w' := by
  obtain ⟨A, c, B, d, h1, h2, h3, h4, h5⟩ := h
  exact ⟨⟨A, c, B, d⟩, h1, ⟨h2, h3, h4, hg⟩, h5⟩

section
variable (a b : Fr) (p q : Adr) (w : World) (ha : RF w p a) (hb : RF w q b)
include ha hb
theorem rAdd : Calls Tryz.prog 14 #[.agg #[.bool a.neg, .slice p.A a.num.length p.c, .slice p.B a.den.length p.d], .agg #[.bool b.neg, .slice q.A b.num.length q.c, .slice q.B b.den.length q.d]] w (TF w (fadd a b)) :=
  (add_fr a b _ _ _ _ _ _ _ _ w ha.num ha.den hb.num hb.den ha.wf hb.wf).mono fun _ _ h => h.tf (fadd_good a b).wf
theorem rMul : Calls Tryz.prog 19 #[.agg #[.bool a.neg, .slice p.A a.num.length p.c, .slice p.B a.den.length p.d], .agg #[.bool b.neg, .slice q.A b.num.length q.c, .slice q.B b.den.length q.d]] w (TF w (fmul a b)) :=
  (mul_fr a b _ _ _ _ _ _ _ _ w ha.num ha.den hb.num hb.den ha.wf hb.wf).mono fun _ _ h => h.tf (fmul_good a b).wf
end

theorem fneg_wf {a : Fr} (wa : a.Wf) : (fneg a).1.Wf := by
  unfold fneg
  split
  · exact Fr.zero_wf
  · exact enc_wf _
theorem rNeg (a : Fr) (p : Adr) (w : World) (ha : RF w p a) : Calls Tryz.prog 23 #[.agg #[.bool a.neg, .slice p.A a.num.length p.c, .slice p.B a.den.length p.d]] w (TF w (fneg a)) :=
  (neg_fr a _ _ _ _ w ha.num ha.den ha.wf).mono fun _ _ h => h.tf (fneg_wf ha.wf)
theorem fsmall_wf (n d : Int) : (fsmall n d).1.Wf := by
  unfold fsmall
  split
  · exact Fr.zero_wf
  · exact tell_wf _
theorem rSmall (n d : Int) (w : World) (h0 : -9223372036854775808 ≤ n) (h1 : n ≤ 9223372036854775807) (k0 : -9223372036854775808 ≤ d) (k1 : d ≤ 9223372036854775807) : Calls Tryz.prog 165 #[.int .i64 n, .int .i64 d] w (TF w (fsmall n d)) :=
  (small_frac n d w h0 h1 k0 k1).mono fun _ _ h => h.tf (fsmall_wf n d)

/-! ### blocks that are the call's own -/
theorem Var.c3 {g : Nat} {w : World} {a b c : Value} (h : Var g [a, b, c] w) : w.cell? ⟨g, 0, none⟩ = some a ∧ w.cell? ⟨g, 1, none⟩ = some b ∧ w.cell? ⟨g, 2, none⟩ = some c := ⟨h.at_ 0 _ rfl, h.at_ 1 _ rfl, h.at_ 2 _ rfl⟩
theorem Var.c6 {g : Nat} {w : World} {a b c d e f : Value} (h : Var g [a, b, c, d, e, f] w) : w.cell? ⟨g, 0, none⟩ = some a ∧ w.cell? ⟨g, 1, none⟩ = some b ∧ w.cell? ⟨g, 2, none⟩ = some c ∧ w.cell? ⟨g, 3, none⟩ = some d ∧ w.cell? ⟨g, 4, none⟩ = some e ∧ w.cell? ⟨g, 5, none⟩ = some f :=
  ⟨h.at_ 0 _ rfl, h.at_ 1 _ rfl, h.at_ 2 _ rfl, h.at_ 3 _ rfl, h.at_ 4 _ rfl, h.at_ 5 _ rfl⟩
theorem Var.f3 {g : Nat} {vs : List Value} {w : World} (h : Var g vs w) : w.frozen? ⟨g, 0, none⟩ = false ∧ w.frozen? ⟨g, 1, none⟩ = false ∧ w.frozen? ⟨g, 2, none⟩ = false := ⟨h.fr 0, h.fr 1, h.fr 2⟩
theorem Var.below {g : Nat} {vs : List Value} {w w' : World} (h : Var g vs w) (x : Below w.heap.size w w') : Var g vs w' := h.ext x
theorem Below.join {w0 w w' : World} (h : Below w0.heap.size w0 w) (g : Below w.heap.size w w') : Below w0.heap.size w0 w' := Ext.trans h g

end Go.Proofs.YtifonmdcicegdaaGreat

namespace Go.Proofs.YtifonmdcicegdaaGreat
open Go Go.RowKit

set_option maxHeartbeats 400000 in
theorem gcheck_any (A : Option Addr) (xs : List Int) (c : Nat) (w : World) (h : Rd w A c xs) :
    Calls Tryz.prog 274 #[.slice A xs.length c] w fun e w' => e = .returned (.int .i64 (chk xs)) ∧ w = w' := by
  have hl := h.lim
  have hc := h.cap
  have HA := Lib.hid h.at_
  clear h
  by_cases h1 : 8192 < xs.length
  · have HE := Lib.hid (show chk xs = 3 by unfold chk; rw [if_pos h1])
    go_enter Tryz.func274, Tryz.ntmps274
    go_wp2
    go_ret
    exact ⟨by rw [HE.out]; rfl, rfl⟩
  · by_cases h0 : xs.length = 0
    · have HE := Lib.hid (show chk xs = 0 by unfold chk; rw [if_neg h1, if_neg]; rintro ⟨h2, _⟩; exact h2 (List.eq_nil_of_length_eq_zero h0))
      have hn' : ¬ (0 < xs.length) := by omega
      clear h0
      go_enter Tryz.func274, Tryz.ntmps274
      go_wp2
      go_ret
      exact ⟨by rw [HE.out]; rfl, rfl⟩
    · obtain ⟨k, hk⟩ := Nat.exists_eq_succ_of_ne_zero h0
      obtain ⟨a, rfl, hcell⟩ := HA.out k (by omega)
      have hp : 0 < xs.length := by omega
      have hi : ((xs.length : Int) - 1).toNat = k := by omega
      by_cases hz : nth xs k = 0
      · have HE := Lib.hid (show chk xs = 11 by
          unfold chk; rw [if_neg h1, if_pos ⟨fun e => by simp [e] at hp, by rw [hk]; exact hz⟩])
        rw [hz] at hcell
        clear hz hk h0
        go_enter Tryz.func274, Tryz.ntmps274
        go_wp2
        go_ret
        exact ⟨by rw [HE.out]; rfl, rfl⟩
      · have HE := Lib.hid (show chk xs = 0 by
          unfold chk; rw [if_neg h1, if_neg]; rintro ⟨_, h2⟩; rw [hk] at h2; exact hz h2)
        have hz' : (nth xs k == 0) = false := by simpa using hz
        clear hz hk h0
        go_enter Tryz.func274, Tryz.ntmps274
        go_wp2
        go_ret
        exact ⟨by rw [HE.out]; rfl, rfl⟩

set_option maxHeartbeats 400000 in
theorem gboth_ok (A B : Option Addr) (m n : Nat) (c d : Nat) (w : World) (h : Rd w A c (wd m)) (k : Rd w B d (wd n)) (hm : (wd m).length ≤ 8192) (hn : (wd n).length ≤ 8192) :
    Calls Tryz.prog 237 #[.slice A (wd m).length c, .slice B (wd n).length d] w fun e w' => e = .returned (.int .i64 0) ∧ w = w' := by
  have H := Lib.hid (gcheck_any A _ c w h)
  have K := Lib.hid (gcheck_any B _ d w k)
  rw [chk_wd m hm] at H
  rw [chk_wd n hn] at K
  clear h k
  go_enter Tryz.func237, Tryz.ntmps237
  go_wp2_with fail
  refine H.out.mono ?_; rintro e w' ⟨rfl, rfl⟩
  go_wp2_with fail
  refine K.out.mono ?_; rintro e w' ⟨rfl, rfl⟩
  go_wp2_with fail
  go_ret
  exact ⟨rfl, rfl⟩

theorem gtold_ok (A : Option Addr) (n c : Nat) (w : World) (hn : n ≤ 8192) :
    Calls Tryz.prog 239 #[.slice A n c] w fun e w' => e = .returned (.tuple #[.slice A n c, .int .i64 0]) ∧ w = w' := by
  go_enter Tryz.func239, Tryz.ntmps239
  go_wp2
  go_ret2
  exact ⟨rfl, rfl⟩

set_option maxHeartbeats 400000 in
theorem gtrim_any (A : Option Addr) (xs : List Int) (c l n : Nat) (w : World) (h : Rd w A c xs) (hl : xs.length = l) (hw : Wf xs) (hv : val xs = n) (hm : l ≤ 35184372088832) :
    Calls Tryz.prog 275 #[.slice A l c] w fun e w' => ∃ A' c', e = .returned (.slice A' (wd n).length c') ∧ Own w' w.heap.size A' c' (wd n) ∧ Ext w w' := by
  subst hl
  have ht : xs.take (tl xs xs.length) = wd n := by rw [tl_all hw, hv]; rfl
  have hlim := h.lim
  have hc := h.cap
  have H := Lib.hid h
  have HTK := Lib.hid ht
  clear h ht hw hv
  go_enter Tryz.func275, Tryz.ntmps275
  go_wp2
  go_loop [3] (fun i => ∃ k : Nat, k ≤ xs.length ∧ Hid (tl xs k = tl xs xs.length) ∧ i = .int .i64 k) (fun i => (intOf i).toNat)
  case atStart => exact ⟨xs.length, by omega, rfl, rfl⟩
  case round =>
    obtain ⟨k, hk, hj, rfl⟩ := hrel
    have hfin : nth xs (k - 1) ≠ 0 ∨ k = 0 → k = tl xs xs.length := by
      intro h
      rw [← hj.out]
      cases k with
      | zero => rfl
      | succ k =>
        rcases h with h | h
        · exact (tl_here xs k h).symm
        · omega
    have hgo : nth xs (k - 1) = 0 ∧ 0 < k ∨ (nth xs (k - 1) ≠ 0 ∨ k = 0) := by
      by_cases h1 : nth xs (k - 1) = 0
      · by_cases h2 : k = 0
        · exact .inr (.inr h2)
        · exact .inl ⟨h1, by omega⟩
      · exact .inr (.inl h1)
    rcases hgo with ⟨hz, hp⟩ | hstop
    · obtain ⟨j, rfl⟩ : ∃ j, k = j + 1 := ⟨k - 1, by omega⟩
      obtain ⟨a, rfl, hcell⟩ := H.out.at_ j (by omega)
      simp only [Nat.add_sub_cancel] at hz
      have HJ := Lib.hid ((tl_zero xs j hz).symm.trans hj.out)
      rw [hz] at hcell
      clear hz hfin
      go_wp2
      go_round
      case rel => exact ⟨j, by omega, HJ.out, by go_num⟩
      case measure => simp [intOf]
    · have HK := Lib.hid (hfin hstop)
      have HTa := Lib.hid (show xs.take k = wd n by rw [HK.out]; exact HTK.out)
      have HLk := Lib.hid (show (wd n).length = k by rw [← HTa.out, List.length_take]; omega)
      have HRd := Lib.hid (show Rd w A c (wd n) by rw [← HTa.out]; exact H.out.take k)
      clear hfin
      have hst : k = 0 ∨ (∃ j a, k = j + 1 ∧ A = some a ∧ w.cell? (a.add j) = some (.int .u32 (nth xs j)) ∧ (nth xs j == 0) = false) := by
        cases k with
        | zero => exact .inl rfl
        | succ j =>
          refine .inr ⟨j, ?_⟩
          obtain ⟨a, ha, hcell⟩ := H.out.at_ j (by omega)
          refine ⟨a, rfl, ha, hcell, ?_⟩
          rcases hstop with h | h
          · exact beq_eq_false_iff_ne.2 h
          · omega
      clear hstop
      rcases hst with rfl | ⟨j, a, rfl, rfl, hcell, hz'⟩
      · go_wp2_with (at_builtin; refine wpList_app rfl _ _ rfl w.heap.size none 0 [] 0 rfl rfl (Own.nil _ _) _ _ (wd n) _ HLk.out rfl HRd.out (by omega) (Nat.le_refl _) ?_; intro A' c' w1 hO hg)
        have HO := Lib.hid hO
        have HX : Hid (Ext w w1) := (Ext.refl w).grownNone hg
        clear hO hg
        go_wp2_with fail
        go_ret
        exact ⟨A', c', by rw [HLk.out]; simp, HO.out, HX.out⟩
      · go_wp2_with (at_builtin; refine wpList_app rfl _ _ rfl w.heap.size none 0 [] 0 rfl rfl (Own.nil _ _) _ _ (wd n) _ HLk.out rfl HRd.out (by omega) (Nat.le_refl _) ?_; intro A' c' w1 hO hg)
        have HO := Lib.hid hO
        have HX : Hid (Ext w w1) := (Ext.refl w).grownNone hg
        clear hO hg
        go_wp2_with fail
        go_ret
        exact ⟨A', c', by rw [HLk.out]; simp, HO.out, HX.out⟩

set_option maxHeartbeats 400000 in
theorem gword_any (A : Option Addr) (xs : List Int) (c l k : Nat) (w : World) (h : Rd w A c xs) (hl : xs.length = l) :
    Calls Tryz.prog 282 #[.slice A l c, .int .i64 k] w fun e w' => e = .returned (.int .u32 (nth xs k)) ∧ w = w' := by
  subst hl
  have hlim := h.lim
  by_cases hk : k < xs.length
  · obtain ⟨a, rfl, hcell⟩ := h.at_ k hk
    clear h
    go_enter Tryz.func282, Tryz.ntmps282
    go_wp2
    go_ret
    exact ⟨rfl, rfl⟩
  · have HE := Lib.hid (nth_out xs k (by omega))
    clear h
    go_enter Tryz.func282, Tryz.ntmps282
    go_wp2
    go_ret
    exact ⟨by rw [HE.out]; rfl, rfl⟩

end Go.Proofs.YtifonmdcicegdaaGreat

namespace Go.Proofs.YtifonmdcicegdaaGreat
open Go Go.RowKit

set_option maxHeartbeats 1000000 in
theorem gcompare_any (A B : Option Addr) (xs ys : List Int) (c d la lb m n : Nat) (w : World) (ha : Rd w A c xs) (hb : Rd w B d ys) (hla : xs.length = la) (hlb : ys.length = lb) (hx : Wf xs) (hy : Wf ys) (hm : val xs = m) (hn : val ys = n) :
    Calls Tryz.prog 264 #[.slice A la c, .slice B lb d] w fun e w' => e = .returned (.int .i64 (cmp m n)) ∧ w = w' := by
  have l1 := ha.lim
  have l2 := hb.lim
  have H1 := fun k => Lib.hid (gword_any A xs c la k w ha hla)
  have H2 := fun k => Lib.hid (gword_any B ys d lb k w hb hlb)
  have HH1 := Lib.hid H1
  have HH2 := Lib.hid H2
  rw [hla] at l1
  rw [hlb] at l2
  obtain ⟨N, hN⟩ : ∃ N, N = max la lb := ⟨_, rfl⟩
  have hNb : la ≤ N ∧ lb ≤ N ∧ N ≤ 9223372036854775807 := by omega
  have HM := Lib.hid (show V xs N = m by rw [V_out _ _ (by omega), hm])
  have HN := Lib.hid (show V ys N = n by rw [V_out _ _ (by omega), hn])
  have HX := Lib.hid hx
  have HY := Lib.hid hy
  have hmax : Max.max (la : Int) (lb : Int) = (N : Int) := by omega
  clear H1 H2 ha hb hla hlb hx hy hm hn hN
  go_enter Tryz.func264, Tryz.ntmps264
  go_wp2_with fail
  go_loop [6] (fun i => ∃ k : Nat, k ≤ N ∧ Hid (V xs k + V ys N = V ys k + V xs N) ∧ i = .int .i64 ((k : Int) - 1)) (fun i => (intOf i + 1).toNat)
  case atStart => exact ⟨N, by omega, by show _ = _; omega, rfl⟩
  case round =>
    obtain ⟨k, hk, hv, rfl⟩ := hrel
    cases k with
    | zero =>
      have HE := Lib.hid (show cmp m n = 0 by
        apply cmp_eq
        have h1 := HM.out
        have h2 := HN.out
        have h3 := hv.out
        rw [V_zero, V_zero] at h3
        omega)
      go_wp2_with fail
      go_ret
      exact ⟨by rw [HE.out]; rfl, rfl⟩
    | succ k =>
      have e1 : (((k + 1 : Nat) : Int) - 1) = (k : Int) := by omega
      rw [e1]
      clear e1
      go_wp2_with fail
      refine (HH1.out k).out.mono ?_; rintro e w' ⟨rfl, rfl⟩
      go_wp2_with fail
      refine (HH2.out k).out.mono ?_; rintro e w' ⟨rfl, rfl⟩
      by_cases h1 : nth xs k < nth ys k
      · have HE := Lib.hid (show cmp m n = -1 by
          apply cmp_lt
          have h2 := V_below HX.out HY.out k h1
          have h3 := hv.out
          have h4 := HM.out
          have h5 := HN.out
          omega)
        go_wp2_with fail
        go_ret
        exact ⟨by rw [HE.out]; rfl, rfl⟩
      · by_cases h2 : nth ys k < nth xs k
        · have HE := Lib.hid (show cmp m n = 1 by
            apply cmp_gt
            have h2 := V_below HY.out HX.out k h2
            have h3 := hv.out
            have h4 := HM.out
            have h5 := HN.out
            omega)
          go_wp2_with fail
          go_ret
          exact ⟨by rw [HE.out]; rfl, rfl⟩
        · have HV := Lib.hid (show V xs k + V ys N = V ys k + V xs N by
            have h3 := hv.out
            rw [V_succ, V_succ, show nth xs k = nth ys k by omega] at h3
            omega)
          go_wp2_with fail
          go_round
          case rel => exact ⟨k, by omega, HV.out, by go_num⟩
          case measure => simp [intOf]

set_option maxHeartbeats 400000 in
theorem gof_any (x : Nat) (w : World) (hx : x < 18446744073709551616) :
    Calls Tryz.prog 277 #[.int .u64 x] w fun e w' => ∃ A' c', e = .returned (.slice A' (wd x).length c') ∧ Own w' w.heap.size A' c' (wd x) ∧ Ext w w' := by
  have ho := Own.lit w #[.int .u32 ((x : Int) % 4294967296), .int .u32 ((x : Int) / 4294967296)] [(x : Int) % 4294967296, (x : Int) / 4294967296] rfl (by simp)
  have HT := Lib.hid (gtrim_any _ _ _ 2 x _ ho.rd rfl (wf_of x hx) (of_words x) (by omega))
  have h1 : (x : Int) ≤ 18446744073709551615 := by omega
  clear ho
  go_enter Tryz.func277, Tryz.ntmps277
  go_wp2_with fail
  refine HT.out.mono ?_; rintro e w1 ⟨A1, c1, rfl, h1, hx1⟩
  have H1 := Lib.hid (h1.lower (show w.heap.size ≤ (w.alloc _).heap.size by simp))
  have HX1 := Lib.hid (((Ext.refl w).alloc _).trans hx1)
  clear h1 hx1
  go_wp2_with fail
  go_ret
  exact ⟨_, _, rfl, H1.out, HX1.out⟩

set_option maxHeartbeats 2000000 in
theorem gtimes_any (A B : Option Addr) (m n : Nat) (c d : Nat) (w : World) (ha : Rd w A c (wd m)) (hb : Rd w B d (wd n)) (ls : (wd m).length + (wd n).length ≤ 16384) :
    Calls Tryz.prog 266 #[.slice A (wd m).length c, .slice B (wd n).length d] w fun e w' => ∃ A' c', e = .returned (.slice A' (wd (m * n)).length c') ∧ Own w' w.heap.size A' c' (wd (m * n)) ∧ Ext w w' := by
  have HA := Lib.hid ha
  have HB := Lib.hid hb
  clear ha hb
  go_enter Tryz.func266, Tryz.ntmps266
  go_wp2_with (at_make; refine wpList_mk rfl _ _ rfl ((wd m).length + (wd n).length) _ _ rfl rfl (by omega) (by omega) (by omega) ?_; intro w1 hO hG)
  have HO := Lib.hid hO
  have HG := Lib.hid hG
  clear hO hG
  go_wp2_with fail
  go_loopw [6] (fun i wr => ∃ (k : Nat) (us : List Int), k ≤ (wd m).length ∧ Hid (us.length = (wd m).length + (wd n).length) ∧ Hid (Wf us) ∧ Hid (V us ((wd m).length + (wd n).length) = V (wd m) k * val (wd n)) ∧ Hid (∀ j, k + (wd n).length ≤ j → nth us j = 0) ∧ i = .int .i64 k ∧ Hid (Own wr w.heap.size (some ⟨w.heap.size, 0, none⟩) ((wd m).length + (wd n).length) us) ∧ Hid (Ext w wr)) (fun i _ => (wd m).length - (intOf i).toNat)
  case atStart => exact ⟨0, _, by omega, List.length_replicate, wf_zeros _, by show _ = _; rw [V_zeros, V_zero, Int.zero_mul], fun j _ => nth_zeros _ _, rfl, HO, HG⟩
  case round =>
    clear HO HG
    obtain ⟨i, us0, hi, HUL0, HW0, HV0, HZ0, rfl, HO0, HX0⟩ := hrel
    obtain ⟨wo, rfl⟩ : ∃ wo, wo = wr := ⟨_, rfl⟩
    by_cases him : i < (wd m).length
    · have bx := nth_wf (wf_wd m) i
      obtain ⟨a, rfl, hca⟩ := HA.out.at_ i him
      have HCA := Lib.hid hca
      have HVs := Lib.hid (V_succ (wd m) i)
      obtain ⟨x, hx⟩ : ∃ x, x = nth (wd m) i := ⟨_, rfl⟩
      rw [← hx] at HCA bx HVs
      clear hx hca
      go_wp2_with fail
      go_loopw [7, 8] (fun cy kk wr => ∃ (k : Nat) (us : List Int) (t : Int), k ≤ (wd n).length ∧ Hid (us.length = (wd m).length + (wd n).length) ∧ Hid (Wf us) ∧ 0 ≤ t ∧ t ≤ 4294967295 ∧ Hid (V us ((wd m).length + (wd n).length) + t * pw (i + k) = V (wd m) i * val (wd n) + x * V (wd n) k * pw i) ∧ Hid (∀ j, i + (wd n).length ≤ j → nth us j = 0) ∧ cy = .int .u64 t ∧ kk = .int .i64 k ∧ Hid (Own wr w.heap.size (some ⟨w.heap.size, 0, none⟩) ((wd m).length + (wd n).length) us) ∧ Hid (Ext w wr)) (fun _ kk _ => (wd n).length - (intOf kk).toNat)
      case atStart => exact ⟨0, us0, 0, by omega, HUL0.out, HW0.out, by omega, by omega, by show _ = _; rw [HV0.out, V_zero]; simp, HZ0.out, rfl, rfl, HO0, HX0⟩
      case round =>
        clear HO0 HX0
        obtain ⟨k, us, t, hk, HUL, HW, ht0, ht1, HV, HZ, rfl, rfl, HO, HX⟩ := hrel
        by_cases hkn : k < (wd n).length
        · obtain ⟨b, rfl, hcb⟩ := (HB.out.ext HX.out).at_ k hkn
          have hca := HX.out.cell HCA.out
          obtain ⟨ik, hik⟩ : ∃ ik, ik = i + k := ⟨_, rfl⟩
          have hw : IntKind.i64.wrap ((i : Int) + (k : Int)) = (ik : Int) := by rw [IntWalk.i64_in _ (by omega)]; omega
          have hco := HO.out.cell ik (by have := HUL.out; omega)
          have hfo := HO.out.free ik
          have by_ := nth_wf (wf_wd n) k
          have bz := nth_wf HW.out ik
          have pxy := prod_bd bx by_
          have HR := Lib.hid (mul_round us (wd n) i k _ t x _ (by have := HUL.out; omega) (by omega) HV.out)
          rw [← hik] at HR
          have hikb : (ik : Int) < ((wd m).length : Int) + ((wd n).length : Int) := by omega
          have HIK := Lib.hid hik
          obtain ⟨y, hy⟩ : ∃ y, y = nth (wd n) k := ⟨_, rfl⟩
          obtain ⟨z, hz⟩ : ∃ z, z = nth us ik := ⟨_, rfl⟩
          rw [← hy] at hcb by_ pxy HR
          rw [← hz] at hco bz HR
          have s1 : IntKind.u64.wrap (x * y) = x * y := IntWalk.u64_in _ (by omega)
          have s2 : IntKind.u64.wrap (x * y + z) = x * y + z := IntWalk.u64_in _ (by omega)
          obtain ⟨T, hT⟩ : ∃ T, T = t + (x * y + z) := ⟨_, rfl⟩
          have s3 : IntKind.u64.wrap (x * y + z + t) = T := by rw [IntWalk.u64_in _ (by omega)]; omega
          have tb : 0 ≤ T ∧ T ≤ 18446744073709551615 := by omega
          rw [← hT] at HR
          clear hy hz pxy hik hT
          go_wp2_with fail
          go_quiet (fail)
          go_wp2_with fail
          go_roundw
          case rel =>
            exact ⟨k + 1, _, _, by omega, by unfold Hid; rw [List.length_set]; exact HUL.out, wf_set HW.out _ _ (by omega) (by omega), by omega, by omega, HR.out, fun j hj => by rw [nth_set_ne _ _ _ _ (by have := HIK.out; omega)]; exact HZ.out j hj, rfl, by go_num, (HO.out.drewN _).set ik _ |>.1, (HX.out.drewN _).setCell (Nat.le_refl _) _⟩
          case measure => simp [intOf]; omega
        · have hkl : k = (wd n).length := by omega
          subst hkl
          have hco := HO.out.cell (i + (wd n).length) (by have := HUL.out; omega)
          rw [HZ.out _ (Nat.le_refl _)] at hco
          have hfo := HO.out.free (i + (wd n).length)
          have HE := Lib.hid (mul_out us (wd n) i ((wd m).length + (wd n).length) t x _ (by have := HUL.out; omega) (by omega) (HZ.out _ (Nat.le_refl _)) HV.out)
          go_wp2_with fail
          go_roundw
          case rel =>
            exact ⟨i + 1, _, by omega, by unfold Hid; rw [List.length_set]; exact HUL.out, wf_set HW.out _ t ht0 (by omega), by unfold Hid; rw [HVs.out]; exact HE.out, fun j hj => by rw [nth_set_ne _ _ _ _ (by omega)]; exact HZ.out j (by omega), by go_num, (HO.out.set (i + (wd n).length) _).1, HX.out.setCell (Nat.le_refl _) _⟩
          case measure => simp [intOf]; omega
    · have hil : i = (wd m).length := by omega
      subst hil
      have HE := Lib.hid (show val us0 = ((m * n : Nat) : Int) by
        have e := HV0.out
        rw [show V (wd m) (wd m).length = val (wd m) from rfl, val_wd, val_wd] at e
        unfold val
        rw [HUL0.out, e, Int.natCast_mul])
      go_wp2_with fail
      refine (gtrim_any _ us0 _ _ _ _ HO0.out.rd HUL0.out HW0.out HE.out (by omega)).mono ?_; rintro e w2 ⟨A2, c2, rfl, h2, hx2⟩
      have H2 := Lib.hid (h2.lower HX0.out.size)
      have HX2 := Lib.hid (HX0.out.trans hx2)
      clear h2 hx2
      go_wp2_with fail
      go_ret
      exact ⟨_, _, rfl, H2.out, HX2.out⟩

end Go.Proofs.YtifonmdcicegdaaGreat

namespace Go.Proofs.YtifonmdcicegdaaGreat
open Go Go.RowKit

theorem gword_q (A : Option Addr) (xs : List Int) (c l k : Nat) (w : World) (h : Rd w A c xs) (hl : xs.length = l) :
    Calls Tryz.prog 282 #[.slice A l c, .int .i64 k] w fun e w' => e = .returned (.int .u32 (nth xs k)) ∧ w' = w :=
  (gword_any A xs c l k w h hl).mono fun _ _ ⟨h1, h2⟩ => ⟨h1, h2.symm⟩

set_option maxHeartbeats 1000000 in
theorem gless_any (A B : Option Addr) (xs : List Int) (n : Nat) (c d l m : Nat) (w : World) (ha : Rd w A c xs) (hb : Rd w B d (wd n)) (hl : xs.length = l) (hx : Wf xs) (hm : val xs = m) (hnm : n ≤ m) (lm : l ≤ 16384) :
    Calls Tryz.prog 285 #[.slice A l c, .slice B (wd n).length d] w fun e w' => ∃ A' c', e = .returned (.slice A' (wd (m - n)).length c') ∧ Own w' w.heap.size A' c' (wd (m - n)) ∧ Ext w w' := by
  subst hl
  have hnl : (wd n).length ≤ xs.length := wd_len_le n _ (by have := V_lt hx xs.length; unfold val at hm; omega)
  have HA := Lib.hid ha
  have HB := Lib.hid hb
  have HW := Lib.hid hx
  have HM := Lib.hid hm
  clear ha hb hx hm
  go_enter Tryz.func285, Tryz.ntmps285
  go_wp2_with (at_make; refine wpList_mk rfl _ _ rfl xs.length _ _ rfl rfl (by omega) (by omega) (by omega) ?_; intro w1 hO hG)
  have HO := Lib.hid hO
  have HG := Lib.hid hG
  clear hO hG
  go_wp2_with fail
  go_loopw [6, 7] (fun bo i wr => ∃ (k : Nat) (us : List Int) (b : Int), k ≤ xs.length ∧ Hid (us.length = xs.length) ∧ Hid (Wf us) ∧ 0 ≤ b ∧ b ≤ 1 ∧ Hid (V us k + V (wd n) k = V xs k + b * pw k) ∧ bo = .int .u64 b ∧ i = .int .i64 k ∧ Hid (Own wr w.heap.size (some ⟨w.heap.size, 0, none⟩) xs.length us) ∧ Hid (Ext w wr)) (fun _ i _ => xs.length - (intOf i).toNat)
  case atStart => exact ⟨0, _, 0, by omega, List.length_replicate, wf_zeros _, by omega, by omega, by show _ = _; simp [V_zero], rfl, rfl, HO, HG⟩
  case round =>
    clear HO HG
    obtain ⟨k, us, b, hk, HUL, HU, hb0, hb1, HV, rfl, rfl, HO, HX⟩ := hrel
    by_cases hkm : k < xs.length
    · obtain ⟨a, rfl, hca⟩ := (HA.out.ext HX.out).at_ k hkm
      have hco := HO.out.cell k (by have := HUL.out; omega)
      have hfo := HO.out.free k
      have bx := nth_wf HW.out k
      have by_ := nth_wf (wf_wd n) k
      have HWD := fun q => Lib.hid (gword_q B (wd n) d _ k (wr.drewN q) ((HB.out.ext HX.out).ext ((Ext.refl wr).drewN q)) rfl)
      have HV2 := sub_round us xs (wd n) k b (by have := HUL.out; omega) bx by_ ⟨hb0, hb1⟩ HV.out
      obtain ⟨x, hx⟩ : ∃ x, x = nth xs k := ⟨_, rfl⟩
      obtain ⟨y, hy⟩ : ∃ y, y = nth (wd n) k := ⟨_, rfl⟩
      rw [← hx] at hca bx HV2
      rw [← hy] at by_ HV2 HWD
      have HWW := Lib.hid HWD
      clear hx hy HWD
      have s1 : IntKind.u64.wrap (y + b) = y + b := IntWalk.u64_in _ (by omega)
      by_cases hlt : x < y + b
      · have HV3 := Lib.hid (show V (us.set k (x + 4294967296 - (y + b))) (k + 1) + V (wd n) (k + 1) = V xs (k + 1) + 1 * pw (k + 1) by
          rw [show (x - b - y) % 4294967296 = x + 4294967296 - (y + b) by omega, show owed (x - b - y) = 1 by unfold owed; rw [if_pos (by omega)]] at HV2
          exact HV2)
        clear HV2
        go_wp2_with fail
        go_quiet ((go_at_call 282; exact Calls.quiet_of_same (HWW.out _).out))
        go_wp2_with fail
        go_roundw
        case rel =>
          exact ⟨k + 1, _, _, by omega, by unfold Hid; rw [List.length_set]; exact HUL.out, wf_set HU.out _ _ (by omega) (by omega), by omega, by omega, HV3.out, rfl, by go_num, ((HO.out.drewN _).set k _).1, (HX.out.drewN _).setCell (Nat.le_refl _) _⟩
        case measure => simp [intOf]; omega
      · have HV3 := Lib.hid (show V (us.set k (x - (y + b))) (k + 1) + V (wd n) (k + 1) = V xs (k + 1) + 0 * pw (k + 1) by
          rw [show (x - b - y) % 4294967296 = x - (y + b) by omega, show owed (x - b - y) = 0 by unfold owed; rw [if_neg (by omega)]] at HV2
          exact HV2)
        clear HV2
        go_wp2_with fail
        go_quiet ((go_at_call 282; exact Calls.quiet_of_same (HWW.out _).out))
        go_wp2_with fail
        go_roundw
        case rel =>
          exact ⟨k + 1, _, _, by omega, by unfold Hid; rw [List.length_set]; exact HUL.out, wf_set HU.out _ _ (by omega) (by omega), by omega, by omega, HV3.out, rfl, by go_num, ((HO.out.drewN _).set k _).1, (HX.out.drewN _).setCell (Nat.le_refl _) _⟩
        case measure => simp [intOf]; omega
    · have hkl : k = xs.length := by omega
      subst hkl
      have HE := Lib.hid (show val us = ((m - n : Nat) : Int) by
        have h1 := HV.out
        rw [V_out (wd n) _ hnl, val_wd] at h1
        have h2 := HM.out
        have h3 := V_lt HU.out xs.length
        have h4 := V_nonneg HU.out xs.length
        have h5 := pw_pos xs.length
        unfold val at h2 ⊢
        rw [HUL.out]
        have hb : b = 0 ∨ b = 1 := by omega
        rcases hb with rfl | rfl <;> omega)
      go_wp2_with fail
      refine (gtrim_any _ us _ _ _ _ HO.out.rd HUL.out HU.out HE.out (by omega)).mono ?_; rintro e w2 ⟨A2, c2, rfl, h2, hx2⟩
      have H2 := Lib.hid (h2.lower HX.out.size)
      have HX2 := Lib.hid (HX.out.trans hx2)
      clear h2 hx2
      go_wp2_with fail
      go_ret
      exact ⟨_, _, rfl, H2.out, HX2.out⟩

set_option maxHeartbeats 1000000 in
theorem gsmall_any (A : Option Addr) (m : Nat) (D : Nat) (c : Nat) (w : World) (ha : Rd w A c (wd m)) (hd0 : 0 < D) (hd1 : D < 4294967296) (lm : (wd m).length ≤ 16384) (Q R : Nat) (hQ : m / D = Q) (hR : m % D = R) :
    Calls Tryz.prog 276 #[.slice A (wd m).length c, .int .u32 D] w fun e w' => ∃ A' c', e = .returned (.tuple #[.slice A' (wd Q).length c', .int .u32 R]) ∧ Own w' w.heap.size A' c' (wd Q) ∧ Ext w w' := by
  have HA := Lib.hid ha
  have HQQ := Lib.hid hQ
  have HRR := Lib.hid hR
  have hRd : R < D := hR ▸ Nat.mod_lt m hd0
  clear ha hQ hR
  go_enter Tryz.func276, Tryz.ntmps276
  go_wp2_with (at_make; refine wpList_mk rfl _ _ rfl (wd m).length _ _ rfl rfl (by omega) (by omega) (by omega) ?_; intro w1 hO hG)
  have HO := Lib.hid hO
  have HG := Lib.hid hG
  clear hO hG
  go_wp2_with fail
  go_loopw [7, 8] (fun ro i wr => ∃ (k : Nat) (us : List Int) (r : Int), k ≤ (wd m).length ∧ Hid (us.length = (wd m).length) ∧ Hid (Wf us) ∧ 0 ≤ r ∧ r < D ∧ Hid ((V us (wd m).length - V us k) * D + r * pw k + V (wd m) k = m) ∧ ro = .int .u64 r ∧ i = .int .i64 ((k : Int) - 1) ∧ Hid (Own wr w.heap.size (some ⟨w.heap.size, 0, none⟩) (wd m).length us) ∧ Hid (Ext w wr)) (fun _ i _ => (intOf i + 1).toNat)
  case atStart => exact ⟨(wd m).length, _, 0, by omega, List.length_replicate, wf_zeros _, by omega, by omega, by show _ = _; have := val_wd m; unfold val at this; rw [Int.sub_self, Int.zero_mul, Int.zero_mul]; omega, rfl, rfl, HO, HG⟩
  case round =>
    clear HO HG
    obtain ⟨k, us, r, hk, HUL, HU, hr0, hr1, HV, rfl, rfl, HO, HX⟩ := hrel
    cases k with
    | zero =>
      have he := small_end us m D _ r HUL.out HU.out hr0 hr1 HV.out
      rw [HQQ.out, HRR.out] at he
      have HE := Lib.hid he.1
      have HM := Lib.hid he.2
      clear he
      go_wp2_with fail
      refine (gtrim_any _ us _ _ _ _ HO.out.rd HUL.out HU.out HE.out (by omega)).mono ?_; rintro e w2 ⟨A2, c2, rfl, h2, hx2⟩
      have H2 := Lib.hid (h2.lower HX.out.size)
      have HX2 := Lib.hid (HX.out.trans hx2)
      clear h2 hx2
      go_wp2_with fail
      go_ret2
      exact ⟨_, _, by rw [HM.out]; rfl, H2.out, HX2.out⟩
    | succ k =>
      have e1 : (((k + 1 : Nat) : Int) - 1) = (k : Int) := by omega
      rw [e1]
      clear e1
      obtain ⟨a, rfl, hca⟩ := (HA.out.ext HX.out).at_ k (by omega)
      have hco := HO.out.cell k (by have := HUL.out; omega)
      have hfo := HO.out.free k
      have bx := nth_wf (wf_wd m) k
      obtain ⟨x, hx⟩ : ∃ x, x = nth (wd m) k := ⟨_, rfl⟩
      rw [← hx] at hca bx
      have Hx := Lib.hid hx
      clear hx
      have hq := quo_lt r x D hr0 hr1 bx
      have HV2 := Lib.hid (small_round us (wd m) k (wd m).length r D m (by have := HUL.out; omega) (by omega) HV.out)
      rw [← Hx.out] at HV2
      have hm0 := Int.emod_nonneg (r * 4294967296 + x) (show (D : Int) ≠ 0 by omega)
      have hm1 := Int.emod_lt_of_pos (r * 4294967296 + x) (show (0 : Int) < D by omega)
      have hdz : ((D : Int) == 0) = false := beq_eq_false_iff_ne.2 (by omega)
      go_wp2_with fail
      go_roundw
      case rel =>
        exact ⟨k, _, _, by omega, by unfold Hid; rw [List.length_set]; exact HUL.out, wf_set HU.out _ _ hq.1 hq.2, hm0, hm1, HV2.out, rfl, rfl, (HO.out.set k _).1, HX.out.setCell (Nat.le_refl _) _⟩
      case measure => simp [intOf]

set_option maxHeartbeats 1000000 in
theorem gbits_any (B : Option Addr) (n t K : Nat) (d : Nat) (w : World) (hb : Rd w B d (wd n)) (hK : (wd n).length = K + 1) (ht : nth (wd n) K = t) (lm : (wd n).length ≤ 16384) :
    Calls Tryz.prog 278 #[.slice B (wd n).length d] w fun e w' => ∃ j : Nat, 0 < j ∧ j ≤ 32 ∧ 2 ^ (j - 1) ≤ t ∧ t < 2 ^ j ∧ e = .returned (.int .i64 ((32 * K + j : Nat) : Int)) ∧ Ext w w' := by
  have hn0 : n ≠ 0 := fun e => by have := wd_len_zero.2 e; omega
  have hl := wd_last n hn0
  rw [show (wd n).length - 1 = K by omega, ht] at hl
  have bt := nth_wf (wf_wd n) K
  rw [ht] at bt
  have ht0 : 0 < t := by omega
  have ht1 : t < 4294967296 := by omega
  have hbe : (((wd n).length : Int) == 0) = false := beq_eq_false_iff_ne.2 (by omega)
  have hi : (((wd n).length : Int) - 1).toNat = K := by omega
  have hKI : ((wd n).length : Int) - 1 = K := by omega
  have HB := Lib.hid hb
  have HT := Lib.hid ht
  have HK := Lib.hid hK
  have HKI := Lib.hid hKI
  clear hb hl ht hK hKI
  go_enter Tryz.func278, Tryz.ntmps278
  go_wp2_with fail
  refine (gtrim_any _ _ _ _ n _ HB.out rfl (wf_wd n) (val_wd n) (by omega)).mono ?_; rintro e w1 ⟨A1, c1, rfl, h1, hx1⟩
  have H1 := Lib.hid h1
  have HX1 := Lib.hid hx1
  obtain ⟨a1, rfl, hc1⟩ := h1.rd.at_ K (by have := HK.out; omega)
  rw [HT.out] at hc1
  have hKl : (K : Int) < (wd n).length := by have := HK.out; omega
  clear h1 hx1
  go_wp2_with fail
  go_loop [4, 5] (fun nn x => ∃ j y : Nat, j ≤ 32 ∧ y < 4294967296 ∧ Hid (y = t / 2 ^ j) ∧ Hid (j = 0 ∨ 2 ^ (j - 1) ≤ t) ∧ nn = .int .i64 ((32 * K + j : Nat) : Int) ∧ x = .int .u32 y) (fun _ x => (intOf x).toNat)
  case atStart => exact ⟨0, t, by omega, ht1, by show _ = _; rw [Nat.pow_zero, Nat.div_one], .inl rfl, by rw [HKI.out]; go_num, rfl⟩
  case round =>
    obtain ⟨j, y, hj, hy, HY, HJ, rfl, rfl⟩ := hrel
    by_cases h0 : 0 < y
    · have hjt : 2 ^ j ≤ t := by
        have h1 := HY.out
        rcases Nat.lt_or_ge t (2 ^ j) with h | h
        · rw [Nat.div_eq_of_lt h] at h1; omega
        · exact h
      have hj2 : j < 32 := by
        rcases Nat.lt_or_ge j 32 with h | h
        · exact h
        · have : 2 ^ 32 ≤ 2 ^ j := Nat.pow_le_pow_right (by omega) h
          omega
      have HY2 := Lib.hid (show y / 2 = t / 2 ^ (j + 1) by rw [HY.out, Nat.div_div_eq_div_mul, Nat.pow_succ])
      have HJT := Lib.hid hjt
      have HC := Lib.hid (show ((32 * K + (j + 1) : Nat) : Int) = 32 * (K : Int) + j + 1 by omega)
      clear hjt
      go_wp2_with fail
      go_round
      case rel => exact ⟨j + 1, y / 2, by omega, by omega, HY2.out, .inr HJT.out, by rw [HC.out], by rw [Int.natCast_ediv]; rfl⟩
      case measure => simp [intOf]; omega
    · have hy0 : y = 0 := by omega
      have HLt := Lib.hid (show t < 2 ^ j by
        have h1 := HY.out
        rw [hy0] at h1
        rcases Nat.lt_or_ge t (2 ^ j) with h | h
        · exact h
        · have := Nat.div_pos h (Nat.pow_pos (n := j) (show 0 < 2 by omega)); omega)
      clear hy0
      go_wp2_with fail
      go_ret
      refine ⟨j, ?_, hj, ?_, HLt.out, rfl, HX1.out⟩
      · rcases Nat.eq_zero_or_pos j with h | h
        · have := HLt.out; rw [h] at this; omega
        · exact h
      · rcases HJ.out with h | h
        · have := HLt.out; rw [h] at this; omega
        · exact h

end Go.Proofs.YtifonmdcicegdaaGreat

namespace Go.Proofs.YtifonmdcicegdaaGreat
open Go Go.RowKit

set_option maxHeartbeats 1000000 in
theorem gup_any (A : Option Addr) (m n : Nat) (c : Nat) (w : World) (ha : Rd w A c (wd m)) (hm : 0 < (wd m).length) (hn : n ≤ 31) (lm : (wd m).length ≤ 8193) :
    Calls Tryz.prog 279 #[.slice A (wd m).length c, .int .i64 n] w fun e w' => ∃ A' c', e = .returned (.slice A' (wd (m * 2 ^ n)).length c') ∧ Own w' w.heap.size A' c' (wd (m * 2 ^ n)) ∧ Ext w w' := by
  have HA := Lib.hid ha
  have HW := Lib.hid (wf_wd m)
  have hn0 : (0 : Int) ≤ n := by omega
  have hn1 : (n : Int) ≤ 31 := by omega
  have hd1 : (n : Int) / 32 = 0 := by omega
  have hd3 : (n : Int) % 32 = n := by omega
  have hbe : (((wd m).length : Int) == 0) = false := beq_eq_false_iff_ne.2 (by omega)
  obtain ⟨xs, hxs⟩ : ∃ xs, xs = wd m := ⟨_, rfl⟩
  have HXS := Lib.hid hxs
  rw [← hxs] at HA HW lm hm hbe ⊢
  clear ha hxs
  go_enter Tryz.func279, Tryz.ntmps279
  go_wp2_with (at_make; refine wpList_mk rfl _ _ rfl (xs.length + 1) _ _ rfl rfl (by omega) (by omega) (by omega) ?_; intro w1 hO hG)
  have HO := Lib.hid hO
  have HG := Lib.hid hG
  clear hO hG
  go_wp2_with fail
  go_loopw [6] (fun i wr => ∃ (k : Nat) (us : List Int), k ≤ xs.length ∧ Hid (us.length = xs.length + 1) ∧ Hid (Wf us) ∧ Hid (V us (k + 1) = V xs k * 2 ^ n) ∧ Hid (nth us k < 2 ^ n) ∧ Hid (∀ j, k + 1 ≤ j → nth us j = 0) ∧ i = .int .i64 k ∧ Hid (Own wr w.heap.size (some ⟨w.heap.size, 0, none⟩) (xs.length + 1) us) ∧ Hid (Ext w wr)) (fun i _ => xs.length - (intOf i).toNat)
  case atStart => exact ⟨0, _, by omega, List.length_replicate, wf_zeros _, by show _ = _; rw [V_zeros, V_zero, Int.zero_mul], by show _ < _; rw [nth_zeros]; exact Int.pow_pos (by omega), fun j _ => nth_zeros _ _, rfl, HO, HG⟩
  case round =>
    clear HO HG
    obtain ⟨k, us, hk, HUL, HU, HV, HT, HZ, rfl, HO, HX⟩ := hrel
    by_cases hkm : k < xs.length
    · obtain ⟨a, rfl, hca⟩ := (HA.out.ext HX.out).at_ k hkm
      have hco := HO.out.cell k (by have := HUL.out; omega)
      have hfo := HO.out.free k
      have hco1 := HO.out.cell (k + 1) (by have := HUL.out; omega)
      rw [HZ.out _ (Nat.le_refl _)] at hco1
      have hfo1 := HO.out.free (k + 1)
      have bx := nth_wf HW.out k
      have bz := nth_wf HU.out k
      obtain ⟨x, hx⟩ : ∃ x, x = nth xs k := ⟨_, rfl⟩
      obtain ⟨z, hz⟩ : ∃ z, z = nth us k := ⟨_, rfl⟩
      rw [← hx] at hca bx
      rw [← hz] at hco bz
      obtain ⟨_, hq2, hp1, hp2, hp3⟩ := up_word x z n hn bx bz.1 (by rw [hz]; exact HT.out)
      have hww : IntKind.u64.wrap (x * 2 ^ n) = x * 2 ^ n := by
        have hp := two_pow_le n hn
        have h1 : x * 2 ^ n < 4294967296 * 2 ^ n := Int.mul_lt_mul_of_pos_right bx.2 (by omega)
        exact IntWalk.u64_in _ ⟨Int.mul_nonneg bx.1 (by omega), by omega⟩
      obtain ⟨lo, hlo⟩ : ∃ lo, lo = x * 2 ^ n % 4294967296 := ⟨_, rfl⟩
      obtain ⟨hi, hhi⟩ : ∃ hi, hi = x * 2 ^ n / 4294967296 := ⟨_, rfl⟩
      have hlb : 0 ≤ lo ∧ lo < 4294967296 := by omega
      rw [hww] at hq2
      rw [← hhi] at hp1 hp2 hq2
      rw [← hlo] at hp3
      have HR := Lib.hid (up_round us xs n k (by have := HUL.out; omega) HV.out)
      rw [← hx, ← hz, ← hlo, ← hhi] at HR
      have g1 : x * 2 ^ n % 4294967296 = lo := hlo.symm
      have g2 : x * 2 ^ n / 4294967296 = hi := hhi.symm
      have HP2 := Lib.hid hp2
      have hpp := (two_pow_le n hn).2
      have hi2 : hi < 4294967296 := by omega
      clear hx hz hlo hhi hp2 hpp hq2
      go_wp2_with fail
      go_roundw
      case rel =>
        refine ⟨k + 1, (us.set k (z + lo)).set (k + 1) hi, by omega, by unfold Hid; rw [List.length_set, List.length_set]; exact HUL.out, wf_set (wf_set HU.out _ _ (by omega) hp3) _ _ hp1 hi2, HR.out, ?_, fun j hj => ?_, by go_num, ((HO.out.set k _).1.set (k + 1) _).1, (HX.out.setCell (Nat.le_refl _) _).setCell (Nat.le_refl _) _⟩
        · unfold Hid; rw [nth_set_self _ _ _ (by rw [List.length_set]; have := HUL.out; omega)]; exact HP2.out
        · rw [nth_set_ne _ _ _ _ (by omega), nth_set_ne _ _ _ _ (by omega)]; exact HZ.out j (by omega)
      case measure => simp [intOf]; omega
    · have hkl : k = xs.length := by omega
      subst hkl
      have HE := Lib.hid (show val us = ((m * 2 ^ n : Nat) : Int) by
        have h1 := HV.out
        rw [show V xs xs.length = val xs from rfl, HXS.out, val_wd] at h1
        unfold val
        rw [HUL.out, HXS.out, h1, Int.natCast_mul, Int.natCast_pow]
        rfl)
      go_wp2_with fail
      refine (gtrim_any _ us _ _ _ _ HO.out.rd HUL.out HU.out HE.out (by omega)).mono ?_; rintro e w2 ⟨A2, c2, rfl, h2, hx2⟩
      have H2 := Lib.hid (h2.lower HX.out.size)
      have HX2 := Lib.hid (HX.out.trans hx2)
      clear h2 hx2
      go_wp2_with fail
      go_ret
      exact ⟨_, _, rfl, H2.out, HX2.out⟩

set_option maxHeartbeats 1000000 in
theorem gdown_any (A : Option Addr) (m n : Nat) (c : Nat) (w : World) (ha : Rd w A c (wd m)) (hn : n ≤ 31) (lm : (wd m).length ≤ 8193) (Q : Nat) (hQ : m / 2 ^ n = Q) :
    Calls Tryz.prog 281 #[.slice A (wd m).length c, .int .i64 n] w fun e w' => ∃ A' c', e = .returned (.slice A' (wd Q).length c') ∧ Own w' w.heap.size A' c' (wd Q) ∧ Ext w w' := by
  have HA := Lib.hid ha
  have HQ := Lib.hid hQ
  have hcap := ha.cap
  have hcapm := ha.capm
  have hn0 : (0 : Int) ≤ n := by omega
  have hn1 : (n : Int) ≤ 31 := by omega
  have hd1 : (n : Int) / 32 = 0 := by omega
  have hd3 : (n : Int) % 32 = n := by omega
  clear hQ
  by_cases hm : (wd m).length = 0
  · have hz : m = 0 := wd_len_zero.1 hm
    have HE := Lib.hid (show wd Q = [] by rw [← HQ.out, hz, Nat.zero_div, wd_zero])
    clear ha hz
    go_enter Tryz.func281, Tryz.ntmps281
    go_wp2_with fail
    go_ret
    exact ⟨none, 0, by rw [HE.out]; rfl, by rw [HE.out]; exact Own.nil _ _, Ext.refl _⟩
  · have hp : 0 < (wd m).length := by omega
    obtain ⟨a, rfl⟩ := ha.some_ hp
    have hne : ¬ wd m = [] := fun e => by rw [e] at hm; exact hm rfl
    clear ha hm
    go_enter Tryz.func281, Tryz.ntmps281
    go_wp2_with (at_make; refine wpList_mk rfl _ _ rfl (wd m).length _ _ rfl rfl (by omega) (by omega) (by omega) ?_; intro w1 hO hG)
    have HO := Lib.hid hO
    have HG := Lib.hid hG
    clear hO hG
    go_wp2_with fail
    go_loopw [7] (fun i wr => ∃ (k : Nat) (us : List Int), k ≤ (wd m).length ∧ Hid (us.length = (wd m).length) ∧ Hid (Wf us) ∧ Hid (V us k * 2 ^ n = V (wd m) k + nth (wd m) k % 2 ^ n * pw k - nth (wd m) 0 % 2 ^ n) ∧ i = .int .i64 k ∧ Hid (Own wr w.heap.size (some ⟨w.heap.size, 0, none⟩) (wd m).length us) ∧ Hid (Ext w wr)) (fun i _ => (wd m).length - (intOf i).toNat)
    case atStart => exact ⟨0, _, by omega, List.length_replicate, wf_zeros _, by show _ = _; rw [V_zero, V_zero, pw_zero]; omega, rfl, HO, HG⟩
    case round =>
      clear HO HG
      obtain ⟨k, us, hk, HUL, HU, HV, rfl, HO, HX⟩ := hrel
      by_cases hkm : k < (wd m).length
      · have hca := HX.out.cell (HA.out.cell k hkm)
        have hco := HO.out.cell k (by have := HUL.out; omega)
        have hfo := HO.out.free k
        have bx := nth_wf (wf_wd m) k
        have by_ := nth_wf (wf_wd m) (k + 1)
        have HD := Lib.hid (dwn_round us (wd m) n k _ hn (wf_wd m) (by have := HUL.out; omega) HV.out)
        have hb := dwn_bd (nth (wd m) k) (nth (wd m) (k + 1)) n
        obtain ⟨x, hx⟩ : ∃ x, x = nth (wd m) k := ⟨_, rfl⟩
        obtain ⟨y, hy⟩ : ∃ y, y = nth (wd m) (k + 1) := ⟨_, rfl⟩
        have HWD := fun q => Lib.hid (gword_q (some a) (wd m) c _ (k + 1) (wr.drewN q) ((HA.out.ext HX.out).ext ((Ext.refl wr).drewN q)) rfl)
        rw [← hx, ← hy] at HD hb
        rw [← hx] at hca bx
        rw [← hy] at by_ HWD
        have HWW := Lib.hid HWD
        have s1 : IntKind.u64.wrap (y * 4294967296 + x) = y * 4294967296 + x := IntWalk.u64_in _ (by omega)
        have s2 : IntKind.u64.wrap (y * 4294967296) = y * 4294967296 := IntWalk.u64_in _ (by omega)
        have s3 : IntKind.i64.wrap ((k : Int) + 1) = ((k + 1 : Nat) : Int) := by rw [IntWalk.i64_in _ (by omega)]; omega
        have HE := Lib.hid (show (y * 4294967296 + x) / 2 ^ n % 4294967296 = dwn x y n by unfold dwn; rw [Int.add_comm])
        have Hy := Lib.hid hy
        clear hx hy HWD
        go_wp2_with fail
        go_quiet ((go_at_call 282; exact Calls.quiet_of_same (HWW.out _).out))
        go_wp2_with fail
        go_roundw
        case rel =>
          rw [HE.out]
          exact ⟨k + 1, _, by omega, by unfold Hid; rw [List.length_set]; exact HUL.out, wf_set HU.out _ _ hb.1 hb.2, by unfold Hid; rw [← Hy.out]; exact HD.out, by go_num, ((HO.out.drewN _).set k _).1, (HX.out.drewN _).setCell (Nat.le_refl _) _⟩
        case measure => simp [intOf]; omega
      · have hkl : k = (wd m).length := by omega
        subst hkl
        have HE := Lib.hid (dwn_end us m n _ hn rfl HUL.out HV.out)
        rw [HQ.out] at HE
        go_wp2_with fail
        refine (gtrim_any _ us _ _ _ _ HO.out.rd HUL.out HU.out HE.out (by omega)).mono ?_; rintro e w2 ⟨A2, c2, rfl, h2, hx2⟩
        have H2 := Lib.hid (h2.lower HX.out.size)
        have HX2 := Lib.hid (HX.out.trans hx2)
        clear h2 hx2
        go_wp2_with fail
        go_ret
        exact ⟨_, _, rfl, H2.out, HX2.out⟩

end Go.Proofs.YtifonmdcicegdaaGreat

