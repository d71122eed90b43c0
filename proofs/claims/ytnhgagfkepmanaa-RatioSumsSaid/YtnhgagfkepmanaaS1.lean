/- ratio.Sum. -/
import Derived.Test.YtnhgagfkepmanaaR5
import Derived.Test.YtnhgagfkepmanaaP5
namespace Go.Proofs.Ytnhgagfkepmanaa
open Go Go.RowKit

/-- fractions side by side from gr, o on -/
structure Fs (gr o n : Nat) (P : Nat → Option Addr) (C : Nat → Nat) (L : Nat → Fr) (w : World) : Prop where
  neg : ∀ j, j < n → w.cell? ⟨gr, o + j * 3, none⟩ = some (.bool (L j).neg)
  num : ∀ j, j < n → w.cell? ⟨gr, o + j * 3 + 1, none⟩ = some (.slice (P (2 * j)) (L j).num.length (C (2 * j)))
  den : ∀ j, j < n → w.cell? ⟨gr, o + j * 3 + 2, none⟩ = some (.slice (P (2 * j + 1)) (L j).den.length (C (2 * j + 1)))
  rnum : ∀ j, j < n → Rd w (P (2 * j)) (C (2 * j)) (L j).num
  rden : ∀ j, j < n → Rd w (P (2 * j + 1)) (C (2 * j + 1)) (L j).den
theorem Fs.ext {gr o n : Nat} {P : Nat → Option Addr} {C : Nat → Nat} {L : Nat → Fr} {w w' : World} (h : Fs gr o n P C L w) (e : Ext w w') : Fs gr o n P C L w' :=
  ⟨fun j hj => e.cell (h.neg j hj), fun j hj => e.cell (h.num j hj), fun j hj => e.cell (h.den j hj), fun j hj => (h.rnum j hj).ext e, fun j hj => (h.rden j hj).ext e⟩

/-- .. behind whatever slice -/
def FsA (A : Option Addr) (n : Nat) (P : Nat → Option Addr) (C : Nat → Nat) (L : Nat → Fr) (w : World) : Prop := (∀ j, j < n → ∃ gr o, A = some ⟨gr, o, none⟩) ∧ ∀ gr o, A = some ⟨gr, o, none⟩ → Fs gr o n P C L w
theorem FsA.ext {A : Option Addr} {n : Nat} {P : Nat → Option Addr} {C : Nat → Nat} {L : Nat → Fr} {w w' : World} (h : FsA A n P C L w) (e : Ext w w') : FsA A n P C L w' := ⟨h.1, fun gr o ha => (h.2 gr o ha).ext e⟩
theorem Fs.any {gr o n : Nat} {P : Nat → Option Addr} {C : Nat → Nat} {L : Nat → Fr} {w : World} (h : Fs gr o n P C L w) : FsA (some ⟨gr, o, none⟩) n P C L w := ⟨fun _ _ => ⟨gr, o, rfl⟩, fun gr' o' e => by cases e; exact h⟩

/-- a sum is told: new memory, or the fault -/
def SumP (w : World) (t : Fr × Int × Int) (e : Ending) (w' : World) : Prop :=
  ∃ A c B d, e = .returned (.tuple #[.agg #[.bool t.1.neg, .slice A t.1.num.length c, .slice B t.1.den.length d], .agg #[.int .i64 t.2.1, .int .i64 t.2.2]]) ∧ Own w' w.heap.size A c t.1.num ∧ Own w' w.heap.size B d t.1.den ∧ (∀ a b, A = some a → B = some b → a.block ≠ b.block) ∧ Ext w w'
theorem SumP.mk {w w' : World} {t : Fr × Int × Int} {s : Bool} {xs ys : List Int} {er i : Int} {e : Ending} {A B : Option Addr} {c d : Nat} (ht : t = (⟨s, xs, ys⟩, er, i)) (he : e = .returned (.tuple #[.agg #[.bool s, .slice A xs.length c, .slice B ys.length d], .agg #[.int .i64 er, .int .i64 i]]))
    (h1 : Own w' w.heap.size A c xs) (h2 : Own w' w.heap.size B d ys) (h3 : ∀ a b, A = some a → B = some b → a.block ≠ b.block) (h4 : Ext w w') : SumP w t e w' := by
  subst ht
  exact ⟨A, c, B, d, he, h1, h2, h3, h4⟩
theorem SumP.nil {w w' : World} {t : Fr × Int × Int} {er i : Int} {e : Ending} (ht : t = (Fr.zero, er, i)) (he : e = .returned (.tuple #[.agg #[.bool false, .slice none 0 0, .slice none 0 0], .agg #[.int .i64 er, .int .i64 i]])) (h4 : Ext w w') : SumP w t e w' := by
  subst ht
  exact ⟨none, 0, none, 0, he, Own.nil _ _, Own.nil _ _, (fun _ _ h => by cases h), h4⟩

theorem grown_setCell (w : World) (p : Addr) (u : Value) : w.grownBy (w.setCell p u) (some p.block) :=
  ⟨rfl, rfl, rfl, by simp [World.setCell], fun k hk hne => Below.heap_setCell _ _ _ _ (fun e => hne (by rw [e]))⟩
theorem cell_keep {w w' : World} {row : Option Nat} (h : w.grownBy w' row) {g j : Nat} {v : Value} (hc : w.cell? ⟨g, j, none⟩ = some v) (hne : some g ≠ row) : w'.cell? ⟨g, j, none⟩ = some v := h.cell hc hne
theorem own_set {w : World} {base c : Nat} {A : Option Addr} {xs : List Int} {p : Addr} {u : Value} (h : Own w base A c xs) (hp : ∀ a, A = some a → a.block ≠ p.block) : Own (w.setCell p u) base A c xs :=
  h.kept (grown_setCell w p u) (fun a ha e => hp a ha (Option.some.inj e))
/-- a variable that holds a fraction in the call's own memory -/
structure VarF (g base : Nat) (f : Fr) (A : Option Addr) (c : Nat) (B : Option Addr) (d : Nat) (w : World) : Prop where
  c0 : w.cell? ⟨g, 0, none⟩ = some (.bool f.neg)
  c1 : w.cell? ⟨g, 1, none⟩ = some (.slice A f.num.length c)
  c2 : w.cell? ⟨g, 2, none⟩ = some (.slice B f.den.length d)
  fr : ∀ o, w.frozen? ⟨g, o, none⟩ = false
  onum : Own w base A c f.num
  oden : Own w base B d f.den
  ap : ∀ a b, A = some a → B = some b → a.block ≠ b.block
  n1 : ∀ a, A = some a → a.block ≠ g
  n2 : ∀ a, B = some a → a.block ≠ g
theorem VarF.ext {g base : Nat} {f : Fr} {A B : Option Addr} {c d : Nat} {w w' : World} (h : VarF g base f A c B d w) (e : Ext w w') : VarF g base f A c B d w' :=
  ⟨e.cell h.c0, e.cell h.c1, e.cell h.c2, fun o => (Below.frozen (p := ⟨g, o, none⟩) e (World.block_lt_of_cell? w ⟨g, 0, none⟩ h.c0)).trans (h.fr o), h.onum.ext e, h.oden.ext e, h.ap, h.n1, h.n2⟩
/-- another fraction is laid into it -/
theorem VarF.store {g base : Nat} {f k : Fr} {A B C D : Option Addr} {c d a b : Nat} {w : World} (h : VarF g base f A c B d w) (o1 : Own w base C a k.num) (o2 : Own w base D b k.den) (ap : ∀ a b, C = some a → D = some b → a.block ≠ b.block) (n1 : ∀ a, C = some a → a.block ≠ g) (n2 : ∀ a, D = some a → a.block ≠ g) :
    VarF g base k C a D b (((w.setCell ⟨g, 0, none⟩ (.bool k.neg)).setCell ⟨g, 1, none⟩ (.slice C k.num.length a)).setCell ⟨g, 2, none⟩ (.slice D k.den.length b)) := by
  have k0 : (w.setCell ⟨g, 0, none⟩ (.bool k.neg)).cell? ⟨g, 0, none⟩ = some (.bool k.neg) := World.cell?_setCell_same _ _ _ h.c0
  have k1 : (w.setCell ⟨g, 0, none⟩ (.bool k.neg)).cell? ⟨g, 1, none⟩ = _ := (World.cell?_setCell_other _ _ _ _ (by simp)).trans h.c1
  have k2 : (w.setCell ⟨g, 0, none⟩ (.bool k.neg)).cell? ⟨g, 2, none⟩ = _ := (World.cell?_setCell_other _ _ _ _ (by simp)).trans h.c2
  have m0 : ((w.setCell ⟨g, 0, none⟩ (.bool k.neg)).setCell ⟨g, 1, none⟩ (.slice C k.num.length a)).cell? ⟨g, 0, none⟩ = _ := (World.cell?_setCell_other _ _ _ _ (by simp)).trans k0
  have m1 : ((w.setCell ⟨g, 0, none⟩ (.bool k.neg)).setCell ⟨g, 1, none⟩ (.slice C k.num.length a)).cell? ⟨g, 1, none⟩ = _ := World.cell?_setCell_same _ _ _ k1
  have m2 : ((w.setCell ⟨g, 0, none⟩ (.bool k.neg)).setCell ⟨g, 1, none⟩ (.slice C k.num.length a)).cell? ⟨g, 2, none⟩ = _ := (World.cell?_setCell_other _ _ _ _ (by simp)).trans k2
  refine ⟨(World.cell?_setCell_other _ _ _ _ (by simp)).trans m0, (World.cell?_setCell_other _ _ _ _ (by simp)).trans m1, World.cell?_setCell_same _ _ _ m2, fun o => ?_, ?_, ?_, ap, n1, n2⟩
  · have := h.fr o
    simp only [World.frozen?_setCell]
    exact this
  · exact own_set (own_set (own_set o1 n1) n1) n1
  · exact own_set (own_set (own_set o2 n2) n2) n2

theorem VarF.new {base : Nat} {k : Fr} {C D : Option Addr} {a b : Nat} {w : World} (o1 : Own w base C a k.num) (o2 : Own w base D b k.den) (ap : ∀ a b, C = some a → D = some b → a.block ≠ b.block) :
    VarF w.heap.size base k C a D b (w.alloc (.cells #[.bool k.neg, .slice C k.num.length a, .slice D k.den.length b] 27)) :=
  ⟨by simp [go_sem], by simp [go_sem], by simp [go_sem], fun o => by simp [go_sem], o1.ext ((Ext.refl w).alloc _), o2.ext ((Ext.refl w).alloc _), ap,
    fun a ha e => by rw [ha] at o1; have := o1.block.2; omega, fun a ha e => by rw [ha] at o2; have := o2.block.2; omega⟩
theorem VarF.zero (w : World) (base : Nat) : VarF w.heap.size base Fr.zero none 0 none 0 (w.alloc (.cells #[.bool false, .slice none 0 0, .slice none 0 0] 27)) :=
  VarF.new (k := Fr.zero) (Own.nil w base) (Own.nil w base) (fun _ _ h => by cases h)
theorem VarF.lower {g base base' : Nat} {f : Fr} {A B : Option Addr} {c d : Nat} {w : World} (h : VarF g base f A c B d w) (hb : base' ≤ base) : VarF g base' f A c B d w :=
  ⟨h.c0, h.c1, h.c2, h.fr, h.onum.lower hb, h.oden.lower hb, h.ap, h.n1, h.n2⟩
theorem VarF.lt {g base : Nat} {f : Fr} {A B : Option Addr} {c d : Nat} {w : World} (h : VarF g base f A c B d w) : g < w.heap.size := World.block_lt_of_cell? w ⟨g, 0, none⟩ h.c0

/-- plus, of any two fractions that may be -/
theorem plus_fr (a b : Fr) (A B C D : Option Addr) (c1 c2 c3 c4 : Nat) (w : World) (ha : Rd w A c1 a.num) (hb : Rd w B c2 a.den) (hc : Rd w C c3 b.num) (hd : Rd w D c4 b.den) (wa : a.Wf) (wb : b.Wf) (h : fchk a = 0) (k : fchk b = 0) (r : Rat) (hr : a.q + b.q = r) :
    Calls Try.prog 31 #[.agg #[.bool a.neg, .slice A a.num.length c1, .slice B a.den.length c2], .agg #[.bool b.neg, .slice C b.num.length c3, .slice D b.den.length c4]] w (RatP w (tell r)) := by
  obtain ⟨p, rfl, lp⟩ := fchk_ok wa h
  obtain ⟨q, rfl, lq⟩ := fchk_ok wb k
  rw [dec_enc, dec_enc] at hr
  subst hr
  have h1 := not_lng lp
  have h2 := not_lng lq
  exact plus_gen (decide (p.num < 0)) (decide (q.num < 0)) A B C D p.num.natAbs p.den q.num.natAbs q.den c1 c2 c3 c4 w (p + q) ha hb hc hd p.den_nz q.den_nz h1.1 h1.2 h2.1 h2.2 (plus_cases p q)

theorem enc_zero_parts : (enc 0).neg = false ∧ (enc 0).num = [] ∧ (enc 0).den = [1] := by rw [enc_zero]; exact ⟨rfl, rfl, rfl⟩

set_option maxRecDepth 4000 in
set_option maxHeartbeats 2000000 in
theorem sum_any (AA : Option Addr) (n c : Nat) (P : Nat → Option Addr) (C : Nat → Nat) (L : Nat → Fr) (w : World) (h : FsA AA n P C L w) (hw : ∀ j, j < n → (L j).Wf) (hn : n ≤ 1000000) (t : Fr × Int × Int) (ht : fsum L n = t) :
    Calls Try.prog 15 #[.slice AA n c] w (SumP w t) := by
  have H := Lib.hid h
  have HW := Lib.hid hw
  have HT := Lib.hid ht
  clear h hw ht
  go_enter Try.func15, Try.ntmps15
  go_wp2_with fail
  obtain ⟨W, hW⟩ : ∃ W, W = ((w.alloc (.cells #[.bool false, .slice none 0 0, .slice none 0 0] 27)).alloc (.cells #[.int .i64 0, .int .i64 0] 39)) := ⟨_, rfl⟩
  have HXW : Hid (Ext w W) := by rw [hW]; exact ((Ext.refl w).alloc _).alloc _
  have HZ : Hid (W.heap.size = w.heap.size + 2) := by rw [hW]; unfold Hid; simp
  have HR : Hid (W.cell? ⟨w.heap.size, 0, none⟩ = some (.bool false) ∧ W.cell? ⟨w.heap.size, 1, none⟩ = some (.slice none 0 0) ∧ W.cell? ⟨w.heap.size, 2, none⟩ = some (.slice none 0 0) ∧ W.cell? ⟨w.heap.size + 1, 0, none⟩ = some (.int .i64 0) ∧ W.cell? ⟨w.heap.size + 1, 1, none⟩ = some (.int .i64 0)) := by
    rw [hW]; unfold Hid; refine ⟨?_, ?_, ?_, ?_, ?_⟩ <;> simp [go_sem]
  have HF : Hid (∀ o, W.frozen? ⟨w.heap.size, o, none⟩ = false ∧ W.frozen? ⟨w.heap.size + 1, o, none⟩ = false) := by
    rw [hW]; unfold Hid; intro o; exact ⟨by simp [go_sem], by simp [go_sem]⟩
  try rw [← hW]
  clear hW
  go_loopw [13] (fun s wr => ∃ k : Nat, k ≤ n ∧ s = .int .i64 k ∧ Hid (fsumFrom L n k (n - k) = t) ∧ Hid (∀ j, j < k → fchk (L j) = 0) ∧ Hid (Ext W wr)) (fun s _ => n - (intOf s).toNat)
  case atStart => exact ⟨0, by omega, rfl, HT.out, fun j hj => by omega, Ext.refl _⟩
  case round =>
    obtain ⟨k, hk, rfl, HS, HO, HX⟩ := hrel
    by_cases hkn : k < n
    · obtain ⟨gr, o, rfl⟩ := H.out.1 k hkn
      have H := Lib.hid (H.out.2 gr o rfl)
      obtain ⟨d, hd⟩ : ∃ d, n - k = d + 1 := ⟨n - k - 1, by omega⟩
      have HD := Lib.hid (show n - (k + 1) = d by omega)
      have e0 := (H.out.ext (HXW.out.trans HX.out)).neg k hkn
      have e1 := (H.out.ext (HXW.out.trans HX.out)).num k hkn
      have e2 := (H.out.ext (HXW.out.trans HX.out)).den k hkn
      have HC := Lib.hid (fun wx (hx : Ext W wx) => rcheck_any (L k).neg (P (2 * k)) (P (2 * k + 1)) (L k).num (L k).den (C (2 * k)) (C (2 * k + 1)) wx (((H.out.rnum k hkn).ext HXW.out).ext hx) (((H.out.rden k hkn).ext HXW.out).ext hx) (HW.out k hkn).num (HW.out k hkn).den)
      have HXB := Lib.hid (HX.out.alloc (.cells #[.bool (L k).neg, .slice (P (2 * k)) (L k).num.length (C (2 * k)), .slice (P (2 * k + 1)) (L k).den.length (C (2 * k + 1))] 27))
      have HS2 := Lib.hid (hd ▸ HS.out)
      clear hd HS
      by_cases hb : fchk (L k) ≠ 0
      · have HTT := Lib.hid (fsum_bad L n (d + 1) k (by have := HD.out; omega) t HS2.out hb (by omega))
        have hbn : (fchk (⟨(L k).neg, (L k).num, (L k).den⟩ : Fr) != 0) = true := bne_iff_ne.2 hb
        clear hb
        go_wp2_with fail
        refine (HC.out _ HXB.out).mono ?_; rintro e w1 ⟨rfl, hx⟩
        have HX1 := Lib.hid (HXB.out.trans hx)
        clear hx e0 e1 e2
        obtain ⟨r0, r1, r2, r3, r4⟩ := HR.out
        have q0 := HX1.out.cell r0
        have q1 := HX1.out.cell r1
        have q2 := HX1.out.cell r2
        have q3 := HX1.out.cell r3
        have q4 := HX1.out.cell r4
        have f0 := (HX1.out.frozen r0).trans (HF.out 0).1
        have f1 := (HX1.out.frozen r1).trans (HF.out 1).1
        have f2 := (HX1.out.frozen r2).trans (HF.out 2).1
        have f3 := (HX1.out.frozen r3).trans (HF.out 0).2
        have f4 := (HX1.out.frozen r4).trans (HF.out 1).2
        clear r0 r1 r2 r3 r4
        go_wp2_with fail
        exact bodyPost_ret (v := .tuple #[.agg #[.bool false, .slice none 0 0, .slice none 0 0], .agg #[.int .i64 (fchk (L k)), .int .i64 k]]) (by simp [results, Try.results15, go_sem, q0, q1, q2, q3, q4]) rfl (SumP.nil HTT.out rfl (by repeat (first | (with_reducible exact HXW.out.trans HX1.out) | refine Ext.setCell ?_ (by simp; try omega) _)))
      · have HB := Lib.hid (show fchk (L k) = 0 by simpa using hb)
        have hbn : (fchk (⟨(L k).neg, (L k).num, (L k).den⟩ : Fr) != 0) = false := bne_eq_false_iff_eq.2 HB.out
        have HO2 := Lib.hid (show ∀ j, j < k + 1 → fchk (L j) = 0 from fun j hj => by
          by_cases e : j = k
          · rw [e]; exact HB.out
          · exact HO.out j (by omega))
        have HS3 := Lib.hid ((fsum_next L n k d HB.out).symm.trans HS2.out)
        clear hb
        go_wp2_with fail
        refine (HC.out _ HXB.out).mono ?_; rintro e w1 ⟨rfl, hx⟩
        have HX1 := Lib.hid (HXB.out.trans hx)
        clear hx e0 e1 e2
        go_wp2_with fail
        go_roundw
        case rel => exact ⟨k + 1, by omega, by go_num, by rw [HD.out]; exact HS3.out, HO2.out, HX1.out⟩
        case measure => simp [intOf]; omega
    · obtain rfl : k = n := by omega
      have HS2 := Lib.hid (show sumFrom L 0 0 k = t by have := HS.out; rw [Nat.sub_self] at this; exact this)
      clear HS
      have HV : Hid (VarF (wr.heap.size + 1) W.heap.size (enc 0) none 0 (some ⟨wr.heap.size, 0, none⟩) 1 ((wr.alloc (.cells #[.int .u32 1] 52)).alloc (.cells #[.bool false, .slice none 0 0, .slice (some ⟨wr.heap.size, 0, none⟩) 1 1] 27))) := by
        have hh := HX.out.size
        have hz := HZ.out
        rw [enc_zero]
        refine ⟨by simp [go_sem], by simp [go_sem], by simp [go_sem], fun o => by simp [go_sem], Own.nil _ _, ?_, (fun _ _ h => by cases h), (fun _ h => by cases h), ?_⟩
        · exact ((Own.lit wr #[.int .u32 1] [1] rfl (by simp)).lower (show W.heap.size ≤ wr.heap.size by omega)).ext ((Ext.refl _).alloc _)
        · intro a ha; cases ha; simp
      have HX2 := Lib.hid ((HX.out.alloc (.cells #[.int .u32 1] 52)).alloc (.cells #[.bool false, .slice none 0 0, .slice (some ⟨wr.heap.size, 0, none⟩) 1 1] 27))
      have HBB := Lib.hid (show W.heap.size ≤ wr.heap.size + 1 by have := HX.out.size; omega)
      have HLZ := Lib.hid not_lng_zero
      obtain ⟨B1, hB1⟩ : ∃ B1, B1 = wr.heap.size + 1 := ⟨_, rfl⟩
      have HB1 := Lib.hid hB1
      go_wp2_with fail
      rw [← hB1]
      clear hB1
      go_loopw [31] (fun s wt => ∃ (i : Nat) (q : Rat) (A : Option Addr) (c' : Nat) (D : Option Addr) (d : Nat), i ≤ k ∧ s = .int .i64 i ∧ Hid (sumFrom L q i (k - i) = t) ∧ Hid (¬ lng q = true) ∧ Hid (VarF B1 W.heap.size (enc q) A c' D d wt) ∧ Hid (Ext W wt)) (fun s _ => k - (intOf s).toNat)
      case atStart => exact ⟨0, 0, none, 0, some ⟨wr.heap.size, 0, none⟩, 1, by omega, rfl, HS2.out, HLZ.out, by rw [HB1.out]; exact HV.out, HX2.out⟩
      case round =>
        rw [← HB1.out] at HBB
        clear HX HX2 HV HB1 HS2 HLZ hkn hk
        obtain ⟨i, q, A, c', D, d, hi, rfl, HS, HL, HV, HX⟩ := hrel
        by_cases hik : i < k
        · obtain ⟨gr, o, rfl⟩ := H.out.1 i hik
          have H := Lib.hid (H.out.2 gr o rfl)
          obtain ⟨m, hm⟩ : ∃ m, k - i = m + 1 := ⟨k - i - 1, by omega⟩
          have HM := Lib.hid (show k - (i + 1) = m by omega)
          have HS2 := Lib.hid (hm ▸ HS.out)
          clear HS hm
          have HXa := Lib.hid (HXW.out.trans HX.out)
          have e0 := (H.out.ext HXa.out).neg i hik
          have e1 := (H.out.ext HXa.out).num i hik
          have e2 := (H.out.ext HXa.out).den i hik
          have v0 := fun ob => (HV.out.ext ((Ext.refl wr).alloc ob)).c0
          have v1 := fun ob => (HV.out.ext ((Ext.refl wr).alloc ob)).c1
          have v2 := fun ob => (HV.out.ext ((Ext.refl wr).alloc ob)).c2
          obtain ⟨r, hr⟩ : ∃ r, r = q + (L i).q := ⟨_, rfl⟩
          obtain ⟨tt, htt⟩ : ∃ tt, tt = tell r := ⟨_, rfl⟩
          have HP := Lib.hid (fun wx (hx : Ext wr wx) => plus_fr (enc q) (L i) A D (P (2 * i)) (P (2 * i + 1)) c' d (C (2 * i)) (C (2 * i + 1)) wx (HV.out.onum.rd.ext hx) (HV.out.oden.rd.ext hx) (((H.out.rnum i hik).ext HXa.out).ext hx) (((H.out.rden i hik).ext HXa.out).ext hx) (enc_wf q) (HW.out i hik) (fchk_enc q HL.out) (HO.out i hik) r (by rw [dec_enc, hr]))
          rw [← htt] at HP
          have HB2 := Lib.hid (World.block_lt_of_cell? wr ⟨B1, 0, none⟩ HV.out.c0)
          have HR1 := Lib.hid hr
          have HT1 := Lib.hid htt
          clear hr htt
          go_wp2_with fail
          refine (HP.out _ ?hx).mono ?_
          case hx => exact (Ext.refl wr).alloc _
          rintro e w1 ⟨A1, c1, D1, d1, rfl, o1, o2, ap, hx⟩
          have O1 := Lib.hid o1
          have O2 := Lib.hid o2
          have AP := Lib.hid ap
          have HX1 := Lib.hid (((Ext.refl wr).alloc (.cells #[.bool (L i).neg, .slice (P (2 * i)) (L i).num.length (C (2 * i)), .slice (P (2 * i + 1)) (L i).den.length (C (2 * i + 1))] 27)).trans hx)
          clear o1 o2 ap hx e0 e1 e2 v0 v1 v2
          have HV1 := Lib.hid (HV.out.ext HX1.out)
          have v0 := HV1.out.c0
          have v1 := HV1.out.c1
          have v2 := HV1.out.c2
          have fv0 := HV1.out.fr 0
          have fv1 := HV1.out.fr 1
          have fv2 := HV1.out.fr 2
          have hsz := Lib.hid (show B1 < (wr.alloc (.cells #[.bool (L i).neg, .slice (P (2 * i)) (L i).num.length (C (2 * i)), .slice (P (2 * i + 1)) (L i).den.length (C (2 * i + 1))] 27)).heap.size by have := HB2.out; simp at this ⊢; omega)
          have n1 := Lib.hid (show ∀ a, A1 = some a → a.block ≠ B1 from fun a ha e => by have h1 := O1.out; rw [ha] at h1; have h2 := h1.block.1; have h3 := hsz.out; omega)
          have n2 := Lib.hid (show ∀ a, D1 = some a → a.block ≠ B1 from fun a ha e => by have h1 := O2.out; rw [ha] at h1; have h2 := h1.block.1; have h3 := hsz.out; omega)
          have hW := Lib.hid (show W.heap.size ≤ (wr.alloc (.cells #[.bool (L i).neg, .slice (P (2 * i)) (L i).num.length (C (2 * i)), .slice (P (2 * i + 1)) (L i).den.length (C (2 * i + 1))] 27)).heap.size by have := HX.out.size; simp; omega)
          have HV2 := Lib.hid (HV1.out.store (O1.out.lower hW.out) (O2.out.lower hW.out) AP.out n1.out n2.out)
          have HX2 := Lib.hid ((((HX.out.trans HX1.out).setCell (p := ⟨B1, 0, none⟩) HBB.out (.bool tt.1.neg)).setCell (p := ⟨B1, 1, none⟩) HBB.out (.slice A1 tt.1.num.length c1)).setCell (p := ⟨B1, 2, none⟩) HBB.out (.slice D1 tt.1.den.length d1))
          obtain ⟨wn, hwn⟩ : ∃ wn, wn = (((w1.setCell ⟨B1, 0, none⟩ (.bool tt.1.neg)).setCell ⟨B1, 1, none⟩ (.slice A1 tt.1.num.length c1)).setCell ⟨B1, 2, none⟩ (.slice D1 tt.1.den.length d1)) := ⟨_, rfl⟩
          rw [← hwn] at HV2 HX2
          have HWN := Lib.hid hwn
          clear hwn
          by_cases hl : lng r = true
          · have HTT := Lib.hid (show t = (Fr.zero, 3, (i : Int)) by rw [← HS2.out]; exact sum_bad L q i m (by rw [← HR1.out]; exact hl))
            have ht2 : (tt.2 != 0) = true := by rw [HT1.out]; unfold tell; rw [if_pos hl]; rfl
            have HT2 := Lib.hid (show tt.2 = 3 by rw [HT1.out]; unfold tell; rw [if_pos hl])
            clear hl
            obtain ⟨r0, r1, r2, r3, r4⟩ := HR.out
            have q0 := HX2.out.cell r0
            have q1 := HX2.out.cell r1
            have q2 := HX2.out.cell r2
            have q3 := HX2.out.cell r3
            have q4 := HX2.out.cell r4
            have f0 := (HX2.out.frozen r0).trans (HF.out 0).1
            have f1 := (HX2.out.frozen r1).trans (HF.out 1).1
            have f2 := (HX2.out.frozen r2).trans (HF.out 2).1
            have f3 := (HX2.out.frozen r3).trans (HF.out 0).2
            have f4 := (HX2.out.frozen r4).trans (HF.out 1).2
            rw [HWN.out] at q0 q1 q2 q3 q4 f0 f1 f2 f3 f4
            rw [HWN.out] at HX2
            clear r0 r1 r2 r3 r4
            go_wp2_with fail
            exact bodyPost_ret (v := .tuple #[.agg #[.bool false, .slice none 0 0, .slice none 0 0], .agg #[.int .i64 tt.2, .int .i64 i]]) (by simp [results, Try.results15, go_sem, q0, q1, q2, q3, q4]) rfl (SumP.nil HTT.out (by rw [HT2.out]) (by repeat (first | (with_reducible exact HXW.out.trans HX2.out) | refine Ext.setCell ?_ (by simp; try omega) _)))
          · have HE := Lib.hid (show tt = (enc r, 0) by rw [HT1.out]; unfold tell; rw [if_neg hl])
            have ht2 : (tt.2 != 0) = false := by rw [HT1.out]; unfold tell; rw [if_neg hl]; rfl
            have HS3 := Lib.hid ((sum_next L q i m (by rw [← HR1.out]; exact hl)).symm.trans HS2.out)
            have HL3 := Lib.hid hl
            rw [HE.out] at HV2
            clear hl
            go_wp2_with fail
            rw [← HWN.out]
            go_roundw
            case rel => exact ⟨i + 1, r, A1, c1, D1, d1, by omega, by go_num, by rw [HM.out, HR1.out]; exact HS3.out, HL3.out, HV2.out, HX2.out⟩
            case measure => simp [intOf]; omega
        · obtain rfl : i = k := by omega
          have HTT := Lib.hid (show t = (enc q, 0, 0) by have := HS.out; rw [Nat.sub_self] at this; exact this.symm)
          have v0 := HV.out.c0
          have v1 := HV.out.c1
          have v2 := HV.out.c2
          obtain ⟨r0, r1, r2, r3, r4⟩ := HR.out
          have q0 := HX.out.cell r0
          have q1 := HX.out.cell r1
          have q2 := HX.out.cell r2
          have q3 := HX.out.cell r3
          have q4 := HX.out.cell r4
          have f0 := (HX.out.frozen r0).trans (HF.out 0).1
          have f1 := (HX.out.frozen r1).trans (HF.out 1).1
          have f2 := (HX.out.frozen r2).trans (HF.out 2).1
          have f3 := (HX.out.frozen r3).trans (HF.out 0).2
          have f4 := (HX.out.frozen r4).trans (HF.out 1).2
          clear r0 r1 r2 r3 r4
          go_wp2_with fail
          exact bodyPost_ret (v := .tuple #[.agg #[.bool (enc q).neg, .slice A (enc q).num.length c', .slice D (enc q).den.length d], .agg #[.int .i64 0, .int .i64 0]]) (by simp [results, Try.results15, go_sem, q0, q1, q2, q3, q4]) rfl (SumP.mk (xs := (enc q).num) (ys := (enc q).den) HTT.out rfl (by refine Own.lower ?_ (show w.heap.size ≤ W.heap.size by have := HZ.out; omega); repeat (first | (with_reducible exact HV.out.onum) | refine Own.setBelow ?_ (by have := HZ.out; simp; try omega) _)) (by refine Own.lower ?_ (show w.heap.size ≤ W.heap.size by have := HZ.out; omega); repeat (first | (with_reducible exact HV.out.oden) | refine Own.setBelow ?_ (by have := HZ.out; simp; try omega) _)) HV.out.ap (by repeat (first | (with_reducible exact HXW.out.trans HX.out) | refine Ext.setCell ?_ (by simp; try omega) _)))

end Go.Proofs.Ytnhgagfkepmanaa
