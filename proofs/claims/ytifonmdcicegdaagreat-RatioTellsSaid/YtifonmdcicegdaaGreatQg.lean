/- Texts of this claim, joined: T2 R9 R10 R11 R12 R13 R14. -/
import Derived.Test.YtifonmdcicegdaaGreatQf
/- The law RatioTells: what holds behind each call. -/
namespace Go.Proofs.YtifonmdcicegdaaGreat
open Go Go.RowKit

structure St (w0 : World) (h gp gq gx : Nat) (a b : Fr) (A B C D : Option Addr) (c1 c2 c3 c4 : Nat) (A' B' C' D' : Option Addr) (d1 d2 d3 d4 : Nat) (v : Value) (k : Nat) (F : Nat → Fr) (X : Nat → List Int) (w : World) : Prop where
  ext : Ext w0 w
  ca : Six w h (.bool a.neg) (.slice A a.num.length c1) (.slice B a.den.length c2) (.bool b.neg) (.slice C b.num.length c3) (.slice D b.den.length c4)
  cp : Thr w gp (.bool a.neg) (.slice A' a.num.length d1) (.slice B' a.den.length d2)
  cq : Thr w gq (.bool b.neg) (.slice C' b.num.length d3) (.slice D' b.den.length d4)
  x : Var gx [v, .bool true] w
  oA : Own w w0.heap.size A' d1 (a.num ++ marks)
  oB : Own w w0.heap.size B' d2 (a.den ++ marks)
  oC : Own w w0.heap.size C' d3 (b.num ++ marks)
  oD : Own w w0.heap.size D' d4 (b.den ++ marks)
  rows : ∃ P C, Rows2 w (gx + 1) v k P C F X
/-- what never turns -/
structure Lts (w0 : World) (h gp gq gx : Nat) (A' B' C' D' : Option Addr) : Prop where
  h : h + 1 < gx
  p : gp < gx
  q : gq < gx
  w : w0.heap.size ≤ gx
  A : ∀ a, A' = some a → a.block < gx
  B : ∀ a, B' = some a → a.block < gx
  C : ∀ a, C' = some a → a.block < gx
  D : ∀ a, D' = some a → a.block < gx

section
variable {w0 : World} {h gp gq gx : Nat} {a b : Fr} {A B C D : Option Addr} {c1 c2 c3 c4 : Nat} {A' B' C' D' : Option Addr} {d1 d2 d3 d4 : Nat} {v : Value} {k : Nat} {F : Nat → Fr} {X : Nat → List Int} {w : World}

theorem St.lay {w' : World} (S : St w0 h gp gq gx a b A B C D c1 c2 c3 c4 A' B' C' D' d1 d2 d3 d4 v k F X w) (e : Ext w w') : St w0 h gp gq gx a b A B C D c1 c2 c3 c4 A' B' C' D' d1 d2 d3 d4 v k F X w' :=
  ⟨S.ext.trans e, six_ext e S.ca, thr_ext e S.cp, thr_ext e S.cq, S.x.ext e, S.oA.ext e, S.oB.ext e, S.oC.ext e, S.oD.ext e, let ⟨P, Q, hr⟩ := S.rows; ⟨P, Q, hr.ext e⟩⟩
theorem six_grown {w w' : World} {row : Option Nat} {h : Nat} {a b c d e f : Value} (hg : w.grownBy w' row) (H : Six w h a b c d e f) (h1 : some h ≠ row) (h2 : some (h + 1) ≠ row) : Six w' h a b c d e f :=
  ⟨cell_keep hg H.1 h1, cell_keep hg H.2.1 h1, cell_keep hg H.2.2.1 h1, cell_keep hg H.2.2.2.1 h2, cell_keep hg H.2.2.2.2.1 h2, cell_keep hg H.2.2.2.2.2 h2⟩
theorem thr_grown {w w' : World} {row : Option Nat} {g : Nat} {a b c : Value} (hg : w.grownBy w' row) (H : Thr w g a b c) (h1 : some g ≠ row) : Thr w' g a b c :=
  ⟨cell_keep hg H.1 h1, cell_keep hg H.2.1 h1, cell_keep hg H.2.2 h1⟩
theorem Own.grown_row {w w' : World} {base base' n c : Nat} {A : Option Addr} {xs : List Int} {v : Value} {vs : List Value} (h : Own w base A c xs) (hg : w.grownBy w' v.ownBlock) (hv : w.ownsRow base' 24 3 v n vs) : Own w' base A c xs :=
  h.kept hg (fun a ha e => by
    subst ha
    exact row_ne h hv e.symm)

/-- one fraction more is told, and kept in x -/
theorem St.told {w' : World} {v' : Value} {P : Nat → Option Addr} {Q : Nat → Nat} {n : Nat} (S : St w0 h gp gq gx a b A B C D c1 c2 c3 c4 A' B' C' D' d1 d2 d3 d4 v k F X w) (L : Lts w0 h gp gq gx A' B' C' D') (hr : Rows2 w' (gx + 1) v' n P Q F X) (hg : w.grownBy w' v.ownBlock) :
    St w0 h gp gq gx a b A B C D c1 c2 c3 c4 A' B' C' D' d1 d2 d3 d4 v' n F X ((w'.setCell ⟨gx, 0, none⟩ v').setCell ⟨gx, 1, none⟩ (.bool true)) := by
  obtain ⟨P0, Q0, hr0⟩ := S.rows
  have hge := hr0.ge
  have ne : ∀ b, b ≤ gx → some b ≠ v.ownBlock := fun b hb e => by have := hge b e.symm; omega
  obtain ⟨vs, hv1, _⟩ := hr0.row
  have lh := L.h
  have lp := L.p
  have lq := L.q
  have lw := L.w
  have keepO : ∀ {Z : Option Addr} {d : Nat} {xs : List Int}, Own w w0.heap.size Z d xs → (∀ a, Z = some a → a.block < gx) → Own ((w'.setCell ⟨gx, 0, none⟩ v').setCell ⟨gx, 1, none⟩ (.bool true)) w0.heap.size Z d xs := fun {Z d xs} hO hl =>
    own_set (own_set (Own.grown_row hO hg hv1) (fun a e => by have := hl a e; simp only; omega)) (fun a e => by have := hl a e; simp only; omega)
  refine ⟨?_, ?_, ?_, ?_, ?_, keepO S.oA L.A, keepO S.oB L.B, keepO S.oC L.C, keepO S.oD L.D, P, Q, ?_⟩
  · exact ((S.ext.grown hg (fun k hk => by have := hge k hk; omega)).setCell lw _).setCell lw _
  · exact six_set (six_set (six_grown hg S.ca (ne _ (by omega)) (ne _ (by omega))) (by simp only; omega) (by simp only; omega)) (by simp only; omega) (by simp only; omega)
  · exact thr_set (thr_set (thr_grown hg S.cp (ne _ (by omega))) (by simp only; omega)) (by simp only; omega)
  · exact thr_set (thr_set (thr_grown hg S.cq (ne _ (by omega))) (by simp only; omega)) (by simp only; omega)
  · exact ((S.x.grown hg (ne _ (Nat.le_refl _))).set 0 v' (by simp)).set 1 (.bool true) (by simp)
  · have hge' := hr.ge
    have hP : ∀ j, j < 2 * n → ∀ a, P j = some a → gx + 1 ≤ a.block := fun j hj a e => by have h1 := hr.own j hj; rw [e] at h1; exact h1.block.1
    exact (hr.setNe (fun e => by have := hge' _ e; simp only at this; omega) (fun j hj a e => by have := hP j hj a e; simp only; omega)).setNe (fun e => by have := hge' _ e; simp only at this; omega) (fun j hj a e => by have := hP j hj a e; simp only; omega)
/-- .. where x.all alone is stored -/
theorem St.told0 {w' : World} {v' : Value} {P : Nat → Option Addr} {Q : Nat → Nat} {n : Nat} (S : St w0 h gp gq gx a b A B C D c1 c2 c3 c4 A' B' C' D' d1 d2 d3 d4 v k F X w) (L : Lts w0 h gp gq gx A' B' C' D') (hr : Rows2 w' (gx + 1) v' n P Q F X) (hg : w.grownBy w' v.ownBlock) :
    St w0 h gp gq gx a b A B C D c1 c2 c3 c4 A' B' C' D' d1 d2 d3 d4 v' n F X (w'.setCell ⟨gx, 0, none⟩ v') := by
  obtain ⟨P0, Q0, hr0⟩ := S.rows
  have hge := hr0.ge
  have ne : ∀ b, b ≤ gx → some b ≠ v.ownBlock := fun b hb e => by have := hge b e.symm; omega
  obtain ⟨vs, hv1, _⟩ := hr0.row
  have lh := L.h
  have lp := L.p
  have lq := L.q
  have lw := L.w
  have keepO : ∀ {Z : Option Addr} {d : Nat} {xs : List Int}, Own w w0.heap.size Z d xs → (∀ a, Z = some a → a.block < gx) → Own (w'.setCell ⟨gx, 0, none⟩ v') w0.heap.size Z d xs := fun {Z d xs} hO hl =>
    own_set (Own.grown_row hO hg hv1) (fun a e => by have := hl a e; simp only; omega)
  refine ⟨?_, ?_, ?_, ?_, ?_, keepO S.oA L.A, keepO S.oB L.B, keepO S.oC L.C, keepO S.oD L.D, P, Q, ?_⟩
  · exact (S.ext.grown hg (fun k hk => by have := hge k hk; omega)).setCell lw _
  · exact six_set (six_grown hg S.ca (ne _ (by omega)) (ne _ (by omega))) (by simp only; omega) (by simp only; omega)
  · exact thr_set (thr_grown hg S.cp (ne _ (by omega))) (by simp only; omega)
  · exact thr_set (thr_grown hg S.cq (ne _ (by omega))) (by simp only; omega)
  · exact (S.x.grown hg (ne _ (Nat.le_refl _))).set 0 v' (by simp)
  · have hge' := hr.ge
    have hP : ∀ j, j < 2 * n → ∀ a, P j = some a → gx + 1 ≤ a.block := fun j hj a e => by have h1 := hr.own j hj; rw [e] at h1; exact h1.block.1
    exact hr.setNe (fun e => by have := hge' _ e; simp only at this; omega) (fun j hj a e => by have := hP j hj a e; simp only; omega)
/-- the cells of both pairs -/
theorem St.twelve (S : St w0 h gp gq gx a b A B C D c1 c2 c3 c4 A' B' C' D' d1 d2 d3 d4 v k F X w) : w.cell? ⟨gp, 0, none⟩ = some (.bool a.neg) ∧ w.cell? ⟨gp, 1, none⟩ = some (.slice A' a.num.length d1) ∧ w.cell? ⟨gp, 2, none⟩ = some (.slice B' a.den.length d2) ∧ w.cell? ⟨gq, 0, none⟩ = some (.bool b.neg) ∧ w.cell? ⟨gq, 1, none⟩ = some (.slice C' b.num.length d3) ∧ w.cell? ⟨gq, 2, none⟩ = some (.slice D' b.den.length d4) ∧ w.cell? ⟨h, 0, none⟩ = some (.bool a.neg) ∧ w.cell? ⟨h, 1, none⟩ = some (.slice A a.num.length c1) ∧ w.cell? ⟨h, 2, none⟩ = some (.slice B a.den.length c2) ∧ w.cell? ⟨h + 1, 0, none⟩ = some (.bool b.neg) ∧ w.cell? ⟨h + 1, 1, none⟩ = some (.slice C b.num.length c3) ∧ w.cell? ⟨h + 1, 2, none⟩ = some (.slice D b.den.length c4) :=
  ⟨S.cp.1, S.cp.2.1, S.cp.2.2, S.cq.1, S.cq.2.1, S.cq.2.2, S.ca.1, S.ca.2.1, S.ca.2.2.1, S.ca.2.2.2.1, S.ca.2.2.2.2.1, S.ca.2.2.2.2.2⟩
/-- x's block behind hear -/
theorem St.var {w' : World} (S : St w0 h gp gq gx a b A B C D c1 c2 c3 c4 A' B' C' D' d1 d2 d3 d4 v k F X w) (hg : w.grownBy w' v.ownBlock) : Var gx [v, .bool true] w' := by
  obtain ⟨P0, Q0, hr0⟩ := S.rows
  exact S.x.grown hg (fun e => by have := hr0.ge gx e.symm; omega)
/-- the call of hear -/
theorem St.hears {V : Option Addr} {cv : Nat} {t : Fr} {er : Int} {A1 B1 A2 B2 : Option Addr} {e1 e2 e3 e4 : Nat} {w1 w3 : World} (S : St w0 h gp gq gx a b A B C D c1 c2 c3 c4 A' B' C' D' d1 d2 d3 d4 (.slice V k cv) k F X w)
    (o1 : Own w1 w.heap.size A1 e1 t.num) (o2 : Own w1 w.heap.size B1 e2 t.den) (ap : ∀ a b, A1 = some a → B1 = some b → a.block ≠ b.block) (x1 : Ext w w1) (x3 : Ext w1 w3) (r1 : Rd w3 A2 e3 t.num) (r2 : Rd w3 B2 e4 t.den) (hF : F k = t) (hX1 : X (2 * k) = t.num) (hX2 : X (2 * k + 1) = t.den) (hk : k ≤ 1000000) :
    Calls Tryz.prog 16 #[.agg #[.slice V k cv, .bool true], .agg #[.bool t.neg, .slice A1 t.num.length e1, .slice B1 t.den.length e2], .int .i64 er, .agg #[.bool t.neg, .slice A2 t.num.length e3, .slice B2 t.den.length e4], .int .i64 er] w3 (HearP w3 (gx + 1) (.slice V k cv) k F X) := by
  obtain ⟨P0, Q0, hr0⟩ := S.rows
  have hgx : gx + 1 ≤ w.heap.size := S.x.lt
  have hP : ∀ j, j < 2 * k → ∀ a, P0 j = some a → a.block < w.heap.size := fun j hj a e => by have h1 := hr0.own j hj; rw [e] at h1; exact h1.block.2
  have z1 := x1.size
  have z3 := x3.size
  refine hear_any V cv (gx + 1) k P0 Q0 F X t.neg t.num t.den er A1 B1 A2 B2 e1 e2 e3 e4 w3 (hr0.ext (x1.trans x3)) hF hX1 hX2 (by omega) ((o1.ext x3).lower hgx) ((o2.ext x3).lower hgx) ap ?_ ?_ r1 r2 hk
  · intro j hj a b ha hb e
    have h1 := hP j hj a ha
    rw [hb] at o1
    have h2 := o1.block.1
    omega
  · intro j hj a b ha hb e
    have h1 := hP j hj a ha
    rw [hb] at o2
    have h2 := o2.block.1
    omega
end

end Go.Proofs.YtifonmdcicegdaaGreat

/- ratio.Mul. -/
namespace Go.Proofs.YtifonmdcicegdaaGreat
open Go Go.RowKit

set_option maxRecDepth 4000 in
set_option maxHeartbeats 2000000 in
theorem mul_fr (a b : Fr) (A B C D : Option Addr) (c1 c2 c3 c4 : Nat) (w : World) (ha : Rd w A c1 a.num) (hb : Rd w B c2 a.den) (hc : Rd w C c3 b.num) (hd : Rd w D c4 b.den) (wa : a.Wf) (wb : b.Wf) :
    Calls Tryz.prog 19 #[.agg #[.bool a.neg, .slice A a.num.length c1, .slice B a.den.length c2], .agg #[.bool b.neg, .slice C b.num.length c3, .slice D b.den.length c4]] w (RatP w (fmul a b)) := by
  have HA := Lib.hid ha
  have HB := Lib.hid hb
  have HC := Lib.hid hc
  have HD := Lib.hid hd
  clear ha hb hc hd
  by_cases hk : fchk2 a b ≠ 0
  · have HT := Lib.hid (show fmul a b = (Fr.zero, fchk2 a b) from both_bad hk)
    have hb1 : (fchk2 a b != 0) = true := bne_iff_ne.2 hk
    clear hk
    go_enter Tryz.func19, Tryz.ntmps19
    go_wp2_with fail
    obtain ⟨W, hW⟩ : ∃ W, W = ((w.alloc (.cells #[.bool a.neg, .slice A a.num.length c1, .slice B a.den.length c2] 24)).alloc (.cells #[.bool b.neg, .slice C b.num.length c3, .slice D b.den.length c4] 24)).alloc (.cells #[.bool false, .slice none 0 0, .slice none 0 0] 24) := ⟨_, rfl⟩
    have F0 : Six W w.heap.size (.bool a.neg) (.slice A a.num.length c1) (.slice B a.den.length c2) (.bool b.neg) (.slice C b.num.length c3) (.slice D b.den.length c4) := by rw [hW]; refine ⟨?_, ?_, ?_, ?_, ?_, ?_⟩ <;> simp [go_sem]
    have HX : Hid (Ext w W) := by rw [hW]; exact (((Ext.refl w).alloc _).alloc _).alloc _
    have HV : Hid (VarF (w.heap.size + 2) W.heap.size Fr.zero none 0 none 0 W) := by
      have h1 := VarF.zero ((w.alloc (.cells #[.bool a.neg, .slice A a.num.length c1, .slice B a.den.length c2] 24)).alloc (.cells #[.bool b.neg, .slice C b.num.length c3, .slice D b.den.length c4] 24)) W.heap.size
      rw [← hW] at h1
      unfold Hid
      simpa using h1
    have HZ := Lib.hid (show W.heap.size = w.heap.size + 3 by rw [hW]; simp)
    try rw [← hW]
    clear hW
    refine (checks_any a b A B C D c1 c2 c3 c4 W (HA.out.ext HX.out) (HB.out.ext HX.out) (HC.out.ext HX.out) (HD.out.ext HX.out) wa wb).mono ?_; rintro e w1 ⟨rfl, hx1⟩
    have F1 := six_ext hx1 F0
    have HX1 := Lib.hid (HX.out.trans hx1)
    have HV1 := Lib.hid (HV.out.ext hx1)
    have HZ1 := Lib.hid (show w.heap.size + 3 ≤ w1.heap.size by have := hx1.size; have := HZ.out; omega)
    clear hx1 F0 HX HV
    have r0 := HV1.out.c0
    have s0 := HV1.out.fr 0
    have r1 := HV1.out.c1
    have s1 := HV1.out.fr 1
    have r2 := HV1.out.c2
    have s2 := HV1.out.fr 2
    clear F1
    go_wp2_with fail
    exact bodyPost_ret (v := .tuple #[.agg #[.bool false, .slice none 0 0, .slice none 0 0], .int .i64 (fchk2 a b)]) (by simp [results, Tryz.results19, go_sem, r0, r1, r2]) rfl (RatP.nil HT.out rfl (by repeat (first | (with_reducible exact HX1.out) | refine Ext.setCell ?_ (by simp; try omega) _)))
  have h0 : fchk2 a b = 0 := by simpa using hk
  have hb1 : (fchk2 a b != 0) = false := bne_eq_false_iff_eq.2 h0
  obtain ⟨p, q, ep, eq, lp, lq⟩ := fchk2_ok wa wb h0
  have LP := not_lng lp
  have LQ := not_lng lq
  have E1 : a.num = wd p.num.natAbs := by rw [ep]; rfl
  have E2 : a.den = wd p.den := by rw [ep]; rfl
  have E3 : b.num = wd q.num.natAbs := by rw [eq]; rfl
  have E4 : b.den = wd q.den := by rw [eq]; rfl
  have E5 : a.neg = decide (p.num < 0) := by rw [ep]; rfl
  have E6 : b.neg = decide (q.num < 0) := by rw [eq]; rfl
  obtain ⟨t, ht⟩ : ∃ t, t = tell (p * q) := ⟨_, rfl⟩
  have HT := Lib.hid (show fmul a b = t by unfold fmul; rw [both_good h0, ht, ep, eq, dec_enc, dec_enc])
  have lX := wd_len_mul p.num.natAbs q.num.natAbs
  have lY := wd_len_mul p.den q.den
  have hY0 : p.den * q.den ≠ 0 := Nat.mul_ne_zero p.den_nz q.den_nz
  have HM := Lib.hid (show mkRat (sg (!(a.neg == b.neg)) (p.num.natAbs * q.num.natAbs)) (p.den * q.den) = p * q by rw [E5, E6]; exact mul_made p q)
  obtain ⟨X, hX⟩ : ∃ X, X = p.num.natAbs * q.num.natAbs := ⟨_, rfl⟩
  obtain ⟨Y, hY⟩ : ∃ Y, Y = p.den * q.den := ⟨_, rfl⟩
  have HT1 := Lib.hid (fun wx (hx : Ext w wx) => by
    have h1 := times_any A C p.num.natAbs q.num.natAbs c1 c3 wx (E1 ▸ HA.out.ext hx) (E3 ▸ HC.out.ext hx) (by omega)
    rw [← E1, ← E3, ← hX] at h1
    exact h1)
  have HT2 := Lib.hid (fun wx (hx : Ext w wx) => by
    have h1 := times_any B D p.den q.den c2 c4 wx (E2 ▸ HB.out.ext hx) (E4 ▸ HD.out.ext hx) (by omega)
    rw [← E2, ← E4, ← hY] at h1
    exact h1)
  rw [← hX] at lX HM
  rw [← hY] at lY hY0 HM
  have HL := Lib.hid (fun (wx : World) (v : Bool) (P Q : Option Addr) (c d : Nat) (h1 : Rd wx P c (wd X)) (h2 : Rd wx Q d (wd Y)) (hv : v = (!(a.neg == b.neg))) => show Calls Tryz.prog 141 #[.bool v, .slice P (wd X).length c, .slice Q (wd Y).length d] wx (RatP wx t) by
    subst hv
    have := lowest_any (!(a.neg == b.neg)) P Q X Y c d wx h1 h2 hY0 (by omega) (by omega)
    rw [HM.out, ← ht] at this
    exact this)
  clear hX hY ht hk h0 ep eq E1 E2 E3 E4 E5 E6
  go_enter Tryz.func19, Tryz.ntmps19
  go_wp2_with fail
  obtain ⟨W, hW⟩ : ∃ W, W = ((w.alloc (.cells #[.bool a.neg, .slice A a.num.length c1, .slice B a.den.length c2] 24)).alloc (.cells #[.bool b.neg, .slice C b.num.length c3, .slice D b.den.length c4] 24)).alloc (.cells #[.bool false, .slice none 0 0, .slice none 0 0] 24) := ⟨_, rfl⟩
  have F0 : Six W w.heap.size (.bool a.neg) (.slice A a.num.length c1) (.slice B a.den.length c2) (.bool b.neg) (.slice C b.num.length c3) (.slice D b.den.length c4) := by rw [hW]; refine ⟨?_, ?_, ?_, ?_, ?_, ?_⟩ <;> simp [go_sem]
  have HX : Hid (Ext w W) := by rw [hW]; exact (((Ext.refl w).alloc _).alloc _).alloc _
  have HV : Hid (VarF (w.heap.size + 2) W.heap.size Fr.zero none 0 none 0 W) := by
    have h1 := VarF.zero ((w.alloc (.cells #[.bool a.neg, .slice A a.num.length c1, .slice B a.den.length c2] 24)).alloc (.cells #[.bool b.neg, .slice C b.num.length c3, .slice D b.den.length c4] 24)) W.heap.size
    rw [← hW] at h1
    unfold Hid
    simpa using h1
  have HZ := Lib.hid (show W.heap.size = w.heap.size + 3 by rw [hW]; simp)
  try rw [← hW]
  clear hW
  refine (checks_any a b A B C D c1 c2 c3 c4 W (HA.out.ext HX.out) (HB.out.ext HX.out) (HC.out.ext HX.out) (HD.out.ext HX.out) wa wb).mono ?_; rintro e w1 ⟨rfl, hx1⟩
  have F1 := six_ext hx1 F0
  have HX1 := Lib.hid (HX.out.trans hx1)
  have HV1 := Lib.hid (HV.out.ext hx1)
  have HZ1 := Lib.hid (show w.heap.size + 3 ≤ w1.heap.size by have := hx1.size; have := HZ.out; omega)
  clear hx1 F0 HX HV
  obtain ⟨u0, u1, u2, v0, v1, v2⟩ := id F1
  go_wp2_with fail
  have hzz := HZ1.out
  go_region_held3 (fun w' => w'.cell? ⟨w.heap.size, 0, none⟩ = some (.bool a.neg) ∧ w'.cell? ⟨w.heap.size, 1, none⟩ = some (.slice A a.num.length c1) ∧ w'.cell? ⟨w.heap.size, 2, none⟩ = some (.slice B a.den.length c2) ∧ w'.cell? ⟨w.heap.size + 1, 0, none⟩ = some (.bool b.neg) ∧ w'.cell? ⟨w.heap.size + 1, 1, none⟩ = some (.slice C b.num.length c3) ∧ w'.cell? ⟨w.heap.size + 1, 2, none⟩ = some (.slice D b.den.length c4)) (repeat (first | (with_reducible exact F1) | (with_reducible exact F2) | (with_reducible exact F3) | (with_reducible exact F4) | (with_reducible refine six_drew ?_) | (with_reducible refine six_set ?_ (by simp only; omega) (by simp only; omega))))
    (first
      | (go_at_call 142; ((with_reducible refine (HT1.out _ HX1.out.drew).mono ?_)); rintro e w2 ⟨A5, c5, rfl, p1, hx2⟩; have P1 := Lib.hid p1; have HX2 := Lib.hid hx2; have F2 := six_ext hx2 (six_drew F1); clear p1 hx2)
      | (go_at_call 142; ((with_reducible refine (HT2.out _ (HX1.out.drew.trans HX2.out)).mono ?_)); rintro e w3 ⟨A6, c6, rfl, p1, hx3⟩; have P2 := Lib.hid p1; have HX3 := Lib.hid hx3; have F3 := six_ext hx3 F2; clear p1 hx3)
      | (go_at_call 141; ((with_reducible refine (HL.out _ _ A5 A6 c5 c6 (P1.out.rd.ext HX3.out) P2.out.rd rfl).mono ?_)); rintro e w9 ⟨A9, c9, B9, d9, rfl, o1, o2, ap, hx⟩; have HX13 := (HX2.out.trans HX3.out).size; (try simp only [World.size_drew] at HX13); have O1 := Lib.hid (o1.lower (show w.heap.size + 3 ≤ w3.heap.size by omega)); have O2 := Lib.hid (o2.lower (show w.heap.size + 3 ≤ w3.heap.size by omega)); have AP := Lib.hid ap; have HX9 := Lib.hid (((HX1.out.drew.trans HX2.out).trans HX3.out).trans hx); have F4 := six_ext hx F3; have HV9 := HV1.out.ext ((((Ext.refl _).drew.trans HX2.out).trans HX3.out).trans hx); have r0 := HV9.c0; have s0 := HV9.fr 0; have r1 := HV9.c1; have s1 := HV9.fr 1; have r2 := HV9.c2; have s2 := HV9.fr 2; clear o1 o2 ap hx HV9 HX13))
  all_goals
    go_wp2_with fail
    exact bodyPost_ret (v := .tuple #[.agg #[.bool t.1.neg, .slice A9 t.1.num.length c9, .slice B9 t.1.den.length d9], .int .i64 t.2]) (by simp [results, Tryz.results19, go_sem, r0, r1, r2]) rfl (RatP.mk HT.out rfl (by refine Own.lower ?_ (show w.heap.size ≤ w.heap.size + 3 by omega); repeat (first | (with_reducible exact O1.out) | refine Own.setBelow ?_ (by simp; try omega) _)) (by refine Own.lower ?_ (show w.heap.size ≤ w.heap.size + 3 by omega); repeat (first | (with_reducible exact O2.out) | refine Own.setBelow ?_ (by simp; try omega) _)) AP.out (by repeat (first | (with_reducible exact HX9.out) | refine Ext.setCell ?_ (by simp; try omega) _)))

end Go.Proofs.YtifonmdcicegdaaGreat

/- ratio.Quo. -/
namespace Go.Proofs.YtifonmdcicegdaaGreat
open Go Go.RowKit

set_option maxRecDepth 4000 in
set_option maxHeartbeats 2000000 in
theorem quo_fr (a b : Fr) (A B C D : Option Addr) (c1 c2 c3 c4 : Nat) (w : World) (ha : Rd w A c1 a.num) (hb : Rd w B c2 a.den) (hc : Rd w C c3 b.num) (hd : Rd w D c4 b.den) (wa : a.Wf) (wb : b.Wf) :
    Calls Tryz.prog 21 #[.agg #[.bool a.neg, .slice A a.num.length c1, .slice B a.den.length c2], .agg #[.bool b.neg, .slice C b.num.length c3, .slice D b.den.length c4]] w (RatP w (fquo a b)) := by
  have HA := Lib.hid ha
  have HB := Lib.hid hb
  have HC := Lib.hid hc
  have HD := Lib.hid hd
  clear ha hb hc hd
  by_cases hk : fchk2 a b ≠ 0
  · have HT := Lib.hid (show fquo a b = (Fr.zero, fchk2 a b) from both_bad hk)
    have hb1 : (fchk2 a b != 0) = true := bne_iff_ne.2 hk
    clear hk
    go_enter Tryz.func21, Tryz.ntmps21
    go_wp2_with fail
    obtain ⟨W, hW⟩ : ∃ W, W = ((w.alloc (.cells #[.bool a.neg, .slice A a.num.length c1, .slice B a.den.length c2] 24)).alloc (.cells #[.bool b.neg, .slice C b.num.length c3, .slice D b.den.length c4] 24)).alloc (.cells #[.bool false, .slice none 0 0, .slice none 0 0] 24) := ⟨_, rfl⟩
    have F0 : Six W w.heap.size (.bool a.neg) (.slice A a.num.length c1) (.slice B a.den.length c2) (.bool b.neg) (.slice C b.num.length c3) (.slice D b.den.length c4) := by rw [hW]; refine ⟨?_, ?_, ?_, ?_, ?_, ?_⟩ <;> simp [go_sem]
    have HX : Hid (Ext w W) := by rw [hW]; exact (((Ext.refl w).alloc _).alloc _).alloc _
    have HV : Hid (VarF (w.heap.size + 2) W.heap.size Fr.zero none 0 none 0 W) := by
      have h1 := VarF.zero ((w.alloc (.cells #[.bool a.neg, .slice A a.num.length c1, .slice B a.den.length c2] 24)).alloc (.cells #[.bool b.neg, .slice C b.num.length c3, .slice D b.den.length c4] 24)) W.heap.size
      rw [← hW] at h1
      unfold Hid
      simpa using h1
    have HZ := Lib.hid (show W.heap.size = w.heap.size + 3 by rw [hW]; simp)
    try rw [← hW]
    clear hW
    refine (checks_any a b A B C D c1 c2 c3 c4 W (HA.out.ext HX.out) (HB.out.ext HX.out) (HC.out.ext HX.out) (HD.out.ext HX.out) wa wb).mono ?_; rintro e w1 ⟨rfl, hx1⟩
    have F1 := six_ext hx1 F0
    have HX1 := Lib.hid (HX.out.trans hx1)
    have HV1 := Lib.hid (HV.out.ext hx1)
    have HZ1 := Lib.hid (show w.heap.size + 3 ≤ w1.heap.size by have := hx1.size; have := HZ.out; omega)
    clear hx1 F0 HX HV
    have r0 := HV1.out.c0
    have s0 := HV1.out.fr 0
    have r1 := HV1.out.c1
    have s1 := HV1.out.fr 1
    have r2 := HV1.out.c2
    have s2 := HV1.out.fr 2
    clear F1
    go_wp2_with fail
    exact bodyPost_ret (v := .tuple #[.agg #[.bool false, .slice none 0 0, .slice none 0 0], .int .i64 (fchk2 a b)]) (by simp [results, Tryz.results21, go_sem, r0, r1, r2]) rfl (RatP.nil HT.out rfl (by repeat (first | (with_reducible exact HX1.out) | refine Ext.setCell ?_ (by simp; try omega) _)))
  have h0 : fchk2 a b = 0 := by simpa using hk
  have hb1 : (fchk2 a b != 0) = false := bne_eq_false_iff_eq.2 h0
  obtain ⟨p, q, ep, eq, lp, lq⟩ := fchk2_ok wa wb h0
  have LP := not_lng lp
  have LQ := not_lng lq
  have E1 : a.num = wd p.num.natAbs := by rw [ep]; rfl
  have E2 : a.den = wd p.den := by rw [ep]; rfl
  have E3 : b.num = wd q.num.natAbs := by rw [eq]; rfl
  have E4 : b.den = wd q.den := by rw [eq]; rfl
  have E5 : a.neg = decide (p.num < 0) := by rw [ep]; rfl
  have E6 : b.neg = decide (q.num < 0) := by rw [eq]; rfl
  by_cases hq : q = 0
  · have HT := Lib.hid (show fquo a b = (Fr.zero, 7) by unfold fquo; rw [both_good h0, if_pos (by rw [eq, dec_enc]; exact hq)])
    have hlen : ((b.num.length : Int) == 0) = true := by rw [E3, hq, show (0 : Rat).num.natAbs = 0 from rfl, wd_zero]; rfl
    clear hk h0 ep eq E1 E2 E3 E4 E5 E6 hq
    go_enter Tryz.func21, Tryz.ntmps21
    go_wp2_with fail
    obtain ⟨W, hW⟩ : ∃ W, W = ((w.alloc (.cells #[.bool a.neg, .slice A a.num.length c1, .slice B a.den.length c2] 24)).alloc (.cells #[.bool b.neg, .slice C b.num.length c3, .slice D b.den.length c4] 24)).alloc (.cells #[.bool false, .slice none 0 0, .slice none 0 0] 24) := ⟨_, rfl⟩
    have F0 : Six W w.heap.size (.bool a.neg) (.slice A a.num.length c1) (.slice B a.den.length c2) (.bool b.neg) (.slice C b.num.length c3) (.slice D b.den.length c4) := by rw [hW]; refine ⟨?_, ?_, ?_, ?_, ?_, ?_⟩ <;> simp [go_sem]
    have HX : Hid (Ext w W) := by rw [hW]; exact (((Ext.refl w).alloc _).alloc _).alloc _
    have HV : Hid (VarF (w.heap.size + 2) W.heap.size Fr.zero none 0 none 0 W) := by
      have h1 := VarF.zero ((w.alloc (.cells #[.bool a.neg, .slice A a.num.length c1, .slice B a.den.length c2] 24)).alloc (.cells #[.bool b.neg, .slice C b.num.length c3, .slice D b.den.length c4] 24)) W.heap.size
      rw [← hW] at h1
      unfold Hid
      simpa using h1
    have HZ := Lib.hid (show W.heap.size = w.heap.size + 3 by rw [hW]; simp)
    try rw [← hW]
    clear hW
    refine (checks_any a b A B C D c1 c2 c3 c4 W (HA.out.ext HX.out) (HB.out.ext HX.out) (HC.out.ext HX.out) (HD.out.ext HX.out) wa wb).mono ?_; rintro e w1 ⟨rfl, hx1⟩
    have F1 := six_ext hx1 F0
    have HX1 := Lib.hid (HX.out.trans hx1)
    have HV1 := Lib.hid (HV.out.ext hx1)
    have HZ1 := Lib.hid (show w.heap.size + 3 ≤ w1.heap.size by have := hx1.size; have := HZ.out; omega)
    clear hx1 F0 HX HV
    have r0 := HV1.out.c0
    have s0 := HV1.out.fr 0
    have r1 := HV1.out.c1
    have s1 := HV1.out.fr 1
    have r2 := HV1.out.c2
    have s2 := HV1.out.fr 2
    obtain ⟨u0, u1, u2, v0, v1, v2⟩ := F1
    go_wp2_with fail
    exact bodyPost_ret (v := .tuple #[.agg #[.bool false, .slice none 0 0, .slice none 0 0], .int .i64 7]) (by simp [results, Tryz.results21, go_sem, r0, r1, r2]) rfl (RatP.nil HT.out rfl (by repeat (first | (with_reducible exact HX1.out) | refine Ext.setCell ?_ (by simp; try omega) _)))
  have hqn : q.num.natAbs ≠ 0 := fun e => hq (Rat.num_eq_zero.1 (by omega))
  have hlen : ((b.num.length : Int) == 0) = false := beq_eq_false_iff_ne.2 (fun e => hqn (wd_len_zero.1 (by rw [← E3]; omega)))
  obtain ⟨t, ht⟩ : ∃ t, t = tell (p / q) := ⟨_, rfl⟩
  have HT := Lib.hid (show fquo a b = t by unfold fquo; rw [both_good h0, if_neg (by rw [eq, dec_enc]; exact hq), ht, ep, eq, dec_enc, dec_enc])
  have lX := wd_len_mul p.num.natAbs q.den
  have lY := wd_len_mul p.den q.num.natAbs
  have hY0 : p.den * q.num.natAbs ≠ 0 := Nat.mul_ne_zero p.den_nz hqn
  have HM := Lib.hid (show mkRat (sg (!(a.neg == b.neg)) (p.num.natAbs * q.den)) (p.den * q.num.natAbs) = p / q by rw [E5, E6]; exact quo_made p q hq)
  obtain ⟨X, hX⟩ : ∃ X, X = p.num.natAbs * q.den := ⟨_, rfl⟩
  obtain ⟨Y, hY⟩ : ∃ Y, Y = p.den * q.num.natAbs := ⟨_, rfl⟩
  have HT1 := Lib.hid (fun wx (hx : Ext w wx) => by
    have h1 := times_any A D p.num.natAbs q.den c1 c4 wx (E1 ▸ HA.out.ext hx) (E4 ▸ HD.out.ext hx) (by omega)
    rw [← E1, ← E4, ← hX] at h1
    exact h1)
  have HT2 := Lib.hid (fun wx (hx : Ext w wx) => by
    have h1 := times_any B C p.den q.num.natAbs c2 c3 wx (E2 ▸ HB.out.ext hx) (E3 ▸ HC.out.ext hx) (by omega)
    rw [← E2, ← E3, ← hY] at h1
    exact h1)
  rw [← hX] at lX HM
  rw [← hY] at lY hY0 HM
  have HL := Lib.hid (fun (wx : World) (v : Bool) (P Q : Option Addr) (c d : Nat) (h1 : Rd wx P c (wd X)) (h2 : Rd wx Q d (wd Y)) (hv : v = (!(a.neg == b.neg))) => show Calls Tryz.prog 141 #[.bool v, .slice P (wd X).length c, .slice Q (wd Y).length d] wx (RatP wx t) by
    subst hv
    have := lowest_any (!(a.neg == b.neg)) P Q X Y c d wx h1 h2 hY0 (by omega) (by omega)
    rw [HM.out, ← ht] at this
    exact this)
  clear hX hY ht hk h0 ep eq E1 E2 E3 E4 E5 E6 hq
  go_enter Tryz.func21, Tryz.ntmps21
  go_wp2_with fail
  obtain ⟨W, hW⟩ : ∃ W, W = ((w.alloc (.cells #[.bool a.neg, .slice A a.num.length c1, .slice B a.den.length c2] 24)).alloc (.cells #[.bool b.neg, .slice C b.num.length c3, .slice D b.den.length c4] 24)).alloc (.cells #[.bool false, .slice none 0 0, .slice none 0 0] 24) := ⟨_, rfl⟩
  have F0 : Six W w.heap.size (.bool a.neg) (.slice A a.num.length c1) (.slice B a.den.length c2) (.bool b.neg) (.slice C b.num.length c3) (.slice D b.den.length c4) := by rw [hW]; refine ⟨?_, ?_, ?_, ?_, ?_, ?_⟩ <;> simp [go_sem]
  have HX : Hid (Ext w W) := by rw [hW]; exact (((Ext.refl w).alloc _).alloc _).alloc _
  have HV : Hid (VarF (w.heap.size + 2) W.heap.size Fr.zero none 0 none 0 W) := by
    have h1 := VarF.zero ((w.alloc (.cells #[.bool a.neg, .slice A a.num.length c1, .slice B a.den.length c2] 24)).alloc (.cells #[.bool b.neg, .slice C b.num.length c3, .slice D b.den.length c4] 24)) W.heap.size
    rw [← hW] at h1
    unfold Hid
    simpa using h1
  have HZ := Lib.hid (show W.heap.size = w.heap.size + 3 by rw [hW]; simp)
  try rw [← hW]
  clear hW
  refine (checks_any a b A B C D c1 c2 c3 c4 W (HA.out.ext HX.out) (HB.out.ext HX.out) (HC.out.ext HX.out) (HD.out.ext HX.out) wa wb).mono ?_; rintro e w1 ⟨rfl, hx1⟩
  have F1 := six_ext hx1 F0
  have HX1 := Lib.hid (HX.out.trans hx1)
  have HV1 := Lib.hid (HV.out.ext hx1)
  have HZ1 := Lib.hid (show w.heap.size + 3 ≤ w1.heap.size by have := hx1.size; have := HZ.out; omega)
  clear hx1 F0 HX HV
  obtain ⟨u0, u1, u2, v0, v1, v2⟩ := id F1
  go_wp2_with fail
  have hzz := HZ1.out
  go_region_held3 (fun w' => w'.cell? ⟨w.heap.size, 0, none⟩ = some (.bool a.neg) ∧ w'.cell? ⟨w.heap.size, 1, none⟩ = some (.slice A a.num.length c1) ∧ w'.cell? ⟨w.heap.size, 2, none⟩ = some (.slice B a.den.length c2) ∧ w'.cell? ⟨w.heap.size + 1, 0, none⟩ = some (.bool b.neg) ∧ w'.cell? ⟨w.heap.size + 1, 1, none⟩ = some (.slice C b.num.length c3) ∧ w'.cell? ⟨w.heap.size + 1, 2, none⟩ = some (.slice D b.den.length c4)) (repeat (first | (with_reducible exact F1) | (with_reducible exact F2) | (with_reducible exact F3) | (with_reducible exact F4) | (with_reducible refine six_drew ?_) | (with_reducible refine six_set ?_ (by simp only; omega) (by simp only; omega))))
    (first
      | (go_at_call 142; ((with_reducible refine (HT1.out _ HX1.out.drew).mono ?_)); rintro e w2 ⟨A5, c5, rfl, p1, hx2⟩; have P1 := Lib.hid p1; have HX2 := Lib.hid hx2; have F2 := six_ext hx2 (six_drew F1); clear p1 hx2)
      | (go_at_call 142; ((with_reducible refine (HT2.out _ (HX1.out.drew.trans HX2.out)).mono ?_)); rintro e w3 ⟨A6, c6, rfl, p1, hx3⟩; have P2 := Lib.hid p1; have HX3 := Lib.hid hx3; have F3 := six_ext hx3 F2; clear p1 hx3)
      | (go_at_call 141; ((with_reducible refine (HL.out _ _ A5 A6 c5 c6 (P1.out.rd.ext HX3.out) P2.out.rd rfl).mono ?_)); rintro e w9 ⟨A9, c9, B9, d9, rfl, o1, o2, ap, hx⟩; have HX13 := (HX2.out.trans HX3.out).size; (try simp only [World.size_drew] at HX13); have O1 := Lib.hid (o1.lower (show w.heap.size + 3 ≤ w3.heap.size by omega)); have O2 := Lib.hid (o2.lower (show w.heap.size + 3 ≤ w3.heap.size by omega)); have AP := Lib.hid ap; have HX9 := Lib.hid (((HX1.out.drew.trans HX2.out).trans HX3.out).trans hx); have F4 := six_ext hx F3; have HV9 := HV1.out.ext ((((Ext.refl _).drew.trans HX2.out).trans HX3.out).trans hx); have r0 := HV9.c0; have s0 := HV9.fr 0; have r1 := HV9.c1; have s1 := HV9.fr 1; have r2 := HV9.c2; have s2 := HV9.fr 2; clear o1 o2 ap hx HV9 HX13))
  all_goals
    go_wp2_with fail
    exact bodyPost_ret (v := .tuple #[.agg #[.bool t.1.neg, .slice A9 t.1.num.length c9, .slice B9 t.1.den.length d9], .int .i64 t.2]) (by simp [results, Tryz.results21, go_sem, r0, r1, r2]) rfl (RatP.mk HT.out rfl (by refine Own.lower ?_ (show w.heap.size ≤ w.heap.size + 3 by omega); repeat (first | (with_reducible exact O1.out) | refine Own.setBelow ?_ (by simp; try omega) _)) (by refine Own.lower ?_ (show w.heap.size ≤ w.heap.size + 3 by omega); repeat (first | (with_reducible exact O2.out) | refine Own.setBelow ?_ (by simp; try omega) _)) AP.out (by repeat (first | (with_reducible exact HX9.out) | refine Ext.setCell ?_ (by simp; try omega) _)))

end Go.Proofs.YtifonmdcicegdaaGreat

/- ratio.words, Same. -/
namespace Go.Proofs.YtifonmdcicegdaaGreat
open Go Go.RowKit

set_option maxHeartbeats 1000000 in
theorem words_any (A B : Option Addr) (xs ys : List Int) (c d l : Nat) (w : World) (ha : Rd w A c xs) (hb : Rd w B d ys) (hl : xs.length = l) (n : Nat) (hn : ys.length = n) (b : Bool) (hbb : decide (xs = ys) = b) :
    Calls Tryz.prog 159 #[.slice A l c, .slice B n d] w fun e w' => e = .returned (.bool b) ∧ Quiet w w' := by
  have HL := Lib.hid hl
  have HN := Lib.hid hn
  have HA := Lib.hid ha
  have HB := Lib.hid hb
  have HBB := Lib.hid hbb
  have hll := ha.lim
  rw [hl] at hll
  clear ha hb hl hn hbb
  by_cases hne : l = n
  · subst hne
    have hbn : ((l : Int) != (l : Int)) = false := by simp
    go_enter Tryz.func159, Tryz.ntmps159
    go_wp2_with fail
    go_loopw [13] (fun i wr => ∃ k : Nat, k ≤ l ∧ i = .int .i64 k ∧ Hid (∀ j, j < k → nth xs j = nth ys j) ∧ Hid (Quiet w wr)) (fun i _ => l - (intOf i).toNat)
    case atStart => exact ⟨0, by omega, rfl, fun j hj => by omega, Quiet.refl w⟩
    case round =>
      obtain ⟨k, hk, rfl, HE, HQ⟩ := hrel
      by_cases hkl : k < l
      · obtain ⟨a, rfl, hca⟩ := (HA.out.ext HQ.out.ext).at_ k (by rw [HL.out]; exact hkl)
        obtain ⟨b', rfl, hcb⟩ := (HB.out.ext HQ.out.ext).at_ k (by rw [HN.out]; exact hkl)
        by_cases he : nth xs k = nth ys k
        · have HE2 := Lib.hid (show ∀ j, j < k + 1 → nth xs j = nth ys j from fun j hj => by
            by_cases e : j = k
            · rw [e]; exact he
            · exact HE.out j (by omega))
          have hne : (nth xs k != nth ys k) = false := bne_eq_false_iff_eq.2 he
          clear he
          go_wp2_with fail
          go_quiet (fail)
          go_wp2_with fail
          go_roundw
          case rel => exact ⟨k + 1, by omega, by go_num, HE2.out, HQ.out.drewN _⟩
          case measure => simp [intOf]; omega
        · have hne : (nth xs k != nth ys k) = true := bne_iff_ne.2 he
          have HF := Lib.hid (show b = false by rw [← HBB.out]; exact decide_eq_false (fun e => he (by rw [e])))
          clear he
          go_wp2_with fail
          go_quiet (fail)
          go_wp2_with fail
          go_ret
          exact ⟨by rw [HF.out]; rfl, HQ.out.drewN _⟩
      · have hkk : k = l := by omega
        have HF := Lib.hid (show b = true by rw [← HBB.out]; exact decide_eq_true (nth_ext (HL.out.trans HN.out.symm) (fun j hj => HE.out j (by have := HL.out; omega))))
        go_wp2_with fail
        go_ret
        exact ⟨by rw [HF.out]; rfl, HQ.out⟩
  · have hbn : ((l : Int) != (n : Int)) = true := bne_iff_ne.2 (by omega)
    have HF := Lib.hid (show b = false by rw [← HBB.out]; exact decide_eq_false (fun e => hne (by rw [← HL.out, ← HN.out, e])))
    go_enter Tryz.func159, Tryz.ntmps159
    go_wp2_with fail
    go_ret
    exact ⟨by rw [HF.out]; rfl, Quiet.refl w⟩

set_option maxHeartbeats 1000000 in
theorem same_fr_raw (s t : Bool) (A B C D : Option Addr) (xs ys us vs : List Int) (a b c d : Nat) (w : World) (ha : Rd w A a xs) (hb : Rd w B b ys) (hc : Rd w C c us) (hd : Rd w D d vs) (r : Bool) (hr : decide ((⟨s, xs, ys⟩ : Fr) = ⟨t, us, vs⟩) = r) :
    Calls Tryz.prog 33 #[.agg #[.bool s, .slice A xs.length a, .slice B ys.length b], .agg #[.bool t, .slice C us.length c, .slice D vs.length d]] w fun e w' => e = .returned (.bool r) ∧ Ext w w' := by
  have HA := Lib.hid ha
  have HB := Lib.hid hb
  have HC := Lib.hid hc
  have HD := Lib.hid hd
  have HR := Lib.hid hr
  clear ha hb hc hd hr
  have HX := Lib.hid (((Ext.refl w).alloc (.cells #[.bool s, .slice A xs.length a, .slice B ys.length b] 24)).alloc (.cells #[.bool t, .slice C us.length c, .slice D vs.length d] 24))
  by_cases h1 : s = t
  · subst h1
    by_cases h2 : xs = us
    · have H2 := Lib.hid h2
      have HS := Lib.hid (words_any A C xs us a c xs.length _ (HA.out.ext HX.out) (HC.out.ext HX.out) rfl us.length rfl true (decide_eq_true h2))
      have HS2 := Lib.hid (fun wx (hx : Ext w wx) => words_any B D ys vs b d ys.length wx (HB.out.ext hx) (HD.out.ext hx) rfl vs.length rfl r (by rw [← HR.out, h2]; simp))
      clear h2
      go_enter Tryz.func33, Tryz.ntmps33
      go_wp2_with fail
      refine HS.out.mono ?_; rintro e w1 ⟨rfl, hq⟩
      obtain ⟨m1, rfl⟩ := hq
      go_wp2_with fail
      refine (HS2.out _ (HX.out.drewN m1)).mono ?_; rintro e w2 ⟨rfl, hq⟩
      obtain ⟨m2, rfl⟩ := hq
      go_wp2_with fail
      go_ret
      exact ⟨rfl, HX.out.drewN _⟩
    · have HS := Lib.hid (words_any A C xs us a c xs.length _ (HA.out.ext HX.out) (HC.out.ext HX.out) rfl us.length rfl false (decide_eq_false h2))
      have HF := Lib.hid (show r = false by rw [← HR.out]; exact decide_eq_false (fun e => h2 (Fr.mk.inj e).2.1))
      clear h2
      go_enter Tryz.func33, Tryz.ntmps33
      go_wp2_with fail
      refine HS.out.mono ?_; rintro e w1 ⟨rfl, hq⟩
      obtain ⟨m1, rfl⟩ := hq
      go_wp2_with fail
      go_ret
      exact ⟨by rw [HF.out]; rfl, HX.out.drewN m1⟩
  · have HF := Lib.hid (show r = false by rw [← HR.out]; exact decide_eq_false (fun e => h1 (Fr.mk.inj e).1))
    have hb : (s == t) = false := beq_eq_false_iff_ne.2 h1
    go_enter Tryz.func33, Tryz.ntmps33
    go_wp2_with fail
    go_ret
    exact ⟨by rw [HF.out]; rfl, HX.out⟩

theorem same_fr (a b : Fr) (A B C D : Option Addr) (c1 c2 c3 c4 : Nat) (w : World) (ha : Rd w A c1 a.num) (hb : Rd w B c2 a.den) (hc : Rd w C c3 b.num) (hd : Rd w D c4 b.den) (r : Bool) (hr : decide (a = b) = r) :
    Calls Tryz.prog 33 #[.agg #[.bool a.neg, .slice A a.num.length c1, .slice B a.den.length c2], .agg #[.bool b.neg, .slice C b.num.length c3, .slice D b.den.length c4]] w fun e w' => e = .returned (.bool r) ∧ Ext w w' :=
  same_fr_raw a.neg b.neg A B C D a.num a.den b.num b.den c1 c2 c3 c4 w ha hb hc hd r hr

end Go.Proofs.YtifonmdcicegdaaGreat

/- nat.Trim, ratio.copied. -/
namespace Go.Proofs.YtifonmdcicegdaaGreat
open Go Go.RowKit

theorem rtrim_any (A : Option Addr) (xs : List Int) (c : Nat) (w : World) (h : Rd w A c xs) (ht : TrimW xs) :
    Calls Tryz.prog 232 #[.slice A xs.length c] w fun e w' => ∃ A' c', e = .returned (.slice A' xs.length c') ∧ Own w' w.heap.size A' c' xs ∧ Ext w w' := by
  have H := Lib.hid h
  have HT := Lib.hid ht.2
  have hl := ht.1
  have HC := Lib.hid (cut_any A xs c w h)
  rw [HT.out] at HC
  clear h ht
  go_enter Tryz.func232, Tryz.ntmps232
  go_wp2_with fail
  refine HC.out.mono ?_; rintro e w1 ⟨rfl, rfl⟩
  go_wp2_with fail
  refine (clone_any A xs c _ H.out (by omega)).mono ?_; rintro e w1 ⟨A1, c1, rfl, h1, hx1⟩
  have H1 := Lib.hid h1
  have HX1 := Lib.hid hx1
  clear h1 hx1
  go_wp2_with fail
  go_ret
  exact ⟨A1, c1, rfl, H1.out, HX1.out⟩

set_option maxRecDepth 4000 in
set_option maxHeartbeats 2000000 in
theorem copied_any (a : Fr) (A B : Option Addr) (c1 c2 : Nat) (w : World) (ha : Rd w A c1 a.num) (hb : Rd w B c2 a.den) (wa : TrimW a.num) (wb : TrimW a.den) :
    Calls Tryz.prog 145 #[.agg #[.bool a.neg, .slice A a.num.length c1, .slice B a.den.length c2]] w (NewP w a.neg a.num a.den) := by
  have HA := Lib.hid ha
  have HB := Lib.hid hb
  clear ha hb
  have HT1 := Lib.hid (fun wx (hx : Ext w wx) => rtrim_any A a.num c1 wx (HA.out.ext hx) wa)
  have HT2 := Lib.hid (fun wx (hx : Ext w wx) => rtrim_any B a.den c2 wx (HB.out.ext hx) wb)
  go_enter Tryz.func145, Tryz.ntmps145
  go_wp2_with fail
  obtain ⟨W, hW⟩ : ∃ W, W = (w.alloc (.cells #[.bool a.neg, .slice A a.num.length c1, .slice B a.den.length c2] 24)).alloc (.cells #[.bool false, .slice none 0 0, .slice none 0 0] 24) := ⟨_, rfl⟩
  have F0 : Thr W w.heap.size (.bool a.neg) (.slice A a.num.length c1) (.slice B a.den.length c2) := by rw [hW]; refine ⟨?_, ?_, ?_⟩ <;> simp [go_sem]
  have HX : Hid (Ext w W) := by rw [hW]; exact ((Ext.refl w).alloc _).alloc _
  have HV : Hid (VarF (w.heap.size + 1) W.heap.size Fr.zero none 0 none 0 W) := by
    have h1 := VarF.zero (w.alloc (.cells #[.bool a.neg, .slice A a.num.length c1, .slice B a.den.length c2] 24)) W.heap.size
    rw [← hW] at h1
    unfold Hid
    simpa using h1
  have HZ := Lib.hid (show W.heap.size = w.heap.size + 2 by rw [hW]; simp)
  try rw [← hW]
  clear hW
  have hzz := HZ.out
  go_region_held3 (fun w' => w'.cell? ⟨w.heap.size, 0, none⟩ = some (.bool a.neg) ∧ w'.cell? ⟨w.heap.size, 1, none⟩ = some (.slice A a.num.length c1) ∧ w'.cell? ⟨w.heap.size, 2, none⟩ = some (.slice B a.den.length c2)) (repeat (first | (with_reducible exact F0) | (with_reducible exact F1) | (with_reducible exact F2) | (with_reducible refine thr_drew ?_) | (with_reducible refine thr_set ?_ (by simp only; omega))))
    (first
      | (go_at_call 232; ((with_reducible refine (HT1.out _ HX.out.drew).mono ?_)); rintro e w2 ⟨A5, c5, rfl, p1, hx2⟩; have P1 := Lib.hid p1; have HX2 := Lib.hid hx2; have F1 := thr_ext hx2 (thr_drew F0); clear p1 hx2)
      | (go_at_call 232; ((with_reducible refine (HT2.out _ (HX.out.drew.trans HX2.out)).mono ?_)); rintro e w3 ⟨A6, c6, rfl, p1, hx3⟩; have P2 := Lib.hid p1; have HX3 := Lib.hid hx3; have F2 := thr_ext hx3 F1; have HV9 := HV.out.ext (((Ext.refl _).drew.trans HX2.out).trans hx3); have r0 := HV9.c0; have s0 := HV9.fr 0; have r1 := HV9.c1; have s1 := HV9.fr 1; have r2 := HV9.c2; have s2 := HV9.fr 2; clear p1 hx3 HV9))
  all_goals
    have hy := HX2.out.size
    simp only [World.size_drew] at hy
    have HAp := Lib.hid (P1.out.apart P2.out (Nat.le_refl _))
    have O1 := Lib.hid ((P1.out.ext HX3.out).lower (show w.heap.size + 2 ≤ W.drew.heap.size by simp only [World.size_drew]; omega))
    have O2 := Lib.hid (P2.out.lower (show w.heap.size + 2 ≤ w2.heap.size by omega))
    have HX9 := Lib.hid ((HX.out.drew.trans HX2.out).trans HX3.out)
    go_wp2_with fail
    exact bodyPost_ret (v := .agg #[.bool a.neg, .slice A5 a.num.length c5, .slice A6 a.den.length c6]) (by simp [results, Tryz.results145, go_sem, r0, r1, r2]) rfl ⟨A5, c5, A6, c6, rfl, (by refine Own.lower ?_ (show w.heap.size ≤ w.heap.size + 2 by omega); repeat (first | (with_reducible exact O1.out) | refine Own.setBelow ?_ (by simp; try omega) _)), (by refine Own.lower ?_ (show w.heap.size ≤ w.heap.size + 2 by omega); repeat (first | (with_reducible exact O2.out) | refine Own.setBelow ?_ (by simp; try omega) _)), HAp.out, (by repeat (first | (with_reducible exact HX9.out) | refine Ext.setCell ?_ (by simp; try omega) _))⟩

end Go.Proofs.YtifonmdcicegdaaGreat

/- ratio.Neg, Sign. -/
namespace Go.Proofs.YtifonmdcicegdaaGreat
open Go Go.RowKit

set_option maxRecDepth 4000 in
set_option maxHeartbeats 2000000 in
theorem neg_fr (a : Fr) (A B : Option Addr) (c1 c2 : Nat) (w : World) (ha : Rd w A c1 a.num) (hb : Rd w B c2 a.den) (wa : a.Wf) :
    Calls Tryz.prog 23 #[.agg #[.bool a.neg, .slice A a.num.length c1, .slice B a.den.length c2]] w (RatP w (fneg a)) := by
  have HA := Lib.hid ha
  have HB := Lib.hid hb
  clear ha hb
  by_cases hk : fchk a ≠ 0
  · have HT := Lib.hid (show fneg a = (Fr.zero, fchk a) from if_pos hk)
    have hb1 : (fchk a != 0) = true := bne_iff_ne.2 hk
    clear hk
    go_enter Tryz.func23, Tryz.ntmps23
    go_wp2_with fail
    obtain ⟨W, hW⟩ : ∃ W, W = (w.alloc (.cells #[.bool a.neg, .slice A a.num.length c1, .slice B a.den.length c2] 24)).alloc (.cells #[.bool false, .slice none 0 0, .slice none 0 0] 24) := ⟨_, rfl⟩
    have F0 : Thr W w.heap.size (.bool a.neg) (.slice A a.num.length c1) (.slice B a.den.length c2) := by rw [hW]; refine ⟨?_, ?_, ?_⟩ <;> simp [go_sem]
    have HX : Hid (Ext w W) := by rw [hW]; exact ((Ext.refl w).alloc _).alloc _
    have HV : Hid (VarF (w.heap.size + 1) W.heap.size Fr.zero none 0 none 0 W) := by
      have h1 := VarF.zero (w.alloc (.cells #[.bool a.neg, .slice A a.num.length c1, .slice B a.den.length c2] 24)) W.heap.size
      rw [← hW] at h1
      unfold Hid
      simpa using h1
    have HZ := Lib.hid (show W.heap.size = w.heap.size + 2 by rw [hW]; simp)
    try rw [← hW]
    clear hW
    refine (rcheck_fr a A B c1 c2 W (HA.out.ext HX.out) (HB.out.ext HX.out) wa).mono ?_; rintro e w1 ⟨rfl, hx1⟩
    have F1 := thr_ext hx1 F0
    have HX1 := Lib.hid (HX.out.trans hx1)
    have HV1 := Lib.hid (HV.out.ext hx1)
    have HZ1 := Lib.hid (show w.heap.size + 2 ≤ w1.heap.size by have := hx1.size; have := HZ.out; omega)
    clear hx1 F0 HX HV
    have r0 := HV1.out.c0
    have s0 := HV1.out.fr 0
    have r1 := HV1.out.c1
    have s1 := HV1.out.fr 1
    have r2 := HV1.out.c2
    have s2 := HV1.out.fr 2
    clear F1
    go_wp2_with fail
    exact bodyPost_ret (v := .tuple #[.agg #[.bool false, .slice none 0 0, .slice none 0 0], .int .i64 (fchk a)]) (by simp [results, Tryz.results23, go_sem, r0, r1, r2]) rfl (RatP.nil HT.out rfl (by repeat (first | (with_reducible exact HX1.out) | refine Ext.setCell ?_ (by simp; try omega) _)))
  have h0 : fchk a = 0 := by simpa using hk
  have hb1 : (fchk a != 0) = false := bne_eq_false_iff_eq.2 h0
  have HT := Lib.hid (fneg_ok wa h0)
  obtain ⟨t1, t2⟩ := trimW_ok wa h0
  have HCP := Lib.hid (fun wx (hx : Ext w wx) => copied_any a A B c1 c2 wx (HA.out.ext hx) (HB.out.ext hx) t1 t2)
  clear hk h0 t1 t2
  go_enter Tryz.func23, Tryz.ntmps23
  go_wp2_with fail
  obtain ⟨W, hW⟩ : ∃ W, W = (w.alloc (.cells #[.bool a.neg, .slice A a.num.length c1, .slice B a.den.length c2] 24)).alloc (.cells #[.bool false, .slice none 0 0, .slice none 0 0] 24) := ⟨_, rfl⟩
  have F0 : Thr W w.heap.size (.bool a.neg) (.slice A a.num.length c1) (.slice B a.den.length c2) := by rw [hW]; refine ⟨?_, ?_, ?_⟩ <;> simp [go_sem]
  have HX : Hid (Ext w W) := by rw [hW]; exact ((Ext.refl w).alloc _).alloc _
  have HV : Hid (VarF (w.heap.size + 1) W.heap.size Fr.zero none 0 none 0 W) := by
    have h1 := VarF.zero (w.alloc (.cells #[.bool a.neg, .slice A a.num.length c1, .slice B a.den.length c2] 24)) W.heap.size
    rw [← hW] at h1
    unfold Hid
    simpa using h1
  have HZ := Lib.hid (show W.heap.size = w.heap.size + 2 by rw [hW]; simp)
  try rw [← hW]
  clear hW
  refine (rcheck_fr a A B c1 c2 W (HA.out.ext HX.out) (HB.out.ext HX.out) wa).mono ?_; rintro e w1 ⟨rfl, hx1⟩
  have F1 := thr_ext hx1 F0
  have HX1 := Lib.hid (HX.out.trans hx1)
  have HV1 := Lib.hid (HV.out.ext hx1)
  have HZ1 := Lib.hid (show w.heap.size + 2 ≤ w1.heap.size by have := hx1.size; have := HZ.out; omega)
  clear hx1 F0 HX HV
  obtain ⟨u0, u1, u2⟩ := F1
  go_wp2_with fail
  refine (HCP.out _ HX1.out).mono ?_; rintro e w2 ⟨A9, c9, B9, d9, rfl, o1, o2, ap, hx⟩
  have hzz := HZ1.out
  have O1 := Lib.hid (o1.lower (show w.heap.size + 2 ≤ w1.heap.size by omega))
  have O2 := Lib.hid (o2.lower (show w.heap.size + 2 ≤ w1.heap.size by omega))
  have AP := Lib.hid ap
  have HX2 := Lib.hid (HX1.out.trans hx)
  have HV2 := Lib.hid (HV1.out.ext hx)
  clear o1 o2 ap hx u0 u1 u2 HV1
  go_wp2_with fail
  refine (turned_any a A9 B9 c9 d9 _).mono ?_; rintro e w3 ⟨rfl, hx⟩
  have O1 := Lib.hid (O1.out.ext hx)
  have O2 := Lib.hid (O2.out.ext hx)
  have HX9 := Lib.hid (HX2.out.trans hx)
  have HV9 := Lib.hid (HV2.out.ext hx)
  have r0 := HV9.out.c0
  have s0 := HV9.out.fr 0
  have r1 := HV9.out.c1
  have s1 := HV9.out.fr 1
  have r2 := HV9.out.c2
  have s2 := HV9.out.fr 2
  clear hx
  go_wp2_with fail
  exact bodyPost_ret (v := .tuple #[.agg #[.bool (fturn a).neg, .slice A9 a.num.length c9, .slice B9 a.den.length d9], .int .i64 0]) (by simp [results, Tryz.results23, go_sem, r0, r1, r2]) rfl (RatP.mk (s := (fturn a).neg) (xs := a.num) (ys := a.den) HT.out rfl (by refine Own.lower ?_ (show w.heap.size ≤ w.heap.size + 2 by omega); repeat (first | (with_reducible exact O1.out) | refine Own.setBelow ?_ (by simp; try omega) _)) (by refine Own.lower ?_ (show w.heap.size ≤ w.heap.size + 2 by omega); repeat (first | (with_reducible exact O2.out) | refine Own.setBelow ?_ (by simp; try omega) _)) AP.out (by repeat (first | (with_reducible exact HX9.out) | refine Ext.setCell ?_ (by simp; try omega) _)))

set_option maxHeartbeats 2000000 in
theorem sign_fr_raw (s : Bool) (xs ys : List Int) (A B : Option Addr) (c1 c2 : Nat) (w : World) (ha : Rd w A c1 xs) (hb : Rd w B c2 ys) (wa : (⟨s, xs, ys⟩ : Fr).Wf) :
    Calls Tryz.prog 31 #[.agg #[.bool s, .slice A xs.length c1, .slice B ys.length c2]] w fun e w' => e = .returned (.int .i64 (fsign ⟨s, xs, ys⟩)) ∧ Ext w w' := by
  obtain ⟨k, hk⟩ : ∃ k, k = fchk ⟨s, xs, ys⟩ := ⟨_, rfl⟩
  have HCK := Lib.hid (fun wx (h1 : Rd wx A c1 xs) (h2 : Rd wx B c2 ys) => rcheck_fr ⟨s, xs, ys⟩ A B c1 c2 wx h1 h2 wa)
  rw [← hk] at HCK
  simp only at HCK
  have HA := Lib.hid ha
  have HB := Lib.hid hb
  clear ha hb
  have HX := Lib.hid ((Ext.refl w).alloc (.cells #[.bool s, .slice A xs.length c1, .slice B ys.length c2] 24))
  by_cases h1 : k ≠ 0
  · have HE := Lib.hid (show fsign ⟨s, xs, ys⟩ = 0 by unfold fsign; rw [if_pos (by rw [← hk]; exact h1)])
    have hb1 : (k != 0) = true := bne_iff_ne.2 h1
    rw [HE.out]
    clear h1 hk wa
    go_enter Tryz.func31, Tryz.ntmps31
    go_wp2_with fail
    refine (HCK.out _ (HA.out.ext HX.out) (HB.out.ext HX.out)).mono ?_; rintro e w1 ⟨rfl, hx1⟩
    obtain ⟨hc, hf⟩ := bcell hx1
    have HX1 := Lib.hid (HX.out.trans hx1)
    clear hx1
    go_wp2_with fail
    go_ret
    exact ⟨rfl, HX1.out⟩
  have hb1 : (k != 0) = false := bne_eq_false_iff_eq.2 (by simpa using h1)
  have h0 : k = 0 := by simpa using h1
  by_cases h2 : xs.length = 0
  · have HE := Lib.hid (show fsign ⟨s, xs, ys⟩ = 0 by unfold fsign; rw [if_neg (by rw [← hk]; exact fun h => h h0), if_pos h2])
    have hb2 : ((xs.length : Int) == 0) = true := beq_iff_eq.2 (by omega)
    rw [HE.out]
    clear h1 hk wa h0 h2
    go_enter Tryz.func31, Tryz.ntmps31
    go_wp2_with fail
    refine (HCK.out _ (HA.out.ext HX.out) (HB.out.ext HX.out)).mono ?_; rintro e w1 ⟨rfl, hx1⟩
    obtain ⟨hc, hf⟩ := bcell hx1
    have HX1 := Lib.hid (HX.out.trans hx1)
    clear hx1
    go_wp2_with fail
    go_ret
    exact ⟨rfl, HX1.out⟩
  have hb2 : ((xs.length : Int) == 0) = false := beq_eq_false_iff_ne.2 (by omega)
  have HE := Lib.hid (show fsign ⟨s, xs, ys⟩ = if s = true then -1 else 1 by unfold fsign; rw [if_neg (by rw [← hk]; exact fun h => h h0), if_neg h2])
  rw [HE.out]
  clear h1 hk wa h0 h2
  cases s
  all_goals
    go_enter Tryz.func31, Tryz.ntmps31
    go_wp2_with fail
    refine (HCK.out _ (HA.out.ext HX.out) (HB.out.ext HX.out)).mono ?_; rintro e w1 ⟨rfl, hx1⟩
    obtain ⟨hc, hf⟩ := bcell hx1
    have HX1 := Lib.hid (HX.out.trans hx1)
    clear hx1
    go_wp2_with fail
    go_ret
    exact ⟨rfl, HX1.out⟩
theorem sign_fr (a : Fr) (A B : Option Addr) (c1 c2 : Nat) (w : World) (ha : Rd w A c1 a.num) (hb : Rd w B c2 a.den) (wa : a.Wf) :
    Calls Tryz.prog 31 #[.agg #[.bool a.neg, .slice A a.num.length c1, .slice B a.den.length c2]] w fun e w' => e = .returned (.int .i64 (fsign a)) ∧ Ext w w' :=
  sign_fr_raw a.neg a.num a.den A B c1 c2 w ha hb wa

end Go.Proofs.YtifonmdcicegdaaGreat

/- ratio.Compare. -/
namespace Go.Proofs.YtifonmdcicegdaaGreat
open Go Go.RowKit

/-- a number and an error are told -/
def IntP (w : World) (t : Int × Int) (e : Ending) (w' : World) : Prop := e = .returned (.tuple #[.int .i64 t.1, .int .i64 t.2]) ∧ Ext w w'

set_option maxRecDepth 4000 in
set_option maxHeartbeats 2000000 in
theorem compareF_raw (s t : Bool) (xs ys us vs : List Int) (A B C D : Option Addr) (c1 c2 c3 c4 : Nat) (w : World) (ha : Rd w A c1 xs) (hb : Rd w B c2 ys) (hc : Rd w C c3 us) (hd : Rd w D c4 vs) (wa : (⟨s, xs, ys⟩ : Fr).Wf) (wb : (⟨t, us, vs⟩ : Fr).Wf) :
    Calls Tryz.prog 25 #[.agg #[.bool s, .slice A xs.length c1, .slice B ys.length c2], .agg #[.bool t, .slice C us.length c3, .slice D vs.length c4]] w (IntP w (fcmp ⟨s, xs, ys⟩ ⟨t, us, vs⟩)) := by
  have HCK := Lib.hid (fun wx (h1 : Rd wx A c1 xs) (h2 : Rd wx B c2 ys) (h3 : Rd wx C c3 us) (h4 : Rd wx D c4 vs) => show Calls Tryz.prog 135 #[.agg #[.bool s, .slice A xs.length c1, .slice B ys.length c2], .agg #[.bool t, .slice C us.length c3, .slice D vs.length c4]] wx (fun e w' => e = .returned (.int .i64 (fchk2 ⟨s, xs, ys⟩ ⟨t, us, vs⟩)) ∧ Ext wx w') from checks_any ⟨s, xs, ys⟩ ⟨t, us, vs⟩ A B C D c1 c2 c3 c4 wx h1 h2 h3 h4 wa wb)
  obtain ⟨a, ea⟩ : ∃ a : Fr, a = ⟨s, xs, ys⟩ := ⟨_, rfl⟩
  obtain ⟨b, eb⟩ : ∃ b : Fr, b = ⟨t, us, vs⟩ := ⟨_, rfl⟩
  rw [← ea, ← eb] at HCK ⊢
  rw [← ea] at wa
  rw [← eb] at wb
  have HA := Lib.hid ha
  have HB := Lib.hid hb
  have HC := Lib.hid hc
  have HD := Lib.hid hd
  clear ha hb hc hd
  by_cases hk : fchk2 a b ≠ 0
  · have HT := Lib.hid (show fcmp a b = (0, fchk2 a b) from if_pos hk)
    have hb1 : (fchk2 a b != 0) = true := bne_iff_ne.2 hk
    rw [HT.out]
    clear hk ea eb
    go_enter Tryz.func25, Tryz.ntmps25
    go_wp2_with fail
    obtain ⟨W, hW⟩ : ∃ W, W = (w.alloc (.cells #[.bool s, .slice A xs.length c1, .slice B ys.length c2] 24)).alloc (.cells #[.bool t, .slice C us.length c3, .slice D vs.length c4] 24) := ⟨_, rfl⟩
    have F0 : Six W w.heap.size (.bool s) (.slice A xs.length c1) (.slice B ys.length c2) (.bool t) (.slice C us.length c3) (.slice D vs.length c4) := by rw [hW]; refine ⟨?_, ?_, ?_, ?_, ?_, ?_⟩ <;> simp [go_sem]
    have HX : Hid (Ext w W) := by rw [hW]; exact ((Ext.refl w).alloc _).alloc _
    have HZ := Lib.hid (show W.heap.size = w.heap.size + 2 by rw [hW]; simp)
    try rw [← hW]
    clear hW
    refine (HCK.out W (HA.out.ext HX.out) (HB.out.ext HX.out) (HC.out.ext HX.out) (HD.out.ext HX.out)).mono ?_; rintro e w1 ⟨rfl, hx1⟩
    have F1 := six_ext hx1 F0
    have HX1 := Lib.hid (HX.out.trans hx1)
    clear hx1 F0 HX
    clear F1
    go_wp2_with fail
    go_ret2
    exact ⟨rfl, HX1.out⟩
  have h0 : fchk2 a b = 0 := by simpa using hk
  have hb1 : (fchk2 a b != 0) = false := bne_eq_false_iff_eq.2 h0
  obtain ⟨p, q, ep, eq, lp, lq⟩ := fchk2_ok wa wb h0
  have LP := not_lng lp
  have LQ := not_lng lq
  have E1 : a.num = wd p.num.natAbs := by rw [ep]; rfl
  have E2 : a.den = wd p.den := by rw [ep]; rfl
  have E3 : b.num = wd q.num.natAbs := by rw [eq]; rfl
  have E4 : b.den = wd q.den := by rw [eq]; rfl
  have E5 : a.neg = decide (p.num < 0) := by rw [ep]; rfl
  have E6 : b.neg = decide (q.num < 0) := by rw [eq]; rfl
  rw [ea] at E1 E2 E5
  rw [eb] at E3 E4 E6
  simp only at E1 E2 E3 E4 E5 E6
  obtain ⟨c, hcc⟩ : ∃ c, c = cmpq p q := ⟨_, rfl⟩
  have HT := Lib.hid (show fcmp a b = (c, 0) by unfold fcmp; rw [if_neg (by omega), ep, eq, dec_enc, dec_enc, hcc])
  rw [HT.out]
  have lX := wd_len_mul p.num.natAbs q.den
  have lY := wd_len_mul q.num.natAbs p.den
  obtain ⟨X, hX⟩ : ∃ X, X = p.num.natAbs * q.den := ⟨_, rfl⟩
  obtain ⟨Y, hY⟩ : ∃ Y, Y = q.num.natAbs * p.den := ⟨_, rfl⟩
  have HT1 := Lib.hid (fun wx (hx : Ext w wx) => by
    have h1 := times_any A D p.num.natAbs q.den c1 c4 wx (E1 ▸ HA.out.ext hx) (E4 ▸ HD.out.ext hx) (by omega)
    rw [← E1, ← E4, ← hX] at h1
    exact h1)
  have HT2 := Lib.hid (fun wx (hx : Ext w wx) => by
    have h1 := times_any C B q.num.natAbs p.den c3 c2 wx (E3 ▸ HC.out.ext hx) (E2 ▸ HB.out.ext hx) (by omega)
    rw [← E3, ← E2, ← hY] at h1
    exact h1)
  have HCM := Lib.hid (show (s = true → t = true → cmp Y X = c) ∧ (s = true → t = false → c = -1) ∧ (s = false → t = true → c = 1) ∧ (s = false → t = false → cmp X Y = c) from by
    rw [hX, hY, hcc, E5, E6]
    exact ⟨fun h k => cmpq_nn p q (of_decide_eq_true h) (of_decide_eq_true k), fun h k => cmpq_np p q (of_decide_eq_true h) (of_decide_eq_false k), fun h k => cmpq_pn p q (of_decide_eq_false h) (of_decide_eq_true k), fun h k => cmpq_pp p q (of_decide_eq_false h) (of_decide_eq_false k)⟩)
  rw [← hX] at lX
  rw [← hY] at lY
  clear hX hY hk h0 ep eq E1 E2 E3 E4 E5 E6 ea eb hcc wa wb HT
  go_enter Tryz.func25, Tryz.ntmps25
  go_wp2_with fail
  obtain ⟨W, hW⟩ : ∃ W, W = (w.alloc (.cells #[.bool s, .slice A xs.length c1, .slice B ys.length c2] 24)).alloc (.cells #[.bool t, .slice C us.length c3, .slice D vs.length c4] 24) := ⟨_, rfl⟩
  have F0 : Six W w.heap.size (.bool s) (.slice A xs.length c1) (.slice B ys.length c2) (.bool t) (.slice C us.length c3) (.slice D vs.length c4) := by rw [hW]; refine ⟨?_, ?_, ?_, ?_, ?_, ?_⟩ <;> simp [go_sem]
  have HX : Hid (Ext w W) := by rw [hW]; exact ((Ext.refl w).alloc _).alloc _
  have HZ := Lib.hid (show W.heap.size = w.heap.size + 2 by rw [hW]; simp)
  try rw [← hW]
  clear hW
  refine (HCK.out W (HA.out.ext HX.out) (HB.out.ext HX.out) (HC.out.ext HX.out) (HD.out.ext HX.out)).mono ?_; rintro e w1 ⟨rfl, hx1⟩
  have F1 := six_ext hx1 F0
  have HX1 := Lib.hid (HX.out.trans hx1)
  clear hx1 F0 HX
  obtain ⟨u0, u1, u2, v0, v1, v2⟩ := id F1
  go_wp2_with fail
  go_region_held3 (fun w' => w'.cell? ⟨w.heap.size, 0, none⟩ = some (.bool s) ∧ w'.cell? ⟨w.heap.size, 1, none⟩ = some (.slice A xs.length c1) ∧ w'.cell? ⟨w.heap.size, 2, none⟩ = some (.slice B ys.length c2) ∧ w'.cell? ⟨w.heap.size + 1, 0, none⟩ = some (.bool t) ∧ w'.cell? ⟨w.heap.size + 1, 1, none⟩ = some (.slice C us.length c3) ∧ w'.cell? ⟨w.heap.size + 1, 2, none⟩ = some (.slice D vs.length c4)) (repeat (first | (with_reducible exact F1) | (with_reducible exact F2) | (with_reducible exact F3) | (with_reducible exact F4) | (with_reducible refine six_drew ?_)))
    (first
      | (go_at_call 142; ((with_reducible refine (HT1.out _ HX1.out.drew).mono ?_)); rintro e w2 ⟨A5, c5, rfl, p1, hx2⟩; have P1 := Lib.hid p1; have HX2 := Lib.hid hx2; have F2 := six_ext hx2 (six_drew F1); clear p1 hx2)
      | (go_at_call 142; ((with_reducible refine (HT2.out _ (HX1.out.drew.trans HX2.out)).mono ?_)); rintro e w3 ⟨A6, c6, rfl, p1, hx3⟩; have P2 := Lib.hid p1; have HX3 := Lib.hid hx3; have F3 := six_ext hx3 F2; clear p1 hx3))
  all_goals
    have HX9 := Lib.hid ((HX1.out.drew.trans HX2.out).trans HX3.out)
    have P1 := Lib.hid (P1.out.ext HX3.out)
    clear u0 u1 u2 v0 v1 v2 F1 F2
    obtain ⟨u0, u1, u2, v0, v1, v2⟩ := F3
    cases s with
    | true =>
      cases t with
      | true =>
        have HE := Lib.hid (HCM.out.1 rfl rfl)
        go_wp2_with fail
        refine (compare_any A6 A5 Y X _ _ _ P2.out.rd P1.out.rd).mono ?_; rintro e w4 ⟨rfl, hx⟩
        rw [HE.out]
        have HX4 := Lib.hid (HX9.out.trans hx)
        clear hx
        go_wp2_with fail
        go_ret2
        exact ⟨rfl, HX4.out⟩
      | false =>
        have HE := Lib.hid (HCM.out.2.1 rfl rfl)
        go_wp2_with fail
        go_ret2
        exact ⟨by rw [HE.out]; rfl, HX9.out⟩
    | false =>
      cases t with
      | true =>
        have HE := Lib.hid (HCM.out.2.2.1 rfl rfl)
        go_wp2_with fail
        go_ret2
        exact ⟨by rw [HE.out]; rfl, HX9.out⟩
      | false =>
        have HE := Lib.hid (HCM.out.2.2.2 rfl rfl)
        go_wp2_with fail
        refine (compare_any A5 A6 X Y _ _ _ P1.out.rd P2.out.rd).mono ?_; rintro e w4 ⟨rfl, hx⟩
        rw [HE.out]
        have HX4 := Lib.hid (HX9.out.trans hx)
        clear hx
        go_wp2_with fail
        go_ret2
        exact ⟨rfl, HX4.out⟩
theorem compare_fr (a b : Fr) (A B C D : Option Addr) (c1 c2 c3 c4 : Nat) (w : World) (ha : Rd w A c1 a.num) (hb : Rd w B c2 a.den) (hc : Rd w C c3 b.num) (hd : Rd w D c4 b.den) (wa : a.Wf) (wb : b.Wf) :
    Calls Tryz.prog 25 #[.agg #[.bool a.neg, .slice A a.num.length c1, .slice B a.den.length c2], .agg #[.bool b.neg, .slice C b.num.length c3, .slice D b.den.length c4]] w (IntP w (fcmp a b)) :=
  compareF_raw a.neg b.neg a.num a.den b.num b.den A B C D c1 c2 c3 c4 w ha hb hc hd wa wb

end Go.Proofs.YtifonmdcicegdaaGreat

