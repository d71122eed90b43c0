/- Texts of this claim, joined: R1 K1 K2 K3a K4 K5 V1 V2 R4 R5 K6 K9 K7a T1 R6 R7. -/
import Derived.Deep.DeepAppendRoom
import Derived.Deep.RegionHeldLaw
import Derived.Deep.AppendLies
import Derived.Deep.RegionHeld3
import Derived.Test.YtjoonfegjobgbaaGreatDoorRm
set_option linter.unusedVariables false
set_option linter.unusedSimpArgs false
set_option maxRecDepth 100000
namespace Go.Proofs.YtjoonfegjobgbaaGreatDoor
open Go Go.RowKit
theorem bcell {W w1 : World} (hb : Ext W w1) : (∀ b o, b < W.heap.size → w1.cell? ⟨b, o, none⟩ = W.cell? ⟨b, o, none⟩) ∧ (∀ b o, b < W.heap.size → w1.frozen? ⟨b, o, none⟩ = W.frozen? ⟨b, o, none⟩) :=
  ⟨fun b o h => Below.cell (p := ⟨b, o, none⟩) hb h, fun b o h => Below.frozen (p := ⟨b, o, none⟩) hb h⟩
set_option maxHeartbeats 400000 in
theorem times_any (A B : Option Addr) (m n : Nat) (c d : Nat) (w : World) (ha : Rd w A c (wd m)) (hb : Rd w B d (wd n)) (ls : (wd m).length + (wd n).length ≤ 8192) :
    Calls Tryz.prog 80 #[.slice A (wd m).length c, .slice B (wd n).length d] w fun e w' => ∃ A' c', e = .returned (.slice A' (wd (m * n)).length c') ∧ Own w' w.heap.size A' c' (wd (m * n)) ∧ Ext w w' := by
  have H := Lib.hid (mul_any A B m n c d w ha hb ls)
  clear ha hb
  go_enter Tryz.func80, Tryz.ntmps80
  go_wp2_with fail
  refine H.out.mono ?_; rintro e w1 ⟨A1, c1, rfl, h1, hx1⟩
  have H1 := Lib.hid h1
  have HX1 := Lib.hid hx1
  clear h1 hx1
  go_wp2_with fail
  go_ret
  exact ⟨_, _, rfl, H1.out, HX1.out⟩
theorem long_any (A : Option Addr) (n c : Nat) (w : World) (hn : n ≤ 9223372036854775807) :
    Calls Tryz.prog 85 #[.slice A n c] w fun e w' => e = .returned (.bool (decide (2048 < n))) ∧ w = w' := by
  go_enter Tryz.func85, Tryz.ntmps85
  go_wp2
  go_ret
  exact ⟨by simp; omega, rfl⟩
def RatP (w : World) (t : Fr × Int) (e : Ending) (w' : World) : Prop :=
  ∃ A c B d, e = .returned (.tuple #[.agg #[.bool t.1.neg, .slice A t.1.num.length c, .slice B t.1.den.length d], .int .i64 t.2]) ∧ Own w' w.heap.size A c t.1.num ∧ Own w' w.heap.size B d t.1.den ∧ (∀ a b, A = some a → B = some b → a.block ≠ b.block) ∧ Ext w w'
theorem RatP.mk {w w' : World} {t : Fr × Int} {s : Bool} {xs ys : List Int} {er : Int} {e : Ending} {A B : Option Addr} {c d : Nat} (ht : t = (⟨s, xs, ys⟩, er)) (he : e = .returned (.tuple #[.agg #[.bool s, .slice A xs.length c, .slice B ys.length d], .int .i64 er]))
    (h1 : Own w' w.heap.size A c xs) (h2 : Own w' w.heap.size B d ys) (h3 : ∀ a b, A = some a → B = some b → a.block ≠ b.block) (h4 : Ext w w') : RatP w t e w' := by
  subst ht
  exact ⟨A, c, B, d, he, h1, h2, h3, h4⟩
theorem RatP.nil {w w' : World} {t : Fr × Int} {er : Int} {e : Ending} (ht : t = (Fr.zero, er)) (he : e = .returned (.tuple #[.agg #[.bool false, .slice none 0 0, .slice none 0 0], .int .i64 er])) (h4 : Ext w w') : RatP w t e w' := by
  subst ht
  exact ⟨none, 0, none, 0, he, Own.nil _ _, Own.nil _ _, (fun _ _ h => by cases h), h4⟩
set_option maxHeartbeats 1000000 in
theorem lowest_any (b : Bool) (A B : Option Addr) (m n : Nat) (c d : Nat) (w : World) (ha : Rd w A c (wd m)) (hb : Rd w B d (wd n)) (hn : n ≠ 0) (lm : (wd m).length ≤ 8192) (ln : (wd n).length ≤ 8192) :
    Calls Tryz.prog 79 #[.bool b, .slice A (wd m).length c, .slice B (wd n).length d] w (RatP w (tell (mkRat (sg b m) n))) := by
  have HA := Lib.hid ha
  have HB := Lib.hid hb
  have hg0 : 0 < Nat.gcd m n := Nat.gcd_pos_of_pos_right m (by omega)
  have hgl := wd_len_mono (Nat.gcd_le_right m (show 0 < n by omega))
  have HE := Lib.hid (enc_mk b m n hn)
  obtain ⟨g, hg⟩ : ∃ g, g = Nat.gcd m n := ⟨_, rfl⟩
  rw [← hg] at hg0 hgl HE
  have HG := Lib.hid hg
  clear ha hb hg
  go_enter Tryz.func79, Tryz.ntmps79
  go_wp2_with fail
  refine (gcd_any _ _ _ _ _ _ _ (HA.out.ext ((Ext.refl w).alloc _)) (HB.out.ext ((Ext.refl w).alloc _)) lm ln).mono ?_
  rw [← HG.out]
  rintro e w1 ⟨A1, c1, rfl, h1, hx1⟩
  have H1 := Lib.hid h1
  have HX1 := Lib.hid hx1
  clear h1 hx1
  go_wp2_with fail
  refine (divMod_any _ _ _ _ _ _ _ (HA.out.ext (((Ext.refl w).alloc _).trans HX1.out)) H1.out.rd (by omega) lm (by omega)).mono ?_
  rintro e w2 ⟨A2, c2, B2, d2, rfl, h2, h2', h2'', hx2⟩
  have H2 := Lib.hid h2
  have HX2 := Lib.hid (HX1.out.trans hx2)
  have H1 := Lib.hid (H1.out.ext hx2)
  clear h2 h2' h2'' hx2
  go_wp2_with fail
  refine (divMod_any _ _ _ _ _ _ _ (HB.out.ext (((Ext.refl w).alloc _).trans HX2.out)) H1.out.rd (by omega) ln (by omega)).mono ?_
  rintro e w3 ⟨A3, c3, B3, d3, rfl, h3, h3', h3'', hx3⟩
  have HAp := Lib.hid (H2.out.apart h3 (Nat.le_refl _))
  have H3 := Lib.hid (h3.lower (show w.heap.size + 1 ≤ w2.heap.size by have := HX2.out.size; simp at this; omega))
  have H2 := Lib.hid ((H2.out.ext hx3).lower (show w.heap.size + 1 ≤ w1.heap.size by have := HX1.out.size; simp at this; omega))
  have HX3 := Lib.hid (HX2.out.trans hx3)
  have HZ3 := Lib.hid (show w.heap.size < w3.heap.size by have := HX3.out.size; simp at this; omega)
  clear h3 h3' h3'' hx3 H1
  obtain ⟨m', hm'⟩ : ∃ x, x = m / g := ⟨_, rfl⟩
  obtain ⟨n', hn'⟩ : ∃ x, x = n / g := ⟨_, rfl⟩
  rw [← hm'] at HE H2 ⊢
  rw [← hn'] at HE H3 ⊢
  have hml := wd_len_mono (show m' ≤ m by rw [hm']; exact Nat.div_le_self _ _)
  have hnl := wd_len_mono (show n' ≤ n by rw [hn']; exact Nat.div_le_self _ _)
  have Hm' := Lib.hid hm'
  clear hm' hn'
  have el : (wd (mkRat (sg b m) n).num.natAbs) = wd m' := congrArg Fr.num HE.out
  have ed : (wd (mkRat (sg b m) n).den) = wd n' := congrArg Fr.den HE.out
  have hbc := bcell HX3.out
  obtain ⟨hc, hf⟩ := hbc
  have HXw := Lib.hid (((Ext.refl w).alloc _).trans HX3.out)
  by_cases l1 : 2048 < (wd m').length
  · have HT := Lib.hid (show tell (mkRat (sg b m) n) = (Fr.zero, 3) by unfold tell lng; rw [el, if_pos (by simp; omega)])
    rw [HT.out]
    clear el ed
    go_wp2_with fail
    refine (long_any _ _ _ _ (by omega)).mono ?_; rintro e w' ⟨rfl, rfl⟩
    go_wp2_with fail
    exact bodyPost_ret (v := .tuple #[.agg #[.bool false, .slice none 0 0, .slice none 0 0], .int .i64 3]) (by simp [results, Tryz.results79, go_sem, hc]) rfl (RatP.nil HT.out rfl (by repeat (first | exact HXw.out | refine Ext.setCell ?_ (Nat.le_refl _) _)))
  · by_cases l2 : 2048 < (wd n').length
    · have HT := Lib.hid (show tell (mkRat (sg b m) n) = (Fr.zero, 3) by unfold tell lng; rw [ed, if_pos (by simp; omega)])
      rw [HT.out]
      clear el ed
      go_wp2_with fail
      refine (long_any _ _ _ _ (by omega)).mono ?_; rintro e w' ⟨rfl, rfl⟩
      go_wp2_with fail
      refine (long_any _ _ _ _ (by omega)).mono ?_; rintro e w' ⟨rfl, rfl⟩
      go_wp2_with fail
      exact bodyPost_ret (v := .tuple #[.agg #[.bool false, .slice none 0 0, .slice none 0 0], .int .i64 3]) (by simp [results, Tryz.results79, go_sem, hc]) rfl (RatP.nil HT.out rfl (by repeat (first | exact HXw.out | refine Ext.setCell ?_ (Nat.le_refl _) _)))
    · obtain ⟨s, hs⟩ : ∃ s : Bool, s = (b && decide (m ≠ 0)) := ⟨_, rfl⟩
      have HT := Lib.hid (show tell (mkRat (sg b m) n) = (⟨s, wd m', wd n'⟩, 0) by unfold tell lng; rw [el, ed, if_neg (by simp; omega), HE.out, hs])
      rw [HT.out]
      have hs2 : s = (b && decide (0 < (wd m').length)) := by
        rw [hs]
        congr 1
        have hz : m' = 0 ↔ m = 0 := by
          rw [Hm'.out, HG.out]
          constructor
          · intro h
            have := Nat.div_mul_cancel (Nat.gcd_dvd_left m n)
            rw [h, Nat.zero_mul] at this
            exact this.symm
          · intro h; rw [h, Nat.zero_div]
        have hl := @wd_len_zero m'
        by_cases h0 : m = 0
        · have := hl.2 (hz.2 h0)
          rw [decide_eq_false (by omega), decide_eq_false (by omega)]
        · have := mt hz.1 h0
          have := mt hl.1 this
          rw [decide_eq_true (by omega), decide_eq_true (by omega)]
      clear el ed hs
      cases b with
      | false =>
        obtain rfl : s = false := hs2
        go_wp2_with fail
        refine (long_any _ _ _ _ (by omega)).mono ?_; rintro e w' ⟨rfl, rfl⟩
        go_wp2_with fail
        refine (long_any _ _ _ _ (by omega)).mono ?_; rintro e w' ⟨rfl, rfl⟩
        go_wp2_with fail
        exact bodyPost_ret (v := .tuple #[.agg #[.bool false, .slice A2 (wd m').length c2, .slice A3 (wd n').length c3], .int .i64 0]) (by simp [results, Tryz.results79, go_sem, hc]) rfl (RatP.mk HT.out rfl (by refine Own.lower ?_ (Nat.le_succ _); repeat (first | exact H2.out | refine Own.setBelow ?_ (Nat.lt_succ_self _) _)) (by refine Own.lower ?_ (Nat.le_succ _); repeat (first | exact H3.out | refine Own.setBelow ?_ (Nat.lt_succ_self _) _)) HAp.out (by repeat (first | exact HXw.out | refine Ext.setCell ?_ (Nat.le_refl _) _)))
      | true =>
        rw [Bool.true_and] at hs2
        by_cases h0 : 0 < (wd m').length
        · obtain rfl : s = true := by rw [hs2]; exact decide_eq_true h0
          clear hs2
          go_wp2_with fail
          refine (long_any _ _ _ _ (by omega)).mono ?_; rintro e w' ⟨rfl, rfl⟩
          go_wp2_with fail
          refine (long_any _ _ _ _ (by omega)).mono ?_; rintro e w' ⟨rfl, rfl⟩
          go_wp2_with fail
          exact bodyPost_ret (v := .tuple #[.agg #[.bool true, .slice A2 (wd m').length c2, .slice A3 (wd n').length c3], .int .i64 0]) (by simp [results, Tryz.results79, go_sem, hc]) rfl (RatP.mk HT.out rfl (by refine Own.lower ?_ (Nat.le_succ _); repeat (first | exact H2.out | refine Own.setBelow ?_ (Nat.lt_succ_self _) _)) (by refine Own.lower ?_ (Nat.le_succ _); repeat (first | exact H3.out | refine Own.setBelow ?_ (Nat.lt_succ_self _) _)) HAp.out (by repeat (first | exact HXw.out | refine Ext.setCell ?_ (Nat.le_refl _) _)))
        · obtain rfl : s = false := by rw [hs2]; exact decide_eq_false h0
          clear hs2
          go_wp2_with fail
          refine (long_any _ _ _ _ (by omega)).mono ?_; rintro e w' ⟨rfl, rfl⟩
          go_wp2_with fail
          refine (long_any _ _ _ _ (by omega)).mono ?_; rintro e w' ⟨rfl, rfl⟩
          go_wp2_with fail
          exact bodyPost_ret (v := .tuple #[.agg #[.bool false, .slice A2 (wd m').length c2, .slice A3 (wd n').length c3], .int .i64 0]) (by simp [results, Tryz.results79, go_sem, hc]) rfl (RatP.mk HT.out rfl (by refine Own.lower ?_ (Nat.le_succ _); repeat (first | exact H2.out | refine Own.setBelow ?_ (Nat.lt_succ_self _) _)) (by refine Own.lower ?_ (Nat.le_succ _); repeat (first | exact H3.out | refine Own.setBelow ?_ (Nat.lt_succ_self _) _)) HAp.out (by repeat (first | exact HXw.out | refine Ext.setCell ?_ (Nat.le_refl _) _)))
def Quiet (w w' : World) : Prop := ∃ m, w' = w.drewN m
theorem Quiet.ext {w w' : World} (h : Quiet w w') : Ext w w' := by obtain ⟨m, rfl⟩ := h; exact (Ext.refl w).drewN m
theorem Quiet.refl (w : World) : Quiet w w := ⟨0, rfl⟩
theorem Quiet.drewN {w w' : World} (h : Quiet w w') (n : Nat) : Quiet w (w'.drewN n) := by obtain ⟨m, rfl⟩ := h; exact ⟨m + n, by rw [World.drewN_drewN]⟩
theorem nth_ext : ∀ {xs ys : List Int}, xs.length = ys.length → (∀ j, j < xs.length → nth xs j = nth ys j) → xs = ys
  | [], [], _, _ => rfl
  | [], _ :: _, h, _ => by simp at h
  | _ :: _, [], h, _ => by simp at h
  | x :: xs, y :: ys, h, e => by
    have h0 : x = y := e 0 (by simp)
    rw [h0, nth_ext (xs := xs) (ys := ys) (by simpa using h) (fun j hj => e (j + 1) (by simpa using hj))]
def marks : List Int := [2882343476, 2882343477, 2882343478]
def sl (A : Option Addr) (n c : Nat) : Value := .slice A n c
structure Rows (base k gb : Nat) (P : Nat → Option Addr) (C : Nat → Nat) (X Z : Nat → List Int) (w : World) : Prop where
  idx : ∀ j, j < k → w.cell? ⟨gb, j, none⟩ = some (.slice (P j) (X j).length (C j))
  row : ∀ j, j < k → Own w base (P j) (C j) (Z j)
theorem grown_setCell (w : World) (p : Addr) (u : Value) : w.grownBy (w.setCell p u) (some p.block) :=
  ⟨rfl, rfl, rfl, by simp [World.setCell], fun k hk hne => Below.heap_setCell _ _ _ _ (fun e => hne (by rw [e]))⟩
theorem cell_keep {w w' : World} {row : Option Nat} (h : w.grownBy w' row) {g j : Nat} {v : Value} (hc : w.cell? ⟨g, j, none⟩ = some v) (hne : some g ≠ row) : w'.cell? ⟨g, j, none⟩ = some v := h.cell hc hne
structure VarF (g base : Nat) (f : Fr) (A : Option Addr) (c : Nat) (B : Option Addr) (d : Nat) (w : World) : Prop where
  c0 : w.cell? ⟨g, 0, none⟩ = some (.bool f.neg)
  c1 : w.cell? ⟨g, 1, none⟩ = some (.slice A f.num.length c)
  c2 : w.cell? ⟨g, 2, none⟩ = some (.slice B f.den.length d)
  fr : ∀ o, w.frozen? ⟨g, o, none⟩ = false
  onum : Own w base A c f.num
  oden : Own w base B d f.den
  ap : ∀ a b, A = some a → B = some b → a.block ≠ b.block
  n1 : ∀ a, A = some a → a.block ≠ g
  n2 : ∀ a, B = some a → a.block ≠ g
theorem VarF.ext {g base : Nat} {f : Fr} {A B : Option Addr} {c d : Nat} {w w' : World} (h : VarF g base f A c B d w) (e : Ext w w') : VarF g base f A c B d w' :=
  ⟨e.cell h.c0, e.cell h.c1, e.cell h.c2, fun o => (Below.frozen (p := ⟨g, o, none⟩) e (World.block_lt_of_cell? w ⟨g, 0, none⟩ h.c0)).trans (h.fr o), h.onum.ext e, h.oden.ext e, h.ap, h.n1, h.n2⟩
theorem VarF.new {base : Nat} {k : Fr} {C D : Option Addr} {a b : Nat} {w : World} (o1 : Own w base C a k.num) (o2 : Own w base D b k.den) (ap : ∀ a b, C = some a → D = some b → a.block ≠ b.block) :
    VarF w.heap.size base k C a D b (w.alloc (.cells #[.bool k.neg, .slice C k.num.length a, .slice D k.den.length b] 24)) :=
  ⟨by simp [go_sem], by simp [go_sem], by simp [go_sem], fun o => by simp [go_sem], o1.ext ((Ext.refl w).alloc _), o2.ext ((Ext.refl w).alloc _), ap,
    fun a ha e => by rw [ha] at o1; have := o1.block.2; omega, fun a ha e => by rw [ha] at o2; have := o2.block.2; omega⟩
theorem VarF.zero (w : World) (base : Nat) : VarF w.heap.size base Fr.zero none 0 none 0 (w.alloc (.cells #[.bool false, .slice none 0 0, .slice none 0 0] 24)) :=
  VarF.new (k := Fr.zero) (Own.nil w base) (Own.nil w base) (fun _ _ h => by cases h)
def NewP (w : World) (s : Bool) (xs ys : List Int) (e : Ending) (w' : World) : Prop :=
  ∃ A c B d, e = .returned (.agg #[.bool s, .slice A xs.length c, .slice B ys.length d]) ∧ Own w' w.heap.size A c xs ∧ Own w' w.heap.size B d ys ∧ (∀ a b, A = some a → B = some b → a.block ≠ b.block) ∧ Ext w w'
def TrimW (xs : List Int) : Prop := xs.length ≤ 8192 ∧ tl xs xs.length = xs.length
theorem trimW_wd (n : Nat) (h : (wd n).length ≤ 8192) : TrimW (wd n) := ⟨h, tl_wd n⟩
theorem trimW_ok {a : Fr} (wa : a.Wf) (h : fchk a = 0) : TrimW a.num ∧ TrimW a.den := by
  obtain ⟨q, rfl, lq⟩ := fchk_ok wa h
  have := not_lng lq
  exact ⟨trimW_wd _ (by omega), trimW_wd _ (by omega)⟩
abbrev Thr (w : World) (g : Nat) (a b c : Value) : Prop := w.cell? ⟨g, 0, none⟩ = some a ∧ w.cell? ⟨g, 1, none⟩ = some b ∧ w.cell? ⟨g, 2, none⟩ = some c
theorem thr_ext {w w' : World} {g : Nat} {a b c : Value} (x : Ext w w') (H : Thr w g a b c) : Thr w' g a b c := ⟨x.cell H.1, x.cell H.2.1, x.cell H.2.2⟩
theorem thr_drew {w : World} {g : Nat} {a b c : Value} (H : Thr w g a b c) : Thr w.drew g a b c := H
theorem thr_set {w : World} {g : Nat} {a b c : Value} {p : Addr} {u : Value} (H : Thr w g a b c) (h1 : p.block ≠ g) : Thr (w.setCell p u) g a b c :=
  have hg := grown_setCell w p u
  ⟨cell_keep hg H.1 (fun e => h1 (Option.some.inj e).symm), cell_keep hg H.2.1 (fun e => h1 (Option.some.inj e).symm), cell_keep hg H.2.2 (fun e => h1 (Option.some.inj e).symm)⟩
theorem cmp_eq_iff {m n : Nat} : cmp m n = 0 ↔ m = n := by unfold cmp; split <;> (try split) <;> omega
theorem compare_one (A : Option Addr) (g c : Nat) (w : World) (h : Rd w A c (wd g)) (b : Nat) (hb : Rd w (some ⟨b, 0, none⟩) 1 [1]) :
    Calls Tryz.prog 84 #[.slice A (wd g).length c, .slice (some ⟨b, 0, none⟩) 1 1] w fun e w' => e = .returned (.int .i64 (cmp g 1)) ∧ Ext w w' := by
  have h1 := compare_any A (some ⟨b, 0, none⟩) g 1 c 1 w h (by rw [wd_one]; exact hb)
  rw [show (wd 1).length = 1 by rw [wd_one]; rfl] at h1
  exact h1
set_option maxHeartbeats 2000000 in
theorem rcheck_any (s : Bool) (A B : Option Addr) (xs ys : List Int) (c d : Nat) (w : World) (ha : Rd w A c xs) (hb : Rd w B d ys) (hx : Wf xs) (hy : Wf ys) :
    Calls Tryz.prog 24 #[.agg #[.bool s, .slice A xs.length c, .slice B ys.length d]] w fun e w' => e = .returned (.int .i64 (fchk ⟨s, xs, ys⟩)) ∧ Ext w w' := by
  have hl := ha.lim
  have hly := hb.lim
  have HX := Lib.hid ((Ext.refl w).alloc (.cells #[.bool s, .slice A xs.length c, .slice B ys.length d] 24))
  have HA := Lib.hid (ha.ext HX.out)
  have HB := Lib.hid (hb.ext HX.out)
  clear ha hb
  by_cases h1 : 2048 < xs.length
  · have HE := Lib.hid (show fchk ⟨s, xs, ys⟩ = 3 from if_pos h1)
    rw [HE.out]
    go_enter Tryz.func24, Tryz.ntmps24
    go_wp2_with fail
    refine (long_any _ _ _ _ (by omega)).mono ?_; rintro e w' ⟨rfl, rfl⟩
    go_wp2_with fail
    go_ret
    exact ⟨rfl, HX.out⟩
  by_cases h2 : 2048 < ys.length
  · have HE := Lib.hid (show fchk ⟨s, xs, ys⟩ = 3 by unfold fchk; rw [if_neg h1, if_pos h2])
    rw [HE.out]
    go_enter Tryz.func24, Tryz.ntmps24
    go_wp2_with fail
    refine (long_any _ _ _ _ (by omega)).mono ?_; rintro e w' ⟨rfl, rfl⟩
    go_wp2_with fail
    refine (long_any _ _ _ _ (by omega)).mono ?_; rintro e w' ⟨rfl, rfl⟩
    go_wp2_with fail
    go_ret
    exact ⟨rfl, HX.out⟩
  by_cases h3 : chk xs ≠ 0
  · have HE := Lib.hid (show fchk ⟨s, xs, ys⟩ = 11 by unfold fchk; rw [if_neg h1, if_neg h2, if_pos h3])
    have hb1 : (chk xs != 0) = true := bne_iff_ne.2 h3
    rw [HE.out]
    clear h3
    go_enter Tryz.func24, Tryz.ntmps24
    go_wp2_with fail
    refine (long_any _ _ _ _ (by omega)).mono ?_; rintro e w' ⟨rfl, rfl⟩
    go_wp2_with fail
    refine (long_any _ _ _ _ (by omega)).mono ?_; rintro e w' ⟨rfl, rfl⟩
    go_wp2_with fail
    refine (check_any _ _ _ _ HA.out).mono ?_; rintro e w' ⟨rfl, rfl⟩
    go_wp2_with fail
    go_ret
    exact ⟨rfl, HX.out⟩
  have hb1 : (chk xs != 0) = false := bne_eq_false_iff_eq.2 (by simpa using h3)
  by_cases h4 : chk ys ≠ 0
  · have HE := Lib.hid (show fchk ⟨s, xs, ys⟩ = 11 by unfold fchk; rw [if_neg h1, if_neg h2, if_neg h3, if_pos h4])
    have hb2 : (chk ys != 0) = true := bne_iff_ne.2 h4
    rw [HE.out]
    clear h3 h4
    go_enter Tryz.func24, Tryz.ntmps24
    go_wp2_with fail
    refine (long_any _ _ _ _ (by omega)).mono ?_; rintro e w' ⟨rfl, rfl⟩
    go_wp2_with fail
    refine (long_any _ _ _ _ (by omega)).mono ?_; rintro e w' ⟨rfl, rfl⟩
    go_wp2_with fail
    refine (check_any _ _ _ _ HA.out).mono ?_; rintro e w' ⟨rfl, rfl⟩
    go_wp2_with fail
    refine (check_any _ _ _ _ HB.out).mono ?_; rintro e w' ⟨rfl, rfl⟩
    go_wp2_with fail
    go_ret
    exact ⟨rfl, HX.out⟩
  have hb2 : (chk ys != 0) = false := bne_eq_false_iff_eq.2 (by simpa using h4)
  by_cases h5 : ys.length = 0
  · have HE := Lib.hid (show fchk ⟨s, xs, ys⟩ = 11 by unfold fchk; rw [if_neg h1, if_neg h2, if_neg h3, if_neg h4, if_pos h5])
    have hb3 : ((ys.length : Int) == 0) = true := beq_iff_eq.2 (by omega)
    rw [HE.out]
    clear h3 h4 h5
    go_enter Tryz.func24, Tryz.ntmps24
    go_wp2_with fail
    refine (long_any _ _ _ _ (by omega)).mono ?_; rintro e w' ⟨rfl, rfl⟩
    go_wp2_with fail
    refine (long_any _ _ _ _ (by omega)).mono ?_; rintro e w' ⟨rfl, rfl⟩
    go_wp2_with fail
    refine (check_any _ _ _ _ HA.out).mono ?_; rintro e w' ⟨rfl, rfl⟩
    go_wp2_with fail
    refine (check_any _ _ _ _ HB.out).mono ?_; rintro e w' ⟨rfl, rfl⟩
    go_wp2_with fail
    go_ret
    exact ⟨rfl, HX.out⟩
  have hb3 : ((ys.length : Int) == 0) = false := beq_eq_false_iff_ne.2 (by omega)
  by_cases h6 : xs.length = 0 ∧ s = true
  · have HE := Lib.hid (show fchk ⟨s, xs, ys⟩ = 11 by unfold fchk; rw [if_neg h1, if_neg h2, if_neg h3, if_neg h4, if_neg h5, if_pos h6])
    have hb4 : ((xs.length : Int) == 0) = true := beq_iff_eq.2 (by omega)
    obtain rfl : s = true := h6.2
    rw [HE.out]
    clear h3 h4 h5 h6
    go_enter Tryz.func24, Tryz.ntmps24
    go_wp2_with fail
    refine (long_any _ _ _ _ (by omega)).mono ?_; rintro e w' ⟨rfl, rfl⟩
    go_wp2_with fail
    refine (long_any _ _ _ _ (by omega)).mono ?_; rintro e w' ⟨rfl, rfl⟩
    go_wp2_with fail
    refine (check_any _ _ _ _ HA.out).mono ?_; rintro e w' ⟨rfl, rfl⟩
    go_wp2_with fail
    refine (check_any _ _ _ _ HB.out).mono ?_; rintro e w' ⟨rfl, rfl⟩
    go_wp2_with fail
    go_ret
    exact ⟨rfl, HX.out⟩
  obtain ⟨ex, lx⟩ := chk_ok hx (by simpa using h3)
  obtain ⟨ey, ly⟩ := chk_ok hy (by simpa using h4)
  obtain ⟨m, hm⟩ : ∃ m, m = (val xs).toNat := ⟨_, rfl⟩
  obtain ⟨n, hn⟩ : ∃ n, n = (val ys).toNat := ⟨_, rfl⟩
  rw [← hm] at ex
  rw [← hn] at ey
  have HE : (Nat.gcd m n = 1 → fchk ⟨s, xs, ys⟩ = 0) ∧ (Nat.gcd m n ≠ 1 → fchk ⟨s, xs, ys⟩ = 11) := by
    unfold fchk
    rw [if_neg h1, if_neg h2, if_neg h3, if_neg h4, if_neg h5, if_neg h6, hm, hn]
    exact ⟨fun e => if_neg (fun h => h e), fun e => if_pos e⟩
  have hb4 : ((xs.length : Int) == 0) = false ∨ (((xs.length : Int) == 0) = true ∧ s = false) := by
    by_cases h : xs.length = 0
    · refine .inr ⟨beq_iff_eq.2 (by omega), ?_⟩
      cases s with
      | false => rfl
      | true => exact absurd ⟨h, rfl⟩ h6
    · exact .inl (beq_eq_false_iff_ne.2 (by omega))
  have HGC := Lib.hid (show ∀ wx, Rd wx A c xs → Rd wx B d ys → Calls Tryz.prog 87 #[.slice A xs.length c, .slice B ys.length d] wx (One wx (Nat.gcd m n)) from fun wx a b => by
    have := gcd_any A B m n c d wx (ex ▸ a) (ey ▸ b) (by rw [← ex]; omega) (by rw [← ey]; omega)
    rw [← ex, ← ey] at this
    exact this)
  obtain ⟨g, hg⟩ : ∃ g, g = Nat.gcd m n := ⟨_, rfl⟩
  rw [← hg] at HE HGC
  clear h3 h4 h5 h6 hm hn ex ey hg hx hy
  have HCM : Hid (cmp g 1 = 0 ↔ g = 1) := cmp_eq_iff
  by_cases hg1 : g = 1
  · have hcc : (cmp g 1 != 0) = false := bne_eq_false_iff_eq.2 (HCM.out.2 hg1)
    have HF := Lib.hid (show fchk ⟨s, xs, ys⟩ = 0 from HE.1 hg1)
    rw [HF.out]
    clear HE hg1
    rcases hb4 with hb4 | ⟨hb4, rfl⟩
    all_goals
      go_enter Tryz.func24, Tryz.ntmps24
      go_wp2_with fail
      refine (long_any _ _ _ _ (by omega)).mono ?_; rintro e w' ⟨rfl, rfl⟩
      go_wp2_with fail
      refine (long_any _ _ _ _ (by omega)).mono ?_; rintro e w' ⟨rfl, rfl⟩
      go_wp2_with fail
      refine (check_any _ _ _ _ HA.out).mono ?_; rintro e w' ⟨rfl, rfl⟩
      go_wp2_with fail
      refine (check_any _ _ _ _ HB.out).mono ?_; rintro e w' ⟨rfl, rfl⟩
      go_wp2_with fail
      refine (HGC.out _ HA.out HB.out).mono ?_; rintro e w1 ⟨A1, c1, rfl, k1, hx1⟩
      have H1 := Lib.hid k1
      have HX1 := Lib.hid (HX.out.trans hx1)
      clear k1 hx1
      go_wp2_with fail
      refine (compare_one _ _ _ _ (H1.out.rd.ext ((Ext.refl _).alloc _)) _ (Own.lit w1 _ [1] rfl (by decide)).rd).mono ?_; rintro e w2 ⟨rfl, hx2⟩
      have HX2 := Lib.hid ((HX1.out.alloc _).trans hx2)
      clear hx2
      go_wp2_with fail
      go_ret
      exact ⟨rfl, HX2.out⟩
  · have hcc : (cmp g 1 != 0) = true := bne_iff_ne.2 (fun e => hg1 (HCM.out.1 e))
    have HF := Lib.hid (show fchk ⟨s, xs, ys⟩ = 11 from HE.2 hg1)
    rw [HF.out]
    clear HE hg1
    rcases hb4 with hb4 | ⟨hb4, rfl⟩
    all_goals
      go_enter Tryz.func24, Tryz.ntmps24
      go_wp2_with fail
      refine (long_any _ _ _ _ (by omega)).mono ?_; rintro e w' ⟨rfl, rfl⟩
      go_wp2_with fail
      refine (long_any _ _ _ _ (by omega)).mono ?_; rintro e w' ⟨rfl, rfl⟩
      go_wp2_with fail
      refine (check_any _ _ _ _ HA.out).mono ?_; rintro e w' ⟨rfl, rfl⟩
      go_wp2_with fail
      refine (check_any _ _ _ _ HB.out).mono ?_; rintro e w' ⟨rfl, rfl⟩
      go_wp2_with fail
      refine (HGC.out _ HA.out HB.out).mono ?_; rintro e w1 ⟨A1, c1, rfl, k1, hx1⟩
      have H1 := Lib.hid k1
      have HX1 := Lib.hid (HX.out.trans hx1)
      clear k1 hx1
      go_wp2_with fail
      refine (compare_one _ _ _ _ (H1.out.rd.ext ((Ext.refl _).alloc _)) _ (Own.lit w1 _ [1] rfl (by decide)).rd).mono ?_; rintro e w2 ⟨rfl, hx2⟩
      have HX2 := Lib.hid ((HX1.out.alloc _).trans hx2)
      clear hx2
      go_wp2_with fail
      go_ret
      exact ⟨rfl, HX2.out⟩
abbrev Six (w : World) (h : Nat) (a b c d e f : Value) : Prop := w.cell? ⟨h, 0, none⟩ = some a ∧ w.cell? ⟨h, 1, none⟩ = some b ∧ w.cell? ⟨h, 2, none⟩ = some c ∧ w.cell? ⟨h + 1, 0, none⟩ = some d ∧ w.cell? ⟨h + 1, 1, none⟩ = some e ∧ w.cell? ⟨h + 1, 2, none⟩ = some f
theorem six_ext {w w' : World} {h : Nat} {a b c d e f : Value} (x : Ext w w') (H : Six w h a b c d e f) : Six w' h a b c d e f := ⟨x.cell H.1, x.cell H.2.1, x.cell H.2.2.1, x.cell H.2.2.2.1, x.cell H.2.2.2.2.1, x.cell H.2.2.2.2.2⟩
theorem six_drew {w : World} {h : Nat} {a b c d e f : Value} (H : Six w h a b c d e f) : Six w.drew h a b c d e f := H
theorem plus_cases (p q : Rat) : (decide (p.num < 0) = decide (q.num < 0) ∧ mkRat (sg (decide (p.num < 0)) (p.num.natAbs * q.den + q.num.natAbs * p.den)) (p.den * q.den) = p + q)
    ∨ (decide (p.num < 0) ≠ decide (q.num < 0) ∧ p.num.natAbs * q.den < q.num.natAbs * p.den ∧ mkRat (sg (decide (q.num < 0)) (q.num.natAbs * p.den - p.num.natAbs * q.den)) (p.den * q.den) = p + q)
    ∨ (decide (p.num < 0) ≠ decide (q.num < 0) ∧ q.num.natAbs * p.den ≤ p.num.natAbs * q.den ∧ mkRat (sg (decide (p.num < 0)) (p.num.natAbs * q.den - q.num.natAbs * p.den)) (p.den * q.den) = p + q) := by
  by_cases h : decide (p.num < 0) = decide (q.num < 0)
  · exact .inl ⟨h, add_same p q h⟩
  · rcases Nat.lt_or_ge (p.num.natAbs * q.den) (q.num.natAbs * p.den) with hl | hl
    · exact .inr (.inl ⟨h, hl, add_less p q h hl⟩)
    · exact .inr (.inr ⟨h, hl, add_more p q h hl⟩)
set_option maxRecDepth 4000 in
set_option maxHeartbeats 2000000 in
theorem plus_gen (s t : Bool) (A B C D : Option Addr) (a b a' b' : Nat) (c1 c2 c3 c4 : Nat) (w : World) (r : Rat) (ha : Rd w A c1 (wd a)) (hb : Rd w B c2 (wd b)) (hc : Rd w C c3 (wd a')) (hd : Rd w D c4 (wd b')) (hb0 : b ≠ 0) (hb0' : b' ≠ 0)
    (la : (wd a).length ≤ 2048) (lb : (wd b).length ≤ 2048) (la' : (wd a').length ≤ 2048) (lb' : (wd b').length ≤ 2048)
    (hr : (s = t ∧ mkRat (sg s (a * b' + a' * b)) (b * b') = r) ∨ (s ≠ t ∧ a * b' < a' * b ∧ mkRat (sg t (a' * b - a * b')) (b * b') = r) ∨ (s ≠ t ∧ a' * b ≤ a * b' ∧ mkRat (sg s (a * b' - a' * b)) (b * b') = r)) :
    Calls Tryz.prog 78 #[.agg #[.bool s, .slice A (wd a).length c1, .slice B (wd b).length c2], .agg #[.bool t, .slice C (wd a').length c3, .slice D (wd b').length c4]] w (RatP w (tell r)) := by
  have lX := wd_len_mul a b'
  have lY := wd_len_mul a' b
  have lZ := wd_len_mul b b'
  have hZ0 : b * b' ≠ 0 := Nat.mul_ne_zero hb0 hb0'
  obtain ⟨X, hX⟩ : ∃ X, X = a * b' := ⟨_, rfl⟩
  obtain ⟨Y, hY⟩ : ∃ Y, Y = a' * b := ⟨_, rfl⟩
  obtain ⟨Z, hZ⟩ : ∃ Z, Z = b * b' := ⟨_, rfl⟩
  have HT1 := Lib.hid (fun wx x1 x2 => times_any A D a b' c1 c4 wx x1 x2 (by omega))
  have HT2 := Lib.hid (fun wx x1 x2 => times_any C B a' b c3 c2 wx x1 x2 (by omega))
  have HT3 := Lib.hid (fun wx x1 x2 => times_any B D b b' c2 c4 wx x1 x2 (by omega))
  rw [← hX] at lX HT1
  rw [← hY] at lY HT2
  rw [← hZ] at lZ hZ0 HT3
  rw [← hX, ← hY, ← hZ] at hr
  have HR := Lib.hid hr
  have HA := Lib.hid ha
  have HB := Lib.hid hb
  have HC := Lib.hid hc
  have HD := Lib.hid hd
  clear hX hY hZ hr ha hb hc hd hb0 hb0'
  obtain ⟨tt, htt⟩ : ∃ tt, tt = tell r := ⟨_, rfl⟩
  have HT := Lib.hid htt.symm
  clear htt
  go_enter Tryz.func78, Tryz.ntmps78
  go_wp2_with fail
  have HX := Lib.hid ((((Ext.refl w).alloc (.cells #[.bool s, .slice A (wd a).length c1, .slice B (wd b).length c2] 24)).alloc (.cells #[.bool t, .slice C (wd a').length c3, .slice D (wd b').length c4] 24)).alloc (.cells #[.bool false, .slice none 0 0, .slice none 0 0] 24))
  obtain ⟨W, hW⟩ : ∃ W, W = (((w.alloc (.cells #[.bool s, .slice A (wd a).length c1, .slice B (wd b).length c2] 24)).alloc (.cells #[.bool t, .slice C (wd a').length c3, .slice D (wd b').length c4] 24)).alloc (.cells #[.bool false, .slice none 0 0, .slice none 0 0] 24)) := ⟨_, rfl⟩
  have F0 : Six W w.heap.size (.bool s) (.slice A (wd a).length c1) (.slice B (wd b).length c2) (.bool t) (.slice C (wd a').length c3) (.slice D (wd b').length c4) := by rw [hW]; refine ⟨?_, ?_, ?_, ?_, ?_, ?_⟩ <;> simp [go_sem]
  have R0 : W.cell? ⟨w.heap.size + 2, 0, none⟩ = some (.bool false) ∧ W.cell? ⟨w.heap.size + 2, 1, none⟩ = some (.slice none 0 0) ∧ W.cell? ⟨w.heap.size + 2, 2, none⟩ = some (.slice none 0 0) := by rw [hW]; refine ⟨?_, ?_, ?_⟩ <;> simp [go_sem]
  have Z0 : W.heap.size = w.heap.size + 3 := by rw [hW]; simp
  have RF : ∀ o, W.frozen? ⟨w.heap.size + 2, o, none⟩ = false := by intro o; rw [hW]; simp [go_sem]
  rw [← hW] at HX
  have HR0 := Lib.hid R0
  have HRF := Lib.hid RF
  have HZ0 := Lib.hid Z0
  try rw [← hW]
  clear hW R0 RF Z0
  go_region_held3 (fun w' => w'.cell? ⟨w.heap.size, 0, none⟩ = some (.bool s) ∧ w'.cell? ⟨w.heap.size, 1, none⟩ = some (.slice A (wd a).length c1) ∧ w'.cell? ⟨w.heap.size, 2, none⟩ = some (.slice B (wd b).length c2) ∧ w'.cell? ⟨w.heap.size + 1, 0, none⟩ = some (.bool t) ∧ w'.cell? ⟨w.heap.size + 1, 1, none⟩ = some (.slice C (wd a').length c3) ∧ w'.cell? ⟨w.heap.size + 1, 2, none⟩ = some (.slice D (wd b').length c4)) (repeat (first | (with_reducible exact F0) | (with_reducible exact F1) | (with_reducible exact F2) | (with_reducible exact F3) | (with_reducible refine six_drew ?_)))
    (first
      | (go_at_call 80; with_reducible refine (HT1.out _ (HA.out.ext HX.out.drew) (HD.out.ext HX.out.drew)).mono ?_; rintro e w1 ⟨A1, d1, rfl, k1, hx1⟩; have K1 := Lib.hid k1; have HX1 := Lib.hid hx1; have F1 := six_ext hx1 (six_drew F0); clear k1 hx1)
      | (go_at_call 80; with_reducible refine (HT2.out _ (HC.out.ext (HX.out.drew.trans HX1.out)) (HB.out.ext (HX.out.drew.trans HX1.out))).mono ?_; rintro e w2 ⟨A2, d2, rfl, k2, hx2⟩; have K2 := Lib.hid k2; have HX2 := Lib.hid hx2; have F2 := six_ext hx2 F1; clear k2 hx2)
      | (go_at_call 80; with_reducible refine (HT3.out _ (HB.out.ext ((HX.out.drew.trans HX1.out).trans HX2.out)) (HD.out.ext ((HX.out.drew.trans HX1.out).trans HX2.out))).mono ?_; rintro e w3 ⟨A3, d3, rfl, k3, hx3⟩; have K3 := Lib.hid k3; have HX3 := Lib.hid hx3; have F3 := six_ext hx3 F2; clear k3 hx3))
  all_goals
    have K1x := Lib.hid (K1.out.ext (HX2.out.trans HX3.out))
    have K2x := Lib.hid (K2.out.ext HX3.out)
    have HXa := Lib.hid (show Ext W w3 from (((Ext.refl W).drew.trans HX1.out).trans HX2.out).trans HX3.out)
    clear F0 F1 F2
    obtain ⟨u0, u1, u2, v0, v1, v2⟩ := id F3
    rcases HR.out with ⟨rfl, hr⟩ | ⟨hne, hlt, hr⟩ | ⟨hne, hle, hr⟩
    · have hst : (s == s) = true := beq_self_eq_true s
      go_wp2_with fail
      refine (add_any A1 A2 X Y d1 d2 _ K1x.out.rd K2x.out.rd (by omega) (by omega)).mono ?_
      rintro e w4 ⟨A4, d4, rfl, k4, hx4⟩
      have K4 := Lib.hid k4
      have HX4 := Lib.hid (HXa.out.trans hx4)
      obtain ⟨u0, u1, u2, v0, v1, v2⟩ := six_ext hx4 F3
      have KZ := Lib.hid (K3.out.ext hx4)
      clear k4 hx4 F3
      go_wp2_with fail
      refine (lowest_any s A4 A3 (X + Y) Z d4 d3 _ K4.out.rd KZ.out.rd hZ0 (by have := wd_len_add X Y; omega) (by omega)).mono ?_
      rw [hr, HT.out]
      rintro e w5 ⟨A5, d5, B5, e5, rfl, k5, k6, k7, hx5⟩
      have K5 := Lib.hid (k5.lower (show w.heap.size + 3 ≤ w4.heap.size by have := HX4.out.size; have := HZ0.out; omega))
      have K6 := Lib.hid (k6.lower (show w.heap.size + 3 ≤ w4.heap.size by have := HX4.out.size; have := HZ0.out; omega))
      have K7 := Lib.hid k7
      have HX5 := Lib.hid (HX4.out.trans hx5)
      have HXw := Lib.hid (HX.out.trans HX5.out)
      have r0 := HX5.out.cell HR0.out.1
      have r1 := HX5.out.cell HR0.out.2.1
      have r2 := HX5.out.cell HR0.out.2.2
      have f0 := (HX5.out.frozen HR0.out.1).trans (HRF.out 0)
      have f1 := (HX5.out.frozen HR0.out.2.1).trans (HRF.out 1)
      have f2 := (HX5.out.frozen HR0.out.2.2).trans (HRF.out 2)
      clear k5 k6 k7 hx5 u0 u1 u2 v0 v1 v2
      go_wp2_with fail
      exact bodyPost_ret (v := .tuple #[.agg #[.bool tt.1.neg, .slice A5 tt.1.num.length d5, .slice B5 tt.1.den.length e5], .int .i64 tt.2]) (by simp [results, Tryz.results78, go_sem, r0, r1, r2]) rfl (RatP.mk HT.out rfl (by refine Own.lower ?_ (show w.heap.size ≤ w.heap.size + 3 by omega); repeat (first | (with_reducible exact K5.out) | refine Own.setBelow ?_ (by simp; try omega) _)) (by refine Own.lower ?_ (show w.heap.size ≤ w.heap.size + 3 by omega); repeat (first | (with_reducible exact K6.out) | refine Own.setBelow ?_ (by simp; try omega) _)) K7.out (by repeat (first | (with_reducible exact HXw.out) | refine Ext.setCell ?_ (by simp; try omega) _)))
    · have hst : (s == t) = false := beq_eq_false_iff_ne.2 hne
      have hc : cmp X Y < 0 := cmp_lt_iff.2 hlt
      go_wp2_with fail
      refine (compare_any A1 A2 X Y _ _ _ (K1x.out.rd) (K2x.out.rd)).mono ?_; rintro e wc ⟨rfl, hxc⟩
      have K1x := Lib.hid (K1x.out.ext hxc)
      have K2x := Lib.hid (K2x.out.ext hxc)
      have K3 := Lib.hid (K3.out.ext hxc)
      have HXa := Lib.hid (HXa.out.trans hxc)
      have F3 := six_ext hxc F3
      clear hxc
      go_wp2_with fail
      refine (sub_any A2 A1 Y X d2 d1 _ K2x.out.rd K1x.out.rd (by omega) (by omega)).mono ?_
      rintro e w4 ⟨A4, d4, rfl, k4, hx4⟩
      have K4 := Lib.hid k4
      have HX4 := Lib.hid (HXa.out.trans hx4)
      obtain ⟨u0, u1, u2, v0, v1, v2⟩ := six_ext hx4 F3
      have KZ := Lib.hid (K3.out.ext hx4)
      clear k4 hx4 F3
      go_wp2_with fail
      refine (lowest_any t A4 A3 (Y - X) Z d4 d3 _ K4.out.rd KZ.out.rd hZ0 (by have := wd_len_mono (Nat.sub_le Y X); omega) (by omega)).mono ?_
      rw [hr, HT.out]
      rintro e w5 ⟨A5, d5, B5, e5, rfl, k5, k6, k7, hx5⟩
      have K5 := Lib.hid (k5.lower (show w.heap.size + 3 ≤ w4.heap.size by have := HX4.out.size; have := HZ0.out; omega))
      have K6 := Lib.hid (k6.lower (show w.heap.size + 3 ≤ w4.heap.size by have := HX4.out.size; have := HZ0.out; omega))
      have K7 := Lib.hid k7
      have HX5 := Lib.hid (HX4.out.trans hx5)
      have HXw := Lib.hid (HX.out.trans HX5.out)
      have r0 := HX5.out.cell HR0.out.1
      have r1 := HX5.out.cell HR0.out.2.1
      have r2 := HX5.out.cell HR0.out.2.2
      have f0 := (HX5.out.frozen HR0.out.1).trans (HRF.out 0)
      have f1 := (HX5.out.frozen HR0.out.2.1).trans (HRF.out 1)
      have f2 := (HX5.out.frozen HR0.out.2.2).trans (HRF.out 2)
      clear k5 k6 k7 hx5 u0 u1 u2 v0 v1 v2
      go_wp2_with fail
      exact bodyPost_ret (v := .tuple #[.agg #[.bool tt.1.neg, .slice A5 tt.1.num.length d5, .slice B5 tt.1.den.length e5], .int .i64 tt.2]) (by simp [results, Tryz.results78, go_sem, r0, r1, r2]) rfl (RatP.mk HT.out rfl (by refine Own.lower ?_ (show w.heap.size ≤ w.heap.size + 3 by omega); repeat (first | (with_reducible exact K5.out) | refine Own.setBelow ?_ (by simp; try omega) _)) (by refine Own.lower ?_ (show w.heap.size ≤ w.heap.size + 3 by omega); repeat (first | (with_reducible exact K6.out) | refine Own.setBelow ?_ (by simp; try omega) _)) K7.out (by repeat (first | (with_reducible exact HXw.out) | refine Ext.setCell ?_ (by simp; try omega) _)))
    · have hst : (s == t) = false := beq_eq_false_iff_ne.2 hne
      have hc : ¬ cmp X Y < 0 := fun h => by have := cmp_lt_iff.1 h; omega
      go_wp2_with fail
      refine (compare_any A1 A2 X Y _ _ _ (K1x.out.rd) (K2x.out.rd)).mono ?_; rintro e wc ⟨rfl, hxc⟩
      have K1x := Lib.hid (K1x.out.ext hxc)
      have K2x := Lib.hid (K2x.out.ext hxc)
      have K3 := Lib.hid (K3.out.ext hxc)
      have HXa := Lib.hid (HXa.out.trans hxc)
      have F3 := six_ext hxc F3
      clear hxc
      go_wp2_with fail
      refine (sub_any A1 A2 X Y d1 d2 _ K1x.out.rd K2x.out.rd (by omega) (by omega)).mono ?_
      rintro e w4 ⟨A4, d4, rfl, k4, hx4⟩
      have K4 := Lib.hid k4
      have HX4 := Lib.hid (HXa.out.trans hx4)
      obtain ⟨u0, u1, u2, v0, v1, v2⟩ := six_ext hx4 F3
      have KZ := Lib.hid (K3.out.ext hx4)
      clear k4 hx4 F3
      go_wp2_with fail
      refine (lowest_any s A4 A3 (X - Y) Z d4 d3 _ K4.out.rd KZ.out.rd hZ0 (by have := wd_len_mono (Nat.sub_le X Y); omega) (by omega)).mono ?_
      rw [hr, HT.out]
      rintro e w5 ⟨A5, d5, B5, e5, rfl, k5, k6, k7, hx5⟩
      have K5 := Lib.hid (k5.lower (show w.heap.size + 3 ≤ w4.heap.size by have := HX4.out.size; have := HZ0.out; omega))
      have K6 := Lib.hid (k6.lower (show w.heap.size + 3 ≤ w4.heap.size by have := HX4.out.size; have := HZ0.out; omega))
      have K7 := Lib.hid k7
      have HX5 := Lib.hid (HX4.out.trans hx5)
      have HXw := Lib.hid (HX.out.trans HX5.out)
      have r0 := HX5.out.cell HR0.out.1
      have r1 := HX5.out.cell HR0.out.2.1
      have r2 := HX5.out.cell HR0.out.2.2
      have f0 := (HX5.out.frozen HR0.out.1).trans (HRF.out 0)
      have f1 := (HX5.out.frozen HR0.out.2.1).trans (HRF.out 1)
      have f2 := (HX5.out.frozen HR0.out.2.2).trans (HRF.out 2)
      clear k5 k6 k7 hx5 u0 u1 u2 v0 v1 v2
      go_wp2_with fail
      exact bodyPost_ret (v := .tuple #[.agg #[.bool tt.1.neg, .slice A5 tt.1.num.length d5, .slice B5 tt.1.den.length e5], .int .i64 tt.2]) (by simp [results, Tryz.results78, go_sem, r0, r1, r2]) rfl (RatP.mk HT.out rfl (by refine Own.lower ?_ (show w.heap.size ≤ w.heap.size + 3 by omega); repeat (first | (with_reducible exact K5.out) | refine Own.setBelow ?_ (by simp; try omega) _)) (by refine Own.lower ?_ (show w.heap.size ≤ w.heap.size + 3 by omega); repeat (first | (with_reducible exact K6.out) | refine Own.setBelow ?_ (by simp; try omega) _)) K7.out (by repeat (first | (with_reducible exact HXw.out) | refine Ext.setCell ?_ (by simp; try omega) _)))
theorem plus_fr (a b : Fr) (A B C D : Option Addr) (c1 c2 c3 c4 : Nat) (w : World) (ha : Rd w A c1 a.num) (hb : Rd w B c2 a.den) (hc : Rd w C c3 b.num) (hd : Rd w D c4 b.den) (wa : a.Wf) (wb : b.Wf) (h : fchk a = 0) (k : fchk b = 0) (r : Rat) (hr : a.q + b.q = r) :
    Calls Tryz.prog 78 #[.agg #[.bool a.neg, .slice A a.num.length c1, .slice B a.den.length c2], .agg #[.bool b.neg, .slice C b.num.length c3, .slice D b.den.length c4]] w (RatP w (tell r)) := by
  obtain ⟨p, rfl, lp⟩ := fchk_ok wa h
  obtain ⟨q, rfl, lq⟩ := fchk_ok wb k
  rw [dec_enc, dec_enc] at hr
  subst hr
  have h1 := not_lng lp
  have h2 := not_lng lq
  exact plus_gen (decide (p.num < 0)) (decide (q.num < 0)) A B C D p.num.natAbs p.den q.num.natAbs q.den c1 c2 c3 c4 w (p + q) ha hb hc hd p.den_nz q.den_nz h1.1 h1.2 h2.1 h2.2 (plus_cases p q)
theorem rcheck_fr (a : Fr) (A B : Option Addr) (c d : Nat) (w : World) (ha : Rd w A c a.num) (hb : Rd w B d a.den) (wa : a.Wf) :
    Calls Tryz.prog 24 #[.agg #[.bool a.neg, .slice A a.num.length c, .slice B a.den.length d]] w fun e w' => e = .returned (.int .i64 (fchk a)) ∧ Ext w w' :=
  rcheck_any a.neg A B a.num a.den c d w ha hb wa.num wa.den
theorem fchk2_zero {a b : Fr} (h : fchk2 a b = 0) : fchk a = 0 ∧ fchk b = 0 := by
  unfold fchk2 at h
  by_cases h1 : fchk a ≠ 0
  · rw [if_pos h1] at h; exact absurd h h1
  · rw [if_neg h1] at h; exact ⟨by simpa using h1, h⟩
theorem both_good {a b : Fr} {r} (h : fchk2 a b = 0) : both a b r = r a.q b.q := by
  obtain ⟨h1, h2⟩ := fchk2_zero h
  unfold both
  rw [if_neg (by omega), if_neg (by omega)]
set_option maxHeartbeats 1000000 in
theorem checks_any (a b : Fr) (A B C D : Option Addr) (c1 c2 c3 c4 : Nat) (w : World) (ha : Rd w A c1 a.num) (hb : Rd w B c2 a.den) (hc : Rd w C c3 b.num) (hd : Rd w D c4 b.den) (wa : a.Wf) (wb : b.Wf) :
    Calls Tryz.prog 77 #[.agg #[.bool a.neg, .slice A a.num.length c1, .slice B a.den.length c2], .agg #[.bool b.neg, .slice C b.num.length c3, .slice D b.den.length c4]] w fun e w' => e = .returned (.int .i64 (fchk2 a b)) ∧ Ext w w' := by
  have HA := Lib.hid ha
  have HB := Lib.hid hb
  have HC := Lib.hid hc
  have HD := Lib.hid hd
  clear ha hb hc hd
  have HX := Lib.hid (((Ext.refl w).alloc (.cells #[.bool a.neg, .slice A a.num.length c1, .slice B a.den.length c2] 24)).alloc (.cells #[.bool b.neg, .slice C b.num.length c3, .slice D b.den.length c4] 24))
  by_cases h1 : fchk a ≠ 0
  · have HE := Lib.hid (show fchk2 a b = fchk a from if_pos h1)
    have hb1 : (fchk a != 0) = true := bne_iff_ne.2 h1
    rw [HE.out]
    clear h1
    go_enter Tryz.func77, Tryz.ntmps77
    go_wp2_with fail
    refine (rcheck_fr a A B c1 c2 _ (HA.out.ext HX.out) (HB.out.ext HX.out) wa).mono ?_; rintro e w1 ⟨rfl, hx1⟩
    have HX1 := Lib.hid (HX.out.trans hx1)
    clear hx1
    go_wp2_with fail
    go_ret
    exact ⟨rfl, HX1.out⟩
  · have HE := Lib.hid (show fchk2 a b = fchk b from if_neg h1)
    have hb1 : (fchk a != 0) = false := bne_eq_false_iff_eq.2 (by simpa using h1)
    rw [HE.out]
    clear h1
    go_enter Tryz.func77, Tryz.ntmps77
    go_wp2_with fail
    refine (rcheck_fr a A B c1 c2 _ (HA.out.ext HX.out) (HB.out.ext HX.out) wa).mono ?_; rintro e w1 ⟨rfl, hx1⟩
    obtain ⟨hc, hf⟩ := bcell hx1
    have HX1 := Lib.hid (HX.out.trans hx1)
    clear hx1
    go_wp2_with fail
    refine (rcheck_fr b C D c3 c4 _ (HC.out.ext HX1.out) (HD.out.ext HX1.out) wb).mono ?_; rintro e w2 ⟨rfl, hx2⟩
    have HX2 := Lib.hid (HX1.out.trans hx2)
    clear hx2 hc hf
    go_wp2_with fail
    go_ret
    exact ⟨rfl, HX2.out⟩
set_option maxRecDepth 4000 in
set_option maxHeartbeats 2000000 in
theorem add_fr (a b : Fr) (A B C D : Option Addr) (c1 c2 c3 c4 : Nat) (w : World) (ha : Rd w A c1 a.num) (hb : Rd w B c2 a.den) (hc : Rd w C c3 b.num) (hd : Rd w D c4 b.den) (wa : a.Wf) (wb : b.Wf) :
    Calls Tryz.prog 15 #[.agg #[.bool a.neg, .slice A a.num.length c1, .slice B a.den.length c2], .agg #[.bool b.neg, .slice C b.num.length c3, .slice D b.den.length c4]] w (RatP w (fadd a b)) := by
  have HA := Lib.hid ha
  have HB := Lib.hid hb
  have HC := Lib.hid hc
  have HD := Lib.hid hd
  clear ha hb hc hd
  by_cases hk : fchk2 a b ≠ 0
  · have HT := Lib.hid (show fadd a b = (Fr.zero, fchk2 a b) from both_bad hk)
    have hb1 : (fchk2 a b != 0) = true := bne_iff_ne.2 hk
    clear hk
    go_enter Tryz.func15, Tryz.ntmps15
    go_wp2_with fail
    obtain ⟨W, hW⟩ : ∃ W, W = ((w.alloc (.cells #[.bool a.neg, .slice A a.num.length c1, .slice B a.den.length c2] 24)).alloc (.cells #[.bool b.neg, .slice C b.num.length c3, .slice D b.den.length c4] 24)).alloc (.cells #[.bool false, .slice none 0 0, .slice none 0 0] 24) := ⟨_, rfl⟩
    have F0 : Six W w.heap.size (.bool a.neg) (.slice A a.num.length c1) (.slice B a.den.length c2) (.bool b.neg) (.slice C b.num.length c3) (.slice D b.den.length c4) := by rw [hW]; refine ⟨?_, ?_, ?_, ?_, ?_, ?_⟩ <;> simp [go_sem]
    have HX : Hid (Ext w W) := by rw [hW]; exact (((Ext.refl w).alloc _).alloc _).alloc _
    have HV : Hid (VarF (w.heap.size + 2) W.heap.size Fr.zero none 0 none 0 W) := by
      have h1 := VarF.zero ((w.alloc (.cells #[.bool a.neg, .slice A a.num.length c1, .slice B a.den.length c2] 24)).alloc (.cells #[.bool b.neg, .slice C b.num.length c3, .slice D b.den.length c4] 24)) W.heap.size
      rw [← hW] at h1
      unfold Hid
      simpa using h1
    have HZ := Lib.hid (show W.heap.size = w.heap.size + 3 by rw [hW]; simp)
    try rw [← hW]
    clear hW
    refine (checks_any a b A B C D c1 c2 c3 c4 W (HA.out.ext HX.out) (HB.out.ext HX.out) (HC.out.ext HX.out) (HD.out.ext HX.out) wa wb).mono ?_; rintro e w1 ⟨rfl, hx1⟩
    have F1 := six_ext hx1 F0
    have HX1 := Lib.hid (HX.out.trans hx1)
    have HV1 := Lib.hid (HV.out.ext hx1)
    have HZ1 := Lib.hid (show w.heap.size + 3 ≤ w1.heap.size by have := hx1.size; have := HZ.out; omega)
    clear hx1 F0 HX HV
    have r0 := HV1.out.c0
    have s0 := HV1.out.fr 0
    have r1 := HV1.out.c1
    have s1 := HV1.out.fr 1
    have r2 := HV1.out.c2
    have s2 := HV1.out.fr 2
    clear F1
    go_wp2_with fail
    exact bodyPost_ret (v := .tuple #[.agg #[.bool false, .slice none 0 0, .slice none 0 0], .int .i64 (fchk2 a b)]) (by simp [results, Tryz.results15, go_sem, r0, r1, r2]) rfl (RatP.nil HT.out rfl (by repeat (first | (with_reducible exact HX1.out) | refine Ext.setCell ?_ (by simp; try omega) _)))
  have h0 : fchk2 a b = 0 := by simpa using hk
  have hb1 : (fchk2 a b != 0) = false := bne_eq_false_iff_eq.2 h0
  obtain ⟨k1, k2⟩ := fchk2_zero h0
  obtain ⟨t, ht⟩ : ∃ t, t = tell (a.q + b.q) := ⟨_, rfl⟩
  have HT := Lib.hid (show fadd a b = t by rw [ht]; exact both_good h0)
  have HP := Lib.hid (fun wx (hx : Ext w wx) => plus_fr a b A B C D c1 c2 c3 c4 wx (HA.out.ext hx) (HB.out.ext hx) (HC.out.ext hx) (HD.out.ext hx) wa wb k1 k2 _ rfl)
  rw [← ht] at HP
  clear ht hk k1 k2 h0
  go_enter Tryz.func15, Tryz.ntmps15
  go_wp2_with fail
  obtain ⟨W, hW⟩ : ∃ W, W = ((w.alloc (.cells #[.bool a.neg, .slice A a.num.length c1, .slice B a.den.length c2] 24)).alloc (.cells #[.bool b.neg, .slice C b.num.length c3, .slice D b.den.length c4] 24)).alloc (.cells #[.bool false, .slice none 0 0, .slice none 0 0] 24) := ⟨_, rfl⟩
  have F0 : Six W w.heap.size (.bool a.neg) (.slice A a.num.length c1) (.slice B a.den.length c2) (.bool b.neg) (.slice C b.num.length c3) (.slice D b.den.length c4) := by rw [hW]; refine ⟨?_, ?_, ?_, ?_, ?_, ?_⟩ <;> simp [go_sem]
  have HX : Hid (Ext w W) := by rw [hW]; exact (((Ext.refl w).alloc _).alloc _).alloc _
  have HV : Hid (VarF (w.heap.size + 2) W.heap.size Fr.zero none 0 none 0 W) := by
    have h1 := VarF.zero ((w.alloc (.cells #[.bool a.neg, .slice A a.num.length c1, .slice B a.den.length c2] 24)).alloc (.cells #[.bool b.neg, .slice C b.num.length c3, .slice D b.den.length c4] 24)) W.heap.size
    rw [← hW] at h1
    unfold Hid
    simpa using h1
  have HZ := Lib.hid (show W.heap.size = w.heap.size + 3 by rw [hW]; simp)
  try rw [← hW]
  clear hW
  refine (checks_any a b A B C D c1 c2 c3 c4 W (HA.out.ext HX.out) (HB.out.ext HX.out) (HC.out.ext HX.out) (HD.out.ext HX.out) wa wb).mono ?_; rintro e w1 ⟨rfl, hx1⟩
  have F1 := six_ext hx1 F0
  have HX1 := Lib.hid (HX.out.trans hx1)
  have HV1 := Lib.hid (HV.out.ext hx1)
  have HZ1 := Lib.hid (show w.heap.size + 3 ≤ w1.heap.size by have := hx1.size; have := HZ.out; omega)
  clear hx1 F0 HX HV
  obtain ⟨u0, u1, u2, v0, v1, v2⟩ := F1
  go_wp2_with fail
  clear u0 u1 u2 v0 v1 v2
  refine (HP.out _ HX1.out).mono ?_; rintro e w9 ⟨A9, c9, B9, d9, rfl, o1, o2, ap, hx⟩
  have hzz := HZ1.out
  have O1 := Lib.hid (o1.lower (show w.heap.size + 3 ≤ w1.heap.size by omega))
  have O2 := Lib.hid (o2.lower (show w.heap.size + 3 ≤ w1.heap.size by omega))
  have AP := Lib.hid ap
  have HX9 := Lib.hid (HX1.out.trans hx)
  have HV9 := Lib.hid (HV1.out.ext hx)
  have r0 := HV9.out.c0
  have s0 := HV9.out.fr 0
  have r1 := HV9.out.c1
  have s1 := HV9.out.fr 1
  have r2 := HV9.out.c2
  have s2 := HV9.out.fr 2
  clear o1 o2 ap hx
  go_wp2_with fail
  exact bodyPost_ret (v := .tuple #[.agg #[.bool t.1.neg, .slice A9 t.1.num.length c9, .slice B9 t.1.den.length d9], .int .i64 t.2]) (by simp [results, Tryz.results15, go_sem, r0, r1, r2]) rfl (RatP.mk HT.out rfl (by refine Own.lower ?_ (show w.heap.size ≤ w.heap.size + 3 by omega); repeat (first | (with_reducible exact O1.out) | refine Own.setBelow ?_ (by simp; try omega) _)) (by refine Own.lower ?_ (show w.heap.size ≤ w.heap.size + 3 by omega); repeat (first | (with_reducible exact O2.out) | refine Own.setBelow ?_ (by simp; try omega) _)) AP.out (by repeat (first | (with_reducible exact HX9.out) | refine Ext.setCell ?_ (by simp; try omega) _)))
end Go.Proofs.YtjoonfegjobgbaaGreatDoor
