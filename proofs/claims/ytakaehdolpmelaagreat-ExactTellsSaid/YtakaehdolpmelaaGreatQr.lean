/- Texts of this claim, joined: G14 G15 G16 G17 G18 G19 G20 G9s Y3. -/
import Derived.Test.YtakaehdolpmelaaGreatQq
set_option linter.unusedVariables false
set_option linter.unusedSimpArgs false
set_option maxRecDepth 100000
namespace Go.Proofs.YtakaehdolpmelaaGreat
open Go Go.RowKit
theorem trim_chk {xs : List Int} (h : xs.length ≤ 8192) : decide (¬ (xs ≠ [] ∧ nth xs (xs.length - 1) = 0)) = decide (chk xs = 0) := by
  unfold chk
  rw [if_neg (by omega)]
  by_cases h1 : xs ≠ [] ∧ nth xs (xs.length - 1) = 0
  · rw [if_pos h1, decide_eq_false (fun h => h h1), decide_eq_false (by omega)]
  · rw [if_neg h1, decide_eq_true h1]; rfl
set_option maxHeartbeats 2000000 in
theorem gcheck3_any (s : Bool) (A B : Option Addr) (xs ys : List Int) (c d : Nat) (w : World) (ha : Rd w A c xs) (hb : Rd w B d ys) (hx : Wf xs) (hy : Wf ys) :
    Calls Tryz.prog 108 #[.agg #[.bool s, .slice A xs.length c, .slice B ys.length d]] w fun e w' => e = .returned (.int .i64 (fchk ⟨s, xs, ys⟩)) ∧ Ext w w' := by
  have hl := ha.lim
  have hly := hb.lim
  have HX := Lib.hid ((Ext.refl w).alloc (.cells #[.bool s, .slice A xs.length c, .slice B ys.length d] 26))
  have HA := Lib.hid (ha.ext HX.out)
  have HB := Lib.hid (hb.ext HX.out)
  clear ha hb
  by_cases h1 : 2048 < xs.length
  · have HE := Lib.hid (show fchk ⟨s, xs, ys⟩ = 3 from if_pos h1)
    rw [HE.out]
    go_enter Tryz.func108, Tryz.ntmps108
    go_wp2_with fail
    go_ret
    exact ⟨rfl, HX.out⟩
  by_cases h2 : 2048 < ys.length
  · have HE := Lib.hid (show fchk ⟨s, xs, ys⟩ = 3 by unfold fchk; rw [if_neg h1, if_pos h2])
    rw [HE.out]
    go_enter Tryz.func108, Tryz.ntmps108
    go_wp2_with fail
    go_ret
    exact ⟨rfl, HX.out⟩
  have HTA := Lib.hid (fun b (hb : decide (chk xs = 0) = b) => gtrimmed_any A xs c xs.length b _ HA.out rfl (by rw [trim_chk (by omega), hb]))
  have HTB := Lib.hid (fun b (hb : decide (chk ys = 0) = b) => gtrimmed_any B ys d ys.length b _ HB.out rfl (by rw [trim_chk (by omega), hb]))
  by_cases h3 : chk xs ≠ 0
  · have HE := Lib.hid (show fchk ⟨s, xs, ys⟩ = 11 by unfold fchk; rw [if_neg h1, if_neg h2, if_pos h3])
    have HFA := Lib.hid (HTA.out false (decide_eq_false h3))
    rw [HE.out]
    clear h3
    go_enter Tryz.func108, Tryz.ntmps108
    go_wp2_with fail
    refine HFA.out.mono ?_; rintro e w' ⟨rfl, rfl⟩
    go_wp2_with fail
    go_ret
    exact ⟨rfl, HX.out⟩
  have HFA := Lib.hid (HTA.out true (decide_eq_true (by simpa using h3)))
  by_cases h4 : chk ys ≠ 0
  · have HE := Lib.hid (show fchk ⟨s, xs, ys⟩ = 11 by unfold fchk; rw [if_neg h1, if_neg h2, if_neg h3, if_pos h4])
    have HFB := Lib.hid (HTB.out false (decide_eq_false h4))
    rw [HE.out]
    clear h3 h4
    go_enter Tryz.func108, Tryz.ntmps108
    go_wp2_with fail
    refine HFA.out.mono ?_; rintro e w' ⟨rfl, rfl⟩
    go_wp2_with fail
    refine HFB.out.mono ?_; rintro e w' ⟨rfl, rfl⟩
    go_wp2_with fail
    go_ret
    exact ⟨rfl, HX.out⟩
  have HFB := Lib.hid (HTB.out true (decide_eq_true (by simpa using h4)))
  by_cases h5 : ys.length = 0
  · have HE := Lib.hid (show fchk ⟨s, xs, ys⟩ = 11 by unfold fchk; rw [if_neg h1, if_neg h2, if_neg h3, if_neg h4, if_pos h5])
    have hb3 : ((ys.length : Int) == 0) = true := beq_iff_eq.2 (by omega)
    rw [HE.out]
    clear h3 h4 h5
    go_enter Tryz.func108, Tryz.ntmps108
    go_wp2_with fail
    refine HFA.out.mono ?_; rintro e w' ⟨rfl, rfl⟩
    go_wp2_with fail
    refine HFB.out.mono ?_; rintro e w' ⟨rfl, rfl⟩
    go_wp2_with fail
    go_ret
    exact ⟨rfl, HX.out⟩
  have hb3 : ((ys.length : Int) == 0) = false := beq_eq_false_iff_ne.2 (by omega)
  by_cases h6 : xs.length = 0 ∧ s = true
  · have HE := Lib.hid (show fchk ⟨s, xs, ys⟩ = 11 by unfold fchk; rw [if_neg h1, if_neg h2, if_neg h3, if_neg h4, if_neg h5, if_pos h6])
    have hb4 : ((xs.length : Int) == 0) = true := beq_iff_eq.2 (by omega)
    obtain rfl : s = true := h6.2
    rw [HE.out]
    clear h3 h4 h5 h6
    go_enter Tryz.func108, Tryz.ntmps108
    go_wp2_with fail
    refine HFA.out.mono ?_; rintro e w' ⟨rfl, rfl⟩
    go_wp2_with fail
    refine HFB.out.mono ?_; rintro e w' ⟨rfl, rfl⟩
    go_wp2_with fail
    go_ret
    exact ⟨rfl, HX.out⟩
  obtain ⟨ex, lx⟩ := chk_ok hx (by simpa using h3)
  obtain ⟨ey, ly⟩ := chk_ok hy (by simpa using h4)
  obtain ⟨m, hm⟩ : ∃ m, m = (val xs).toNat := ⟨_, rfl⟩
  obtain ⟨n, hn⟩ : ∃ n, n = (val ys).toNat := ⟨_, rfl⟩
  rw [← hm] at ex
  rw [← hn] at ey
  have HE : (Nat.gcd m n = 1 → fchk ⟨s, xs, ys⟩ = 0) ∧ (Nat.gcd m n ≠ 1 → fchk ⟨s, xs, ys⟩ = 11) := by
    unfold fchk
    rw [if_neg h1, if_neg h2, if_neg h3, if_neg h4, if_neg h5, if_neg h6, hm, hn]
    exact ⟨fun e => if_neg (fun h => h e), fun e => if_pos e⟩
  have hb4 : ((xs.length : Int) == 0) = false ∨ (((xs.length : Int) == 0) = true ∧ s = false) := by
    by_cases h : xs.length = 0
    · refine .inr ⟨beq_iff_eq.2 (by omega), ?_⟩
      cases s with
      | false => rfl
      | true => exact absurd ⟨h, rfl⟩ h6
    · exact .inl (beq_eq_false_iff_ne.2 (by omega))
  have HGC := Lib.hid (show ∀ wx, Rd wx A c xs → Rd wx B d ys → Calls Tryz.prog 153 #[.slice A xs.length c, .slice B ys.length d] wx (One wx (Nat.gcd m n)) from fun wx a b => by
    have := ggcd_any A B m n c d wx (ex ▸ a) (ey ▸ b) (by rw [← ex]; omega) (by rw [← ey]; omega) (by have h0 : n ≠ 0 := fun e => h5 (by rw [ey, e, wd_zero]; rfl); have := wd_len_mono (Nat.gcd_le_right m (show 0 < n by omega)); rw [← ey] at this; omega)
    rw [← ex, ← ey] at this
    exact this)
  obtain ⟨g, hg⟩ : ∃ g, g = Nat.gcd m n := ⟨_, rfl⟩
  rw [← hg] at HE HGC
  clear h3 h4 h5 h6 hm hn ex ey hg hx hy
  by_cases hg1 : g = 1
  · have HDD := Lib.hid (show decide (wd g = wd 1) = true by rw [hg1]; exact decide_eq_true rfl)
    have HF := Lib.hid (show fchk ⟨s, xs, ys⟩ = 0 from HE.1 hg1)
    rw [HF.out]
    clear HE hg1
    rcases hb4 with hb4 | ⟨hb4, rfl⟩
    all_goals
      go_enter Tryz.func108, Tryz.ntmps108
      go_wp2_with fail
      refine HFA.out.mono ?_; rintro e w' ⟨rfl, rfl⟩
      go_wp2_with fail
      refine HFB.out.mono ?_; rintro e w' ⟨rfl, rfl⟩
      go_wp2_with fail
      refine (HGC.out _ HA.out HB.out).mono ?_; rintro e w1 ⟨A1, c1, rfl, k1, hx1⟩
      have H1 := Lib.hid k1
      have HX1 := Lib.hid (HX.out.trans hx1)
      clear k1 hx1
      go_wp2_with fail
      refine (gone_any _).mono ?_; rintro e w2 ⟨A2, c2, rfl, k2, hx2⟩
      have H2 := Lib.hid k2
      have H1 := Lib.hid (H1.out.ext hx2)
      have HX2 := Lib.hid (HX1.out.trans hx2)
      clear k2 hx2
      go_wp2_with fail
      refine (gsame_any A1 A2 (wd g) (wd 1) c1 c2 _ _ H1.out.rd H2.out.rd rfl _ rfl _ HDD.out).mono ?_; rintro e w3 ⟨rfl, hq⟩
      have HX3 := Lib.hid (HX2.out.trans hq.ext)
      clear hq
      go_wp2_with fail
      go_ret
      exact ⟨rfl, HX3.out⟩
  · have HDD := Lib.hid (show decide (wd g = wd 1) = false from decide_eq_false (fun e => hg1 (wd_inj e)))
    have HF := Lib.hid (show fchk ⟨s, xs, ys⟩ = 11 from HE.2 hg1)
    rw [HF.out]
    clear HE hg1
    rcases hb4 with hb4 | ⟨hb4, rfl⟩
    all_goals
      go_enter Tryz.func108, Tryz.ntmps108
      go_wp2_with fail
      refine HFA.out.mono ?_; rintro e w' ⟨rfl, rfl⟩
      go_wp2_with fail
      refine HFB.out.mono ?_; rintro e w' ⟨rfl, rfl⟩
      go_wp2_with fail
      refine (HGC.out _ HA.out HB.out).mono ?_; rintro e w1 ⟨A1, c1, rfl, k1, hx1⟩
      have H1 := Lib.hid k1
      have HX1 := Lib.hid (HX.out.trans hx1)
      clear k1 hx1
      go_wp2_with fail
      refine (gone_any _).mono ?_; rintro e w2 ⟨A2, c2, rfl, k2, hx2⟩
      have H2 := Lib.hid k2
      have H1 := Lib.hid (H1.out.ext hx2)
      have HX2 := Lib.hid (HX1.out.trans hx2)
      clear k2 hx2
      go_wp2_with fail
      refine (gsame_any A1 A2 (wd g) (wd 1) c1 c2 _ _ H1.out.rd H2.out.rd rfl _ rfl _ HDD.out).mono ?_; rintro e w3 ⟨rfl, hq⟩
      have HX3 := Lib.hid (HX2.out.trans hq.ext)
      clear hq
      go_wp2_with fail
      go_ret
      exact ⟨rfl, HX3.out⟩
theorem gadd_fr (a b : Fr) (A B C D : Option Addr) (c1 c2 c3 c4 : Nat) (w : World) (ha : Rd w A c1 a.num) (hb : Rd w B c2 a.den) (hc : Rd w C c3 b.num) (hd : Rd w D c4 b.den) (wa : a.Wf) (wb : b.Wf) (h : fchk a = 0) (k : fchk b = 0) (r : Rat) (hr : a.q + b.q = r) :
    Calls Tryz.prog 140 #[.agg #[.bool a.neg, .slice A a.num.length c1, .slice B a.den.length c2], .agg #[.bool b.neg, .slice C b.num.length c3, .slice D b.den.length c4]] w (RatP w (tell r)) := by
  obtain ⟨p, rfl, lp⟩ := fchk_ok wa h
  obtain ⟨q, rfl, lq⟩ := fchk_ok wb k
  rw [dec_enc, dec_enc] at hr
  subst hr
  have h1 := not_lng lp
  have h2 := not_lng lq
  exact gadd_gen (decide (p.num < 0)) (decide (q.num < 0)) A B C D p.num.natAbs p.den q.num.natAbs q.den c1 c2 c3 c4 w (p + q) ha hb hc hd p.den_nz q.den_nz h1.1 h1.2 h2.1 h2.2 (gplus_made p q)
theorem gcheck_fr (a : Fr) (A B : Option Addr) (c d : Nat) (w : World) (ha : Rd w A c a.num) (hb : Rd w B d a.den) (wa : a.Wf) :
    Calls Tryz.prog 108 #[.agg #[.bool a.neg, .slice A a.num.length c, .slice B a.den.length d]] w fun e w' => e = .returned (.int .i64 (fchk a)) ∧ Ext w w' :=
  gcheck3_any a.neg A B a.num a.den c d w ha hb wa.num wa.den
set_option maxHeartbeats 1000000 in
theorem gboth_fr (a b : Fr) (A B C D : Option Addr) (c1 c2 c3 c4 : Nat) (w : World) (ha : Rd w A c1 a.num) (hb : Rd w B c2 a.den) (hc : Rd w C c3 b.num) (hd : Rd w D c4 b.den) (wa : a.Wf) (wb : b.Wf) :
    Calls Tryz.prog 124 #[.agg #[.bool a.neg, .slice A a.num.length c1, .slice B a.den.length c2], .agg #[.bool b.neg, .slice C b.num.length c3, .slice D b.den.length c4]] w fun e w' => e = .returned (.int .i64 (fchk2 a b)) ∧ Ext w w' := by
  have HA := Lib.hid ha
  have HB := Lib.hid hb
  have HC := Lib.hid hc
  have HD := Lib.hid hd
  clear ha hb hc hd
  have HX := Lib.hid (((Ext.refl w).alloc (.cells #[.bool a.neg, .slice A a.num.length c1, .slice B a.den.length c2] 26)).alloc (.cells #[.bool b.neg, .slice C b.num.length c3, .slice D b.den.length c4] 26))
  by_cases h1 : fchk a ≠ 0
  · have HE := Lib.hid (show fchk2 a b = fchk a from if_pos h1)
    have hb1 : (fchk a == 0) = false := beq_eq_false_iff_ne.2 h1
    rw [HE.out]
    clear h1
    go_enter Tryz.func124, Tryz.ntmps124
    go_wp2_with fail
    refine (gcheck_fr a A B c1 c2 _ (HA.out.ext HX.out) (HB.out.ext HX.out) wa).mono ?_; rintro e w1 ⟨rfl, hx1⟩
    have HX1 := Lib.hid (HX.out.trans hx1)
    clear hx1
    go_wp2_with fail
    go_ret
    exact ⟨rfl, HX1.out⟩
  · have HE := Lib.hid (show fchk2 a b = fchk b from if_neg h1)
    have hb1 : (fchk a == 0) = true := beq_iff_eq.2 (by simpa using h1)
    rw [HE.out]
    clear h1
    go_enter Tryz.func124, Tryz.ntmps124
    go_wp2_with fail
    refine (gcheck_fr a A B c1 c2 _ (HA.out.ext HX.out) (HB.out.ext HX.out) wa).mono ?_; rintro e w1 ⟨rfl, hx1⟩
    obtain ⟨hc, hf⟩ := bcell hx1
    have HX1 := Lib.hid (HX.out.trans hx1)
    clear hx1
    go_wp2_with fail
    refine (gcheck_fr b C D c3 c4 _ (HC.out.ext HX1.out) (HD.out.ext HX1.out) wb).mono ?_; rintro e w2 ⟨rfl, hx2⟩
    have HX2 := Lib.hid (HX1.out.trans hx2)
    clear hx2 hc hf
    go_wp2_with fail
    go_ret
    exact ⟨rfl, HX2.out⟩
theorem gcopied_any (A : Option Addr) (xs : List Int) (c : Nat) (w : World) (h : Rd w A c xs) (hm : xs.length ≤ 2048) :
    Calls Tryz.prog 222 #[.slice A xs.length c] w fun e w' => ∃ A' c', e = .returned (.slice A' xs.length c') ∧ Own w' w.heap.size A' c' xs ∧ Ext w w' := by
  have H := Lib.hid h
  clear h
  go_enter Tryz.func222, Tryz.ntmps222
  go_wp2_with (at_builtin; refine wpList_app rfl _ _ rfl w.heap.size none 0 [] 0 rfl rfl (Own.nil _ _) _ _ xs xs.length rfl rfl H.out (by omega) (Nat.le_refl _) ?_; intro A' c' w1 hO hg)
  have HO := Lib.hid hO
  have HX : Hid (Ext w w1) := (Ext.refl w).grown hg (fun k hk => by cases hk)
  clear hO hg
  go_wp2_with fail
  go_ret
  exact ⟨A', c', by simp, HO.out, HX.out⟩
set_option maxRecDepth 4000 in
set_option maxHeartbeats 4000000 in
theorem gopposite_raw (s : Bool) (xs ys : List Int) (A B : Option Addr) (c1 c2 : Nat) (w : World) (ha : Rd w A c1 xs) (hb : Rd w B c2 ys) (hm : xs.length ≤ 2048 ∧ ys.length ≤ 2048) :
    Calls Tryz.prog 201 #[.agg #[.bool s, .slice A xs.length c1, .slice B ys.length c2]] w (NewP w (!s && decide (0 < xs.length)) xs ys) := by
  have HA := Lib.hid ha
  have HB := Lib.hid hb
  clear ha hb
  have HT1 := Lib.hid (fun wx (hx : Ext w wx) => gcopied_any A xs c1 wx (HA.out.ext hx) hm.1)
  have HT2 := Lib.hid (fun wx (hx : Ext w wx) => gcopied_any B ys c2 wx (HB.out.ext hx) hm.2)
  clear hm
  cases s with
  | true =>
    rw [show (!true && decide (0 < xs.length)) = false from rfl]
    go_enter Tryz.func201, Tryz.ntmps201
    go_wp2_with fail
    obtain ⟨W, hW⟩ : ∃ W, W = (w.alloc (.cells #[.bool true, .slice A xs.length c1, .slice B ys.length c2] 26)).alloc (.cells #[.bool false, .slice none 0 0, .slice none 0 0] 26) := ⟨_, rfl⟩
    have F0 : Thr W w.heap.size (.bool true) (.slice A xs.length c1) (.slice B ys.length c2) := by rw [hW]; refine ⟨?_, ?_, ?_⟩ <;> simp [go_sem]
    have HX : Hid (Ext w W) := by rw [hW]; exact ((Ext.refl w).alloc _).alloc _
    have HV : Hid (VarF (w.heap.size + 1) W.heap.size Fr.zero none 0 none 0 W) := by
      have h1 := VarF.zero (w.alloc (.cells #[.bool true, .slice A xs.length c1, .slice B ys.length c2] 26)) W.heap.size
      rw [← hW] at h1
      unfold Hid
      simpa using h1
    have HZ := Lib.hid (show W.heap.size = w.heap.size + 2 by rw [hW]; simp)
    try rw [← hW]
    clear hW
    have hzz := HZ.out
    refine wp_region_noPanic ?_
    refine wp_region_held_drew (S := (fun w' => w'.cell? ⟨w.heap.size, 0, none⟩ = some (.bool true) ∧ w'.cell? ⟨w.heap.size, 1, none⟩ = some (.slice A xs.length c1) ∧ w'.cell? ⟨w.heap.size, 2, none⟩ = some (.slice B ys.length c2))) (by kernel_rfl) (thr_drew F0) (fun hHeld => ?_)
    refine wpAnyH_take (i := 0) (v := ?_) rfl (by kernel_rfl) (by kernel_rfl) (by kernel_rfl) (fun _ _ _ h => h) (Or.inl ⟨by rfl, ?_⟩) (by assumption) ?_
    rotate_left
    · intro w hSw
      (try dsimp only at hSw)
      go_simp
      (try with_reducible rfl)
    try simp only [Act.put, List.setIfInBounds_toArray, List.set_cons_zero, List.set_cons_succ]
    refine wpAnyH_take (i := 1) (v := ?_) rfl (by kernel_rfl) (by kernel_rfl) (by kernel_rfl) (fun _ _ _ h => h) (Or.inl ⟨by rfl, ?_⟩) (by assumption) ?_
    rotate_left
    · intro w hSw
      (try dsimp only at hSw)
      go_simp
      (try with_reducible rfl)
    try simp only [Act.put, List.setIfInBounds_toArray, List.set_cons_zero, List.set_cons_succ]
    refine wpAnyH_take (i := 2) (v := ?_) rfl (by kernel_rfl) (by kernel_rfl) (by kernel_rfl) (fun _ _ _ h => h) (Or.inl ⟨by rfl, ?_⟩) (by assumption) ?_
    rotate_left
    · intro w hSw
      (try dsimp only at hSw)
      go_simp
      (try with_reducible rfl)
    try simp only [Act.put, List.setIfInBounds_toArray, List.set_cons_zero, List.set_cons_succ]
    refine wpAnyH_take (i := 3) (v := ?_) rfl (by kernel_rfl) (by kernel_rfl) (by kernel_rfl) (fun _ _ _ h => h) (Or.inl ⟨by rfl, ?_⟩) (by assumption) ?_
    rotate_left
    · intro w hSw
      (try dsimp only at hSw)
      go_simp
      (try with_reducible rfl)
    try simp only [Act.put, List.setIfInBounds_toArray, List.set_cons_zero, List.set_cons_succ]
    refine wpAnyH_take (i := 4) (v := undef) rfl (by kernel_rfl) (by kernel_rfl) (by kernel_rfl) (fun _ _ _ h => h) (Or.inr ⟨by rfl, rfl⟩) (by assumption) ?_
    try simp only [Act.put, List.setIfInBounds_toArray, List.set_cons_zero, List.set_cons_succ]
    refine wpAnyH_take (i := 5) (v := undef) rfl (by kernel_rfl) (by kernel_rfl) (by kernel_rfl) (fun _ _ _ h => h) (Or.inr ⟨by rfl, rfl⟩) (by assumption) ?_
    try simp only [Act.put, List.setIfInBounds_toArray, List.set_cons_zero, List.set_cons_succ]
    refine wpAnyH_take (i := 6) (v := undef) rfl (by kernel_rfl) (by kernel_rfl) (by kernel_rfl) (fun _ _ _ h => h) (Or.inr ⟨by rfl, rfl⟩) (by assumption) ?_
    try simp only [Act.put, List.setIfInBounds_toArray, List.set_cons_zero, List.set_cons_succ]
    refine wpAnyH_take (i := 7) (v := undef) rfl (by kernel_rfl) (by kernel_rfl) (by kernel_rfl) (fun _ _ _ h => h) (Or.inr ⟨by rfl, rfl⟩) (by assumption) ?_
    try simp only [Act.put, List.setIfInBounds_toArray, List.set_cons_zero, List.set_cons_succ]
    refine wpAnyH_take (i := 8) (v := ?_) rfl (by kernel_rfl) (by kernel_rfl) (by kernel_rfl) (fun _ _ _ h => h) (Or.inl ⟨by rfl, ?_⟩) (by assumption) ?_
    rotate_left
    · intro w hSw
      (try dsimp only at hSw)
      go_simp
      (try with_reducible rfl)
    try simp only [Act.put, List.setIfInBounds_toArray, List.set_cons_zero, List.set_cons_succ]
    refine wpAnyH_take (i := 9) (v := ?_) rfl (by kernel_rfl) (by kernel_rfl) (by kernel_rfl) (fun _ _ _ h => h) (Or.inl ⟨by rfl, ?_⟩) (by assumption) ?_
    rotate_left
    · intro w hSw
      (try dsimp only at hSw)
      go_simp
      (try with_reducible rfl)
    try simp only [Act.put, List.setIfInBounds_toArray, List.set_cons_zero, List.set_cons_succ]
    refine wpAnyH_take (i := 10) (v := ?_) rfl (by kernel_rfl) (by kernel_rfl) (by kernel_rfl) (fun _ _ _ h => h) (Or.inl ⟨by rfl, ?_⟩) (by assumption) ?_
    rotate_left
    · intro w hSw
      (try dsimp only at hSw)
      go_simp
      (try with_reducible rfl)
    try simp only [Act.put, List.setIfInBounds_toArray, List.set_cons_zero, List.set_cons_succ]
    refine wpAnyH_take (i := 12) (v := ?_) rfl (by kernel_rfl) (by kernel_rfl) (by kernel_rfl) (fun _ _ _ h => h) (Or.inl ⟨by rfl, ?_⟩) (by assumption) ?_
    rotate_left
    · intro w hSw
      (try dsimp only at hSw)
      go_simp
      (try with_reducible rfl)
    try simp only [Act.put, List.setIfInBounds_toArray, List.set_cons_zero, List.set_cons_succ]
    refine wpAnyH_take (i := 13) (v := ?_) rfl (by kernel_rfl) (by kernel_rfl) (by kernel_rfl) (fun _ _ _ h => h) (Or.inl ⟨by rfl, ?_⟩) (by assumption) ?_
    rotate_left
    · intro w hSw
      (try dsimp only at hSw)
      go_simp
      (try with_reducible rfl)
    try simp only [Act.put, List.setIfInBounds_toArray, List.set_cons_zero, List.set_cons_succ]
    refine wpAnyH_ready (rs := [11]) (by kernel_rfl) (by simp) ?_
    refine AllReadyH.cons rfl (fun K hK => ?_) AllReadyH.nil
    go_simp
    refine (HT1.out _ HX.out.drew).mono ?_; rintro e w2 ⟨A5, c5, rfl, p1, hx2⟩
    have P1 := Lib.hid p1
    have HX2 := Lib.hid hx2
    have F1 := thr_ext hx2 (thr_drew F0)
    clear p1 hx2
    refine hK.out _ _ F1 (fun hHeld => ?_)
    clear hK K
    try simp only [Act.put, List.setIfInBounds_toArray, List.set_cons_zero, List.set_cons_succ]
    refine wpAnyH_ready (rs := [14]) (by kernel_rfl) (by simp) ?_
    refine AllReadyH.cons rfl (fun K hK => ?_) AllReadyH.nil
    go_simp
    refine (HT2.out _ (HX.out.drew.trans HX2.out)).mono ?_; rintro e w3 ⟨A6, c6, rfl, p1, hx3⟩
    have P2 := Lib.hid p1
    have HX3 := Lib.hid hx3
    have F2 := thr_ext hx3 F1
    have HV9 := HV.out.ext (((Ext.refl _).drew.trans HX2.out).trans hx3)
    have r0 := HV9.c0
    have s0 := HV9.fr 0
    have r1 := HV9.c1
    have s1 := HV9.fr 1
    have r2 := HV9.c2
    have s2 := HV9.fr 2
    clear p1 hx3 HV9
    refine hK.out _ _ F2 (fun hHeld => ?_)
    clear hK K
    try simp only [Act.put, List.setIfInBounds_toArray, List.set_cons_zero, List.set_cons_succ]
    refine wpAnyH_take (i := 15) (v := ?_) rfl (by kernel_rfl) (by kernel_rfl) (by kernel_rfl) (fun _ _ _ h => h) (Or.inl ⟨by rfl, ?_⟩) (by assumption) ?_
    rotate_left
    · intro w hSw
      (try dsimp only at hSw)
      go_simp
      (try with_reducible rfl)
    try simp only [Act.put, List.setIfInBounds_toArray, List.set_cons_zero, List.set_cons_succ]
    refine wpAnyH_ready (rs := [16]) (by kernel_rfl) (by simp) ?_
    refine AllReadyH.cons rfl (fun K hK => ?_) AllReadyH.nil
    go_simp
    refine hK.out _ _ ?_ (fun hHeld => ?_)
    · repeat (first | (with_reducible exact F2) | (with_reducible refine thr_set ?_ (by simp only; omega)))
    clear hK K
    try simp only [Act.put, List.setIfInBounds_toArray, List.set_cons_zero, List.set_cons_succ]
    refine wpAnyH_done (by kernel_rfl) ?_ _
    refine NoPanic.normal ?_
    all_goals
      have hy := HX2.out.size
      simp only [World.size_drew] at hy
      have HAp := Lib.hid (P1.out.apart P2.out (Nat.le_refl _))
      have O1 := Lib.hid ((P1.out.ext HX3.out).lower (show w.heap.size + 2 ≤ W.drew.heap.size by simp only [World.size_drew]; omega))
      have O2 := Lib.hid (P2.out.lower (show w.heap.size + 2 ≤ w2.heap.size by omega))
      have HX9 := Lib.hid ((HX.out.drew.trans HX2.out).trans HX3.out)
      go_wp2_with fail
      exact bodyPost_ret (v := .agg #[.bool false, .slice A5 xs.length c5, .slice A6 ys.length c6]) (by simp [results, Tryz.results201, go_sem, r0, r1, r2]) rfl ⟨A5, c5, A6, c6, rfl, (by refine Own.lower ?_ (show w.heap.size ≤ w.heap.size + 2 by omega); repeat (first | (with_reducible exact O1.out) | refine Own.setBelow ?_ (by simp; try omega) _)), (by refine Own.lower ?_ (show w.heap.size ≤ w.heap.size + 2 by omega); repeat (first | (with_reducible exact O2.out) | refine Own.setBelow ?_ (by simp; try omega) _)), HAp.out, (by repeat (first | (with_reducible exact HX9.out) | refine Ext.setCell ?_ (by simp; try omega) _))⟩
  | false =>
    by_cases h1 : 0 < xs.length
    · rw [show (!false && decide (0 < xs.length)) = true by rw [decide_eq_true h1]; rfl]
      go_enter Tryz.func201, Tryz.ntmps201
      go_wp2_with fail
      obtain ⟨W, hW⟩ : ∃ W, W = (w.alloc (.cells #[.bool false, .slice A xs.length c1, .slice B ys.length c2] 26)).alloc (.cells #[.bool false, .slice none 0 0, .slice none 0 0] 26) := ⟨_, rfl⟩
      have F0 : Thr W w.heap.size (.bool false) (.slice A xs.length c1) (.slice B ys.length c2) := by rw [hW]; refine ⟨?_, ?_, ?_⟩ <;> simp [go_sem]
      have HX : Hid (Ext w W) := by rw [hW]; exact ((Ext.refl w).alloc _).alloc _
      have HV : Hid (VarF (w.heap.size + 1) W.heap.size Fr.zero none 0 none 0 W) := by
        have h1 := VarF.zero (w.alloc (.cells #[.bool false, .slice A xs.length c1, .slice B ys.length c2] 26)) W.heap.size
        rw [← hW] at h1
        unfold Hid
        simpa using h1
      have HZ := Lib.hid (show W.heap.size = w.heap.size + 2 by rw [hW]; simp)
      try rw [← hW]
      clear hW
      have hzz := HZ.out
      go_region_held3 (fun w' => w'.cell? ⟨w.heap.size, 0, none⟩ = some (.bool false) ∧ w'.cell? ⟨w.heap.size, 1, none⟩ = some (.slice A xs.length c1) ∧ w'.cell? ⟨w.heap.size, 2, none⟩ = some (.slice B ys.length c2)) (repeat (first | (with_reducible exact F0) | (with_reducible exact F1) | (with_reducible exact F2) | (with_reducible refine thr_drew ?_) | (with_reducible refine thr_set ?_ (by simp only; omega))))
        (first
          | (go_at_call 222; ((with_reducible refine (HT1.out _ HX.out.drew).mono ?_)); rintro e w2 ⟨A5, c5, rfl, p1, hx2⟩; have P1 := Lib.hid p1; have HX2 := Lib.hid hx2; have F1 := thr_ext hx2 (thr_drew F0); clear p1 hx2)
          | (go_at_call 222; ((with_reducible refine (HT2.out _ (HX.out.drew.trans HX2.out)).mono ?_)); rintro e w3 ⟨A6, c6, rfl, p1, hx3⟩; have P2 := Lib.hid p1; have HX3 := Lib.hid hx3; have F2 := thr_ext hx3 F1; have HV9 := HV.out.ext (((Ext.refl _).drew.trans HX2.out).trans hx3); have r0 := HV9.c0; have s0 := HV9.fr 0; have r1 := HV9.c1; have s1 := HV9.fr 1; have r2 := HV9.c2; have s2 := HV9.fr 2; clear p1 hx3 HV9))
      all_goals
        have hy := HX2.out.size
        simp only [World.size_drew] at hy
        have HAp := Lib.hid (P1.out.apart P2.out (Nat.le_refl _))
        have O1 := Lib.hid ((P1.out.ext HX3.out).lower (show w.heap.size + 2 ≤ W.drew.heap.size by simp only [World.size_drew]; omega))
        have O2 := Lib.hid (P2.out.lower (show w.heap.size + 2 ≤ w2.heap.size by omega))
        have HX9 := Lib.hid ((HX.out.drew.trans HX2.out).trans HX3.out)
        go_wp2_with fail
        exact bodyPost_ret (v := .agg #[.bool true, .slice A5 xs.length c5, .slice A6 ys.length c6]) (by simp [results, Tryz.results201, go_sem, r0, r1, r2]) rfl ⟨A5, c5, A6, c6, rfl, (by refine Own.lower ?_ (show w.heap.size ≤ w.heap.size + 2 by omega); repeat (first | (with_reducible exact O1.out) | refine Own.setBelow ?_ (by simp; try omega) _)), (by refine Own.lower ?_ (show w.heap.size ≤ w.heap.size + 2 by omega); repeat (first | (with_reducible exact O2.out) | refine Own.setBelow ?_ (by simp; try omega) _)), HAp.out, (by repeat (first | (with_reducible exact HX9.out) | refine Ext.setCell ?_ (by simp; try omega) _))⟩
    · rw [show (!false && decide (0 < xs.length)) = false by rw [decide_eq_false h1]; rfl]
      go_enter Tryz.func201, Tryz.ntmps201
      go_wp2_with fail
      obtain ⟨W, hW⟩ : ∃ W, W = (w.alloc (.cells #[.bool false, .slice A xs.length c1, .slice B ys.length c2] 26)).alloc (.cells #[.bool false, .slice none 0 0, .slice none 0 0] 26) := ⟨_, rfl⟩
      have F0 : Thr W w.heap.size (.bool false) (.slice A xs.length c1) (.slice B ys.length c2) := by rw [hW]; refine ⟨?_, ?_, ?_⟩ <;> simp [go_sem]
      have HX : Hid (Ext w W) := by rw [hW]; exact ((Ext.refl w).alloc _).alloc _
      have HV : Hid (VarF (w.heap.size + 1) W.heap.size Fr.zero none 0 none 0 W) := by
        have h1 := VarF.zero (w.alloc (.cells #[.bool false, .slice A xs.length c1, .slice B ys.length c2] 26)) W.heap.size
        rw [← hW] at h1
        unfold Hid
        simpa using h1
      have HZ := Lib.hid (show W.heap.size = w.heap.size + 2 by rw [hW]; simp)
      try rw [← hW]
      clear hW
      have hzz := HZ.out
      go_region_held3 (fun w' => w'.cell? ⟨w.heap.size, 0, none⟩ = some (.bool false) ∧ w'.cell? ⟨w.heap.size, 1, none⟩ = some (.slice A xs.length c1) ∧ w'.cell? ⟨w.heap.size, 2, none⟩ = some (.slice B ys.length c2)) (repeat (first | (with_reducible exact F0) | (with_reducible exact F1) | (with_reducible exact F2) | (with_reducible refine thr_drew ?_) | (with_reducible refine thr_set ?_ (by simp only; omega))))
        (first
          | (go_at_call 222; ((with_reducible refine (HT1.out _ HX.out.drew).mono ?_)); rintro e w2 ⟨A5, c5, rfl, p1, hx2⟩; have P1 := Lib.hid p1; have HX2 := Lib.hid hx2; have F1 := thr_ext hx2 (thr_drew F0); clear p1 hx2)
          | (go_at_call 222; ((with_reducible refine (HT2.out _ (HX.out.drew.trans HX2.out)).mono ?_)); rintro e w3 ⟨A6, c6, rfl, p1, hx3⟩; have P2 := Lib.hid p1; have HX3 := Lib.hid hx3; have F2 := thr_ext hx3 F1; have HV9 := HV.out.ext (((Ext.refl _).drew.trans HX2.out).trans hx3); have r0 := HV9.c0; have s0 := HV9.fr 0; have r1 := HV9.c1; have s1 := HV9.fr 1; have r2 := HV9.c2; have s2 := HV9.fr 2; clear p1 hx3 HV9))
      all_goals
        have hy := HX2.out.size
        simp only [World.size_drew] at hy
        have HAp := Lib.hid (P1.out.apart P2.out (Nat.le_refl _))
        have O1 := Lib.hid ((P1.out.ext HX3.out).lower (show w.heap.size + 2 ≤ W.drew.heap.size by simp only [World.size_drew]; omega))
        have O2 := Lib.hid (P2.out.lower (show w.heap.size + 2 ≤ w2.heap.size by omega))
        have HX9 := Lib.hid ((HX.out.drew.trans HX2.out).trans HX3.out)
        go_wp2_with fail
        exact bodyPost_ret (v := .agg #[.bool false, .slice A5 xs.length c5, .slice A6 ys.length c6]) (by simp [results, Tryz.results201, go_sem, r0, r1, r2]) rfl ⟨A5, c5, A6, c6, rfl, (by refine Own.lower ?_ (show w.heap.size ≤ w.heap.size + 2 by omega); repeat (first | (with_reducible exact O1.out) | refine Own.setBelow ?_ (by simp; try omega) _)), (by refine Own.lower ?_ (show w.heap.size ≤ w.heap.size + 2 by omega); repeat (first | (with_reducible exact O2.out) | refine Own.setBelow ?_ (by simp; try omega) _)), HAp.out, (by repeat (first | (with_reducible exact HX9.out) | refine Ext.setCell ?_ (by simp; try omega) _))⟩
theorem gopposite_any (a : Fr) (A B : Option Addr) (c1 c2 : Nat) (w : World) (ha : Rd w A c1 a.num) (hb : Rd w B c2 a.den) (hm : a.num.length ≤ 2048 ∧ a.den.length ≤ 2048) :
    Calls Tryz.prog 201 #[.agg #[.bool a.neg, .slice A a.num.length c1, .slice B a.den.length c2]] w (NewP w (fturn a).neg a.num a.den) :=
  gopposite_raw a.neg a.num a.den A B c1 c2 w ha hb hm
theorem gopposite_rd (b : Fr) (C D : Option Addr) (c3 c4 : Nat) (w : World) (hc : Rd w C c3 b.num) (hd : Rd w D c4 b.den) (hm : b.num.length ≤ 2048 ∧ b.den.length ≤ 2048) :
    Calls Tryz.prog 201 #[.agg #[.bool b.neg, .slice C b.num.length c3, .slice D b.den.length c4]] w fun e w' => ∃ C' c' D' d', e = .returned (.agg #[.bool (fturn b).neg, .slice C' b.num.length c', .slice D' b.den.length d']) ∧ Rd w' C' c' b.num ∧ Rd w' D' d' b.den ∧ Ext w w' :=
  (gopposite_any b C D c3 c4 w hc hd hm).mono fun _ _ ⟨C', c', D', d', h1, h2, h3, _, h4⟩ => ⟨C', c', D', d', h1, h2.rd, h3.rd, h4⟩
set_option maxRecDepth 4000 in
set_option maxHeartbeats 2000000 in
theorem gaddF_fr (a b : Fr) (A B C D : Option Addr) (c1 c2 c3 c4 : Nat) (w : World) (ha : Rd w A c1 a.num) (hb : Rd w B c2 a.den) (hc : Rd w C c3 b.num) (hd : Rd w D c4 b.den) (wa : a.Wf) (wb : b.Wf) :
    Calls Tryz.prog 98 #[.agg #[.bool a.neg, .slice A a.num.length c1, .slice B a.den.length c2], .agg #[.bool b.neg, .slice C b.num.length c3, .slice D b.den.length c4]] w (RatP w (fadd a b)) := by
  have HA := Lib.hid ha
  have HB := Lib.hid hb
  have HC := Lib.hid hc
  have HD := Lib.hid hd
  clear ha hb hc hd
  by_cases hk : fchk2 a b ≠ 0
  · have HT := Lib.hid (show fadd a b = (Fr.zero, fchk2 a b) from both_bad hk)
    have hb1 : (fchk2 a b != 0) = true := bne_iff_ne.2 hk
    clear hk
    go_enter Tryz.func98, Tryz.ntmps98
    go_wp2_with fail
    obtain ⟨W, hW⟩ : ∃ W, W = ((w.alloc (.cells #[.bool a.neg, .slice A a.num.length c1, .slice B a.den.length c2] 26)).alloc (.cells #[.bool b.neg, .slice C b.num.length c3, .slice D b.den.length c4] 26)).alloc (.cells #[.bool false, .slice none 0 0, .slice none 0 0] 26) := ⟨_, rfl⟩
    have F0 : Six W w.heap.size (.bool a.neg) (.slice A a.num.length c1) (.slice B a.den.length c2) (.bool b.neg) (.slice C b.num.length c3) (.slice D b.den.length c4) := by rw [hW]; refine ⟨?_, ?_, ?_, ?_, ?_, ?_⟩ <;> simp [go_sem]
    have HX : Hid (Ext w W) := by rw [hW]; exact (((Ext.refl w).alloc _).alloc _).alloc _
    have HV : Hid (VarF (w.heap.size + 2) W.heap.size Fr.zero none 0 none 0 W) := by
      have h1 := VarF.zero ((w.alloc (.cells #[.bool a.neg, .slice A a.num.length c1, .slice B a.den.length c2] 26)).alloc (.cells #[.bool b.neg, .slice C b.num.length c3, .slice D b.den.length c4] 26)) W.heap.size
      rw [← hW] at h1
      unfold Hid
      simpa using h1
    have HZ := Lib.hid (show W.heap.size = w.heap.size + 3 by rw [hW]; simp)
    try rw [← hW]
    clear hW
    refine (gboth_fr a b A B C D c1 c2 c3 c4 W (HA.out.ext HX.out) (HB.out.ext HX.out) (HC.out.ext HX.out) (HD.out.ext HX.out) wa wb).mono ?_; rintro e w1 ⟨rfl, hx1⟩
    have F1 := six_ext hx1 F0
    have HX1 := Lib.hid (HX.out.trans hx1)
    have HV1 := Lib.hid (HV.out.ext hx1)
    have HZ1 := Lib.hid (show w.heap.size + 3 ≤ w1.heap.size by have := hx1.size; have := HZ.out; omega)
    clear hx1 F0 HX HV
    have r0 := HV1.out.c0
    have s0 := HV1.out.fr 0
    have r1 := HV1.out.c1
    have s1 := HV1.out.fr 1
    have r2 := HV1.out.c2
    have s2 := HV1.out.fr 2
    clear F1
    go_wp2_with fail
    exact bodyPost_ret (v := .tuple #[.agg #[.bool false, .slice none 0 0, .slice none 0 0], .int .i64 (fchk2 a b)]) (by simp [results, Tryz.results98, go_sem, r0, r1, r2]) rfl (RatP.nil HT.out rfl (by repeat (first | (with_reducible exact HX1.out) | refine Ext.setCell ?_ (by simp; try omega) _)))
  have h0 : fchk2 a b = 0 := by simpa using hk
  have hb1 : (fchk2 a b != 0) = false := bne_eq_false_iff_eq.2 h0
  obtain ⟨k1, k2⟩ := fchk2_zero h0
  obtain ⟨t, ht⟩ : ∃ t, t = tell (a.q + b.q) := ⟨_, rfl⟩
  have HT := Lib.hid (show fadd a b = t by rw [ht]; exact both_good h0)
  have HP := Lib.hid (fun wx (hx : Ext w wx) => gadd_fr a b A B C D c1 c2 c3 c4 wx (HA.out.ext hx) (HB.out.ext hx) (HC.out.ext hx) (HD.out.ext hx) wa wb k1 k2 _ rfl)
  rw [← ht] at HP
  clear ht hk k1 k2 h0
  go_enter Tryz.func98, Tryz.ntmps98
  go_wp2_with fail
  obtain ⟨W, hW⟩ : ∃ W, W = ((w.alloc (.cells #[.bool a.neg, .slice A a.num.length c1, .slice B a.den.length c2] 26)).alloc (.cells #[.bool b.neg, .slice C b.num.length c3, .slice D b.den.length c4] 26)).alloc (.cells #[.bool false, .slice none 0 0, .slice none 0 0] 26) := ⟨_, rfl⟩
  have F0 : Six W w.heap.size (.bool a.neg) (.slice A a.num.length c1) (.slice B a.den.length c2) (.bool b.neg) (.slice C b.num.length c3) (.slice D b.den.length c4) := by rw [hW]; refine ⟨?_, ?_, ?_, ?_, ?_, ?_⟩ <;> simp [go_sem]
  have HX : Hid (Ext w W) := by rw [hW]; exact (((Ext.refl w).alloc _).alloc _).alloc _
  have HV : Hid (VarF (w.heap.size + 2) W.heap.size Fr.zero none 0 none 0 W) := by
    have h1 := VarF.zero ((w.alloc (.cells #[.bool a.neg, .slice A a.num.length c1, .slice B a.den.length c2] 26)).alloc (.cells #[.bool b.neg, .slice C b.num.length c3, .slice D b.den.length c4] 26)) W.heap.size
    rw [← hW] at h1
    unfold Hid
    simpa using h1
  have HZ := Lib.hid (show W.heap.size = w.heap.size + 3 by rw [hW]; simp)
  try rw [← hW]
  clear hW
  refine (gboth_fr a b A B C D c1 c2 c3 c4 W (HA.out.ext HX.out) (HB.out.ext HX.out) (HC.out.ext HX.out) (HD.out.ext HX.out) wa wb).mono ?_; rintro e w1 ⟨rfl, hx1⟩
  have F1 := six_ext hx1 F0
  have HX1 := Lib.hid (HX.out.trans hx1)
  have HV1 := Lib.hid (HV.out.ext hx1)
  have HZ1 := Lib.hid (show w.heap.size + 3 ≤ w1.heap.size by have := hx1.size; have := HZ.out; omega)
  clear hx1 F0 HX HV
  obtain ⟨u0, u1, u2, v0, v1, v2⟩ := F1
  go_wp2_with fail
  clear u0 u1 u2 v0 v1 v2
  refine (HP.out _ HX1.out).mono ?_; rintro e w9 ⟨A9, c9, B9, d9, rfl, o1, o2, ap, hx⟩
  have hzz := HZ1.out
  have O1 := Lib.hid (o1.lower (show w.heap.size + 3 ≤ w1.heap.size by omega))
  have O2 := Lib.hid (o2.lower (show w.heap.size + 3 ≤ w1.heap.size by omega))
  have AP := Lib.hid ap
  have HX9 := Lib.hid (HX1.out.trans hx)
  have HV9 := Lib.hid (HV1.out.ext hx)
  have r0 := HV9.out.c0
  have s0 := HV9.out.fr 0
  have r1 := HV9.out.c1
  have s1 := HV9.out.fr 1
  have r2 := HV9.out.c2
  have s2 := HV9.out.fr 2
  clear o1 o2 ap hx
  go_wp2_with fail
  exact bodyPost_ret (v := .tuple #[.agg #[.bool t.1.neg, .slice A9 t.1.num.length c9, .slice B9 t.1.den.length d9], .int .i64 t.2]) (by simp [results, Tryz.results98, go_sem, r0, r1, r2]) rfl (RatP.mk HT.out rfl (by refine Own.lower ?_ (show w.heap.size ≤ w.heap.size + 3 by omega); repeat (first | (with_reducible exact O1.out) | refine Own.setBelow ?_ (by simp; try omega) _)) (by refine Own.lower ?_ (show w.heap.size ≤ w.heap.size + 3 by omega); repeat (first | (with_reducible exact O2.out) | refine Own.setBelow ?_ (by simp; try omega) _)) AP.out (by repeat (first | (with_reducible exact HX9.out) | refine Ext.setCell ?_ (by simp; try omega) _)))
set_option maxRecDepth 4000 in
set_option maxHeartbeats 2000000 in
theorem gsub_fr (a b : Fr) (A B C D : Option Addr) (c1 c2 c3 c4 : Nat) (w : World) (ha : Rd w A c1 a.num) (hb : Rd w B c2 a.den) (hc : Rd w C c3 b.num) (hd : Rd w D c4 b.den) (wa : a.Wf) (wb : b.Wf) :
    Calls Tryz.prog 177 #[.agg #[.bool a.neg, .slice A a.num.length c1, .slice B a.den.length c2], .agg #[.bool b.neg, .slice C b.num.length c3, .slice D b.den.length c4]] w (RatP w (fsub a b)) := by
  have HA := Lib.hid ha
  have HB := Lib.hid hb
  have HC := Lib.hid hc
  have HD := Lib.hid hd
  clear ha hb hc hd
  by_cases hk : fchk2 a b ≠ 0
  · have HT := Lib.hid (show fsub a b = (Fr.zero, fchk2 a b) from both_bad hk)
    have hb1 : (fchk2 a b != 0) = true := bne_iff_ne.2 hk
    clear hk
    go_enter Tryz.func177, Tryz.ntmps177
    go_wp2_with fail
    obtain ⟨W, hW⟩ : ∃ W, W = ((w.alloc (.cells #[.bool a.neg, .slice A a.num.length c1, .slice B a.den.length c2] 26)).alloc (.cells #[.bool b.neg, .slice C b.num.length c3, .slice D b.den.length c4] 26)).alloc (.cells #[.bool false, .slice none 0 0, .slice none 0 0] 26) := ⟨_, rfl⟩
    have F0 : Six W w.heap.size (.bool a.neg) (.slice A a.num.length c1) (.slice B a.den.length c2) (.bool b.neg) (.slice C b.num.length c3) (.slice D b.den.length c4) := by rw [hW]; refine ⟨?_, ?_, ?_, ?_, ?_, ?_⟩ <;> simp [go_sem]
    have HX : Hid (Ext w W) := by rw [hW]; exact (((Ext.refl w).alloc _).alloc _).alloc _
    have HV : Hid (VarF (w.heap.size + 2) W.heap.size Fr.zero none 0 none 0 W) := by
      have h1 := VarF.zero ((w.alloc (.cells #[.bool a.neg, .slice A a.num.length c1, .slice B a.den.length c2] 26)).alloc (.cells #[.bool b.neg, .slice C b.num.length c3, .slice D b.den.length c4] 26)) W.heap.size
      rw [← hW] at h1
      unfold Hid
      simpa using h1
    have HZ := Lib.hid (show W.heap.size = w.heap.size + 3 by rw [hW]; simp)
    try rw [← hW]
    clear hW
    refine (gboth_fr a b A B C D c1 c2 c3 c4 W (HA.out.ext HX.out) (HB.out.ext HX.out) (HC.out.ext HX.out) (HD.out.ext HX.out) wa wb).mono ?_; rintro e w1 ⟨rfl, hx1⟩
    have F1 := six_ext hx1 F0
    have HX1 := Lib.hid (HX.out.trans hx1)
    have HV1 := Lib.hid (HV.out.ext hx1)
    have HZ1 := Lib.hid (show w.heap.size + 3 ≤ w1.heap.size by have := hx1.size; have := HZ.out; omega)
    clear hx1 F0 HX HV
    have r0 := HV1.out.c0
    have s0 := HV1.out.fr 0
    have r1 := HV1.out.c1
    have s1 := HV1.out.fr 1
    have r2 := HV1.out.c2
    have s2 := HV1.out.fr 2
    clear F1
    go_wp2_with fail
    exact bodyPost_ret (v := .tuple #[.agg #[.bool false, .slice none 0 0, .slice none 0 0], .int .i64 (fchk2 a b)]) (by simp [results, Tryz.results177, go_sem, r0, r1, r2]) rfl (RatP.nil HT.out rfl (by repeat (first | (with_reducible exact HX1.out) | refine Ext.setCell ?_ (by simp; try omega) _)))
  have h0 : fchk2 a b = 0 := by simpa using hk
  have hb1 : (fchk2 a b != 0) = false := bne_eq_false_iff_eq.2 h0
  obtain ⟨k1, k2⟩ := fchk2_zero h0
  obtain ⟨t, ht⟩ : ∃ t, t = tell (a.q - b.q) := ⟨_, rfl⟩
  have HT := Lib.hid (show fsub a b = t by rw [ht]; exact both_good h0)
  obtain ⟨k3, k4, k5⟩ := fturn_ok wb k2
  have HTU := Lib.hid (fun wx (hx : Ext w wx) => gopposite_rd b C D c3 c4 wx (HC.out.ext hx) (HD.out.ext hx) (fchk_small k2))
  have HP := Lib.hid (fun wx (hx : Ext w wx) (C' D' : Option Addr) (c' d' : Nat) (h1 : Rd wx C' c' b.num) (h2 : Rd wx D' d' b.den) => show Calls Tryz.prog 140 #[.agg #[.bool a.neg, .slice A a.num.length c1, .slice B a.den.length c2], .agg #[.bool (fturn b).neg, .slice C' b.num.length c', .slice D' b.den.length d']] wx (RatP wx (tell (a.q - b.q))) from gadd_fr a (fturn b) A B C' D' c1 c2 c' d' wx (HA.out.ext hx) (HB.out.ext hx) h1 h2 wa k3 k1 k4 (a.q - b.q) (by rw [k5, Rat.sub_eq_add_neg]))
  rw [← ht] at HP
  clear ht hk k1 k2 h0 k3 k4 k5
  go_enter Tryz.func177, Tryz.ntmps177
  go_wp2_with fail
  obtain ⟨W, hW⟩ : ∃ W, W = ((w.alloc (.cells #[.bool a.neg, .slice A a.num.length c1, .slice B a.den.length c2] 26)).alloc (.cells #[.bool b.neg, .slice C b.num.length c3, .slice D b.den.length c4] 26)).alloc (.cells #[.bool false, .slice none 0 0, .slice none 0 0] 26) := ⟨_, rfl⟩
  have F0 : Six W w.heap.size (.bool a.neg) (.slice A a.num.length c1) (.slice B a.den.length c2) (.bool b.neg) (.slice C b.num.length c3) (.slice D b.den.length c4) := by rw [hW]; refine ⟨?_, ?_, ?_, ?_, ?_, ?_⟩ <;> simp [go_sem]
  have HX : Hid (Ext w W) := by rw [hW]; exact (((Ext.refl w).alloc _).alloc _).alloc _
  have HV : Hid (VarF (w.heap.size + 2) W.heap.size Fr.zero none 0 none 0 W) := by
    have h1 := VarF.zero ((w.alloc (.cells #[.bool a.neg, .slice A a.num.length c1, .slice B a.den.length c2] 26)).alloc (.cells #[.bool b.neg, .slice C b.num.length c3, .slice D b.den.length c4] 26)) W.heap.size
    rw [← hW] at h1
    unfold Hid
    simpa using h1
  have HZ := Lib.hid (show W.heap.size = w.heap.size + 3 by rw [hW]; simp)
  try rw [← hW]
  clear hW
  refine (gboth_fr a b A B C D c1 c2 c3 c4 W (HA.out.ext HX.out) (HB.out.ext HX.out) (HC.out.ext HX.out) (HD.out.ext HX.out) wa wb).mono ?_; rintro e w1 ⟨rfl, hx1⟩
  have F1 := six_ext hx1 F0
  have HX1 := Lib.hid (HX.out.trans hx1)
  have HV1 := Lib.hid (HV.out.ext hx1)
  have HZ1 := Lib.hid (show w.heap.size + 3 ≤ w1.heap.size by have := hx1.size; have := HZ.out; omega)
  clear hx1 F0 HX HV
  obtain ⟨u0, u1, u2, v0, v1, v2⟩ := id F1
  go_wp2_with fail
  have hzz := HZ1.out
  go_region_held3 (fun w' => w'.cell? ⟨w.heap.size, 0, none⟩ = some (.bool a.neg) ∧ w'.cell? ⟨w.heap.size, 1, none⟩ = some (.slice A a.num.length c1) ∧ w'.cell? ⟨w.heap.size, 2, none⟩ = some (.slice B a.den.length c2) ∧ w'.cell? ⟨w.heap.size + 1, 0, none⟩ = some (.bool b.neg) ∧ w'.cell? ⟨w.heap.size + 1, 1, none⟩ = some (.slice C b.num.length c3) ∧ w'.cell? ⟨w.heap.size + 1, 2, none⟩ = some (.slice D b.den.length c4)) (repeat (first | (with_reducible exact F1) | (with_reducible exact F2) | (with_reducible exact F3) | (with_reducible exact F4) | (with_reducible refine six_drew ?_) | (with_reducible refine six_set ?_ (by simp only; omega) (by simp only; omega))))
    (first
      | (go_at_call 201; ((with_reducible refine (HTU.out _ HX1.out.drew).mono ?_)); rintro e w2 ⟨C5, c5, D5, d5, rfl, p1, p2, hx2⟩; have P1 := Lib.hid p1; have P2 := Lib.hid p2; have HX2 := Lib.hid hx2; have F2 := six_ext hx2 (six_drew F1); clear p1 p2 hx2)
      | (go_at_call 140; ((with_reducible refine (HP.out _ (HX1.out.drew.trans HX2.out) C5 D5 c5 d5 P1.out P2.out).mono ?_)); rintro e w9 ⟨A9, c9, B9, d9, rfl, o1, o2, ap, hx⟩; have O1 := Lib.hid (o1.lower (show w.heap.size + 3 ≤ w2.heap.size by have := HX2.out.size; simp only [World.size_drew] at this; omega)); have O2 := Lib.hid (o2.lower (show w.heap.size + 3 ≤ w2.heap.size by have := HX2.out.size; simp only [World.size_drew] at this; omega)); have AP := Lib.hid ap; have HX9 := Lib.hid ((HX1.out.drew.trans HX2.out).trans hx); have F3 := six_ext hx F2; have HV9 := HV1.out.ext (((Ext.refl _).drew.trans HX2.out).trans hx); have r0 := HV9.c0; have s0 := HV9.fr 0; have r1 := HV9.c1; have s1 := HV9.fr 1; have r2 := HV9.c2; have s2 := HV9.fr 2; clear o1 o2 ap hx HV9))
  all_goals
    go_wp2_with fail
    exact bodyPost_ret (v := .tuple #[.agg #[.bool t.1.neg, .slice A9 t.1.num.length c9, .slice B9 t.1.den.length d9], .int .i64 t.2]) (by simp [results, Tryz.results177, go_sem, r0, r1, r2]) rfl (RatP.mk HT.out rfl (by refine Own.lower ?_ (show w.heap.size ≤ w.heap.size + 3 by omega); repeat (first | (with_reducible exact O1.out) | refine Own.setBelow ?_ (by simp; try omega) _)) (by refine Own.lower ?_ (show w.heap.size ≤ w.heap.size + 3 by omega); repeat (first | (with_reducible exact O2.out) | refine Own.setBelow ?_ (by simp; try omega) _)) AP.out (by repeat (first | (with_reducible exact HX9.out) | refine Ext.setCell ?_ (by simp; try omega) _)))
set_option maxRecDepth 4000 in
set_option maxHeartbeats 2000000 in
theorem gmul_fr (a b : Fr) (A B C D : Option Addr) (c1 c2 c3 c4 : Nat) (w : World) (ha : Rd w A c1 a.num) (hb : Rd w B c2 a.den) (hc : Rd w C c3 b.num) (hd : Rd w D c4 b.den) (wa : a.Wf) (wb : b.Wf) :
    Calls Tryz.prog 176 #[.agg #[.bool a.neg, .slice A a.num.length c1, .slice B a.den.length c2], .agg #[.bool b.neg, .slice C b.num.length c3, .slice D b.den.length c4]] w (RatP w (fmul a b)) := by
  have HA := Lib.hid ha
  have HB := Lib.hid hb
  have HC := Lib.hid hc
  have HD := Lib.hid hd
  clear ha hb hc hd
  by_cases hk : fchk2 a b ≠ 0
  · have HT := Lib.hid (show fmul a b = (Fr.zero, fchk2 a b) from both_bad hk)
    have hb1 : (fchk2 a b != 0) = true := bne_iff_ne.2 hk
    clear hk
    go_enter Tryz.func176, Tryz.ntmps176
    go_wp2_with fail
    obtain ⟨W, hW⟩ : ∃ W, W = ((w.alloc (.cells #[.bool a.neg, .slice A a.num.length c1, .slice B a.den.length c2] 26)).alloc (.cells #[.bool b.neg, .slice C b.num.length c3, .slice D b.den.length c4] 26)).alloc (.cells #[.bool false, .slice none 0 0, .slice none 0 0] 26) := ⟨_, rfl⟩
    have F0 : Six W w.heap.size (.bool a.neg) (.slice A a.num.length c1) (.slice B a.den.length c2) (.bool b.neg) (.slice C b.num.length c3) (.slice D b.den.length c4) := by rw [hW]; refine ⟨?_, ?_, ?_, ?_, ?_, ?_⟩ <;> simp [go_sem]
    have HX : Hid (Ext w W) := by rw [hW]; exact (((Ext.refl w).alloc _).alloc _).alloc _
    have HV : Hid (VarF (w.heap.size + 2) W.heap.size Fr.zero none 0 none 0 W) := by
      have h1 := VarF.zero ((w.alloc (.cells #[.bool a.neg, .slice A a.num.length c1, .slice B a.den.length c2] 26)).alloc (.cells #[.bool b.neg, .slice C b.num.length c3, .slice D b.den.length c4] 26)) W.heap.size
      rw [← hW] at h1
      unfold Hid
      simpa using h1
    have HZ := Lib.hid (show W.heap.size = w.heap.size + 3 by rw [hW]; simp)
    try rw [← hW]
    clear hW
    refine (gboth_fr a b A B C D c1 c2 c3 c4 W (HA.out.ext HX.out) (HB.out.ext HX.out) (HC.out.ext HX.out) (HD.out.ext HX.out) wa wb).mono ?_; rintro e w1 ⟨rfl, hx1⟩
    have F1 := six_ext hx1 F0
    have HX1 := Lib.hid (HX.out.trans hx1)
    have HV1 := Lib.hid (HV.out.ext hx1)
    have HZ1 := Lib.hid (show w.heap.size + 3 ≤ w1.heap.size by have := hx1.size; have := HZ.out; omega)
    clear hx1 F0 HX HV
    have r0 := HV1.out.c0
    have s0 := HV1.out.fr 0
    have r1 := HV1.out.c1
    have s1 := HV1.out.fr 1
    have r2 := HV1.out.c2
    have s2 := HV1.out.fr 2
    clear F1
    go_wp2_with fail
    exact bodyPost_ret (v := .tuple #[.agg #[.bool false, .slice none 0 0, .slice none 0 0], .int .i64 (fchk2 a b)]) (by simp [results, Tryz.results176, go_sem, r0, r1, r2]) rfl (RatP.nil HT.out rfl (by repeat (first | (with_reducible exact HX1.out) | refine Ext.setCell ?_ (by simp; try omega) _)))
  have h0 : fchk2 a b = 0 := by simpa using hk
  have hb1 : (fchk2 a b != 0) = false := bne_eq_false_iff_eq.2 h0
  obtain ⟨p, q, ep, eq, lp, lq⟩ := fchk2_ok wa wb h0
  have LP := not_lng lp
  have LQ := not_lng lq
  have E1 : a.num = wd p.num.natAbs := by rw [ep]; rfl
  have E2 : a.den = wd p.den := by rw [ep]; rfl
  have E3 : b.num = wd q.num.natAbs := by rw [eq]; rfl
  have E4 : b.den = wd q.den := by rw [eq]; rfl
  have E5 : a.neg = decide (p.num < 0) := by rw [ep]; rfl
  have E6 : b.neg = decide (q.num < 0) := by rw [eq]; rfl
  obtain ⟨t, ht⟩ : ∃ t, t = tell (p * q) := ⟨_, rfl⟩
  have HT := Lib.hid (show fmul a b = t by unfold fmul; rw [both_good h0, ht, ep, eq, dec_enc, dec_enc])
  have lX := wd_len_mul p.num.natAbs q.num.natAbs
  have lY := wd_len_mul p.den q.den
  have hY0 : p.den * q.den ≠ 0 := Nat.mul_ne_zero p.den_nz q.den_nz
  have HM := Lib.hid (show mkRat (sg (!(a.neg == b.neg)) (p.num.natAbs * q.num.natAbs)) (p.den * q.den) = p * q by rw [E5, E6]; exact mul_made p q)
  obtain ⟨X, hX⟩ : ∃ X, X = p.num.natAbs * q.num.natAbs := ⟨_, rfl⟩
  obtain ⟨Y, hY⟩ : ∃ Y, Y = p.den * q.den := ⟨_, rfl⟩
  have HT1 := Lib.hid (fun wx (hx : Ext w wx) => by
    have h1 := gtimes3_any A C p.num.natAbs q.num.natAbs c1 c3 wx (E1 ▸ HA.out.ext hx) (E3 ▸ HC.out.ext hx) (by omega)
    rw [← E1, ← E3, ← hX] at h1
    exact h1)
  have HT2 := Lib.hid (fun wx (hx : Ext w wx) => by
    have h1 := gtimes3_any B D p.den q.den c2 c4 wx (E2 ▸ HB.out.ext hx) (E4 ▸ HD.out.ext hx) (by omega)
    rw [← E2, ← E4, ← hY] at h1
    exact h1)
  rw [← hX] at lX HM
  rw [← hY] at lY hY0 HM
  have HL := Lib.hid (fun (wx : World) (v : Bool) (P Q : Option Addr) (c d : Nat) (h1 : Rd wx P c (wd X)) (h2 : Rd wx Q d (wd Y)) (hv : v = (!(a.neg == b.neg))) => show Calls Tryz.prog 136 #[.bool v, .slice P (wd X).length c, .slice Q (wd Y).length d] wx (RatP wx t) by
    subst hv
    have := gof3_any (!(a.neg == b.neg)) P Q X Y c d wx h1 h2 hY0 (by omega) (by omega)
    rw [HM.out, ← ht] at this
    exact this)
  clear hX hY ht hk h0 ep eq E1 E2 E3 E4 E5 E6
  go_enter Tryz.func176, Tryz.ntmps176
  go_wp2_with fail
  obtain ⟨W, hW⟩ : ∃ W, W = ((w.alloc (.cells #[.bool a.neg, .slice A a.num.length c1, .slice B a.den.length c2] 26)).alloc (.cells #[.bool b.neg, .slice C b.num.length c3, .slice D b.den.length c4] 26)).alloc (.cells #[.bool false, .slice none 0 0, .slice none 0 0] 26) := ⟨_, rfl⟩
  have F0 : Six W w.heap.size (.bool a.neg) (.slice A a.num.length c1) (.slice B a.den.length c2) (.bool b.neg) (.slice C b.num.length c3) (.slice D b.den.length c4) := by rw [hW]; refine ⟨?_, ?_, ?_, ?_, ?_, ?_⟩ <;> simp [go_sem]
  have HX : Hid (Ext w W) := by rw [hW]; exact (((Ext.refl w).alloc _).alloc _).alloc _
  have HV : Hid (VarF (w.heap.size + 2) W.heap.size Fr.zero none 0 none 0 W) := by
    have h1 := VarF.zero ((w.alloc (.cells #[.bool a.neg, .slice A a.num.length c1, .slice B a.den.length c2] 26)).alloc (.cells #[.bool b.neg, .slice C b.num.length c3, .slice D b.den.length c4] 26)) W.heap.size
    rw [← hW] at h1
    unfold Hid
    simpa using h1
  have HZ := Lib.hid (show W.heap.size = w.heap.size + 3 by rw [hW]; simp)
  try rw [← hW]
  clear hW
  refine (gboth_fr a b A B C D c1 c2 c3 c4 W (HA.out.ext HX.out) (HB.out.ext HX.out) (HC.out.ext HX.out) (HD.out.ext HX.out) wa wb).mono ?_; rintro e w1 ⟨rfl, hx1⟩
  have F1 := six_ext hx1 F0
  have HX1 := Lib.hid (HX.out.trans hx1)
  have HV1 := Lib.hid (HV.out.ext hx1)
  have HZ1 := Lib.hid (show w.heap.size + 3 ≤ w1.heap.size by have := hx1.size; have := HZ.out; omega)
  clear hx1 F0 HX HV
  obtain ⟨u0, u1, u2, v0, v1, v2⟩ := id F1
  go_wp2_with fail
  have hzz := HZ1.out
  go_region_held3 (fun w' => w'.cell? ⟨w.heap.size, 0, none⟩ = some (.bool a.neg) ∧ w'.cell? ⟨w.heap.size, 1, none⟩ = some (.slice A a.num.length c1) ∧ w'.cell? ⟨w.heap.size, 2, none⟩ = some (.slice B a.den.length c2) ∧ w'.cell? ⟨w.heap.size + 1, 0, none⟩ = some (.bool b.neg) ∧ w'.cell? ⟨w.heap.size + 1, 1, none⟩ = some (.slice C b.num.length c3) ∧ w'.cell? ⟨w.heap.size + 1, 2, none⟩ = some (.slice D b.den.length c4)) (repeat (first | (with_reducible exact F1) | (with_reducible exact F2) | (with_reducible exact F3) | (with_reducible exact F4) | (with_reducible refine six_drew ?_) | (with_reducible refine six_set ?_ (by simp only; omega) (by simp only; omega))))
    (first
      | (go_at_call 166; ((with_reducible refine (HT1.out _ HX1.out.drew).mono ?_)); rintro e w2 ⟨A5, c5, rfl, p1, hx2⟩; have P1 := Lib.hid p1; have HX2 := Lib.hid hx2; have F2 := six_ext hx2 (six_drew F1); clear p1 hx2)
      | (go_at_call 166; ((with_reducible refine (HT2.out _ (HX1.out.drew.trans HX2.out)).mono ?_)); rintro e w3 ⟨A6, c6, rfl, p1, hx3⟩; have P2 := Lib.hid p1; have HX3 := Lib.hid hx3; have F3 := six_ext hx3 F2; clear p1 hx3)
      | (go_at_call 136; ((with_reducible refine (HL.out _ _ A5 A6 c5 c6 (P1.out.rd.ext HX3.out) P2.out.rd rfl).mono ?_)); rintro e w9 ⟨A9, c9, B9, d9, rfl, o1, o2, ap, hx⟩; have HX13 := (HX2.out.trans HX3.out).size; (try simp only [World.size_drew] at HX13); have O1 := Lib.hid (o1.lower (show w.heap.size + 3 ≤ w3.heap.size by omega)); have O2 := Lib.hid (o2.lower (show w.heap.size + 3 ≤ w3.heap.size by omega)); have AP := Lib.hid ap; have HX9 := Lib.hid (((HX1.out.drew.trans HX2.out).trans HX3.out).trans hx); have F4 := six_ext hx F3; have HV9 := HV1.out.ext ((((Ext.refl _).drew.trans HX2.out).trans HX3.out).trans hx); have r0 := HV9.c0; have s0 := HV9.fr 0; have r1 := HV9.c1; have s1 := HV9.fr 1; have r2 := HV9.c2; have s2 := HV9.fr 2; clear o1 o2 ap hx HV9 HX13))
  all_goals
    go_wp2_with fail
    exact bodyPost_ret (v := .tuple #[.agg #[.bool t.1.neg, .slice A9 t.1.num.length c9, .slice B9 t.1.den.length d9], .int .i64 t.2]) (by simp [results, Tryz.results176, go_sem, r0, r1, r2]) rfl (RatP.mk HT.out rfl (by refine Own.lower ?_ (show w.heap.size ≤ w.heap.size + 3 by omega); repeat (first | (with_reducible exact O1.out) | refine Own.setBelow ?_ (by simp; try omega) _)) (by refine Own.lower ?_ (show w.heap.size ≤ w.heap.size + 3 by omega); repeat (first | (with_reducible exact O2.out) | refine Own.setBelow ?_ (by simp; try omega) _)) AP.out (by repeat (first | (with_reducible exact HX9.out) | refine Ext.setCell ?_ (by simp; try omega) _)))
set_option maxHeartbeats 1000000 in
theorem gsize3_any (x : Int) (w : World) (h0 : -9223372036854775808 ≤ x) (h1 : x ≤ 9223372036854775807) :
    Calls Tryz.prog 137 #[.int .i64 x] w fun e w' => ∃ A' c', e = .returned (.slice A' (wd x.natAbs).length c') ∧ Own w' w.heap.size A' c' (wd x.natAbs) ∧ Ext w w' := by
  obtain ⟨m, hm⟩ : ∃ m, m = x.natAbs := ⟨_, rfl⟩
  rw [← hm]
  have H := Lib.hid (gof_any m w (by omega))
  by_cases hx : x < 0
  · have HE := Lib.hid (show IntKind.u64.wrap (-IntKind.u64.wrap x) = (m : Int) by rw [IntKind.wrap_u64, IntKind.wrap_u64]; omega)
    clear hm
    go_enter Tryz.func137, Tryz.ntmps137
    go_wp2_with fail
    rw [HE.out]
    refine H.out.mono ?_; rintro e w1 ⟨A1, c1, rfl, h1, hx1⟩
    have H1 := Lib.hid h1
    have HX1 := Lib.hid hx1
    clear h1 hx1
    go_wp2_with fail
    go_ret
    exact ⟨_, _, rfl, H1.out, HX1.out⟩
  · obtain rfl : x = (m : Int) := by omega
    clear hm
    go_enter Tryz.func137, Tryz.ntmps137
    go_wp2_with fail
    refine H.out.mono ?_; rintro e w1 ⟨A1, c1, rfl, h1, hx1⟩
    have H1 := Lib.hid h1
    have HX1 := Lib.hid hx1
    clear h1 hx1
    go_wp2_with fail
    go_ret
    exact ⟨_, _, rfl, H1.out, HX1.out⟩
set_option maxHeartbeats 1000000 in
theorem gsmall3_any (n d : Int) (w : World) (h0 : -9223372036854775808 ≤ n) (h1 : n ≤ 9223372036854775807) (k0 : -9223372036854775808 ≤ d) (k1 : d ≤ 9223372036854775807) :
    Calls Tryz.prog 95 #[.int .i64 n, .int .i64 d] w (RatP w (fsmall n d)) := by
  by_cases hd : d = 0
  · have HT := Lib.hid (show fsmall n d = (Fr.zero, 7) from if_pos hd)
    subst hd
    go_enter Tryz.func95, Tryz.ntmps95
    go_wp2_with fail
    exact bodyPost_ret (v := .tuple #[.agg #[.bool false, .slice none 0 0, .slice none 0 0], .int .i64 7]) (by simp [results, Tryz.results95, go_sem]) rfl (RatP.nil HT.out rfl (by repeat (first | exact Ext.refl w | refine Ext.setCell ?_ (Nat.le_refl _) _ | refine Ext.alloc ?_ _)))
  · have hdb : (d == 0) = false := beq_eq_false_iff_ne.2 hd
    have Hn := Lib.hid (wd_len_64 n h0 h1)
    have Hd := Lib.hid (wd_len_64 d k0 k1)
    have Hz := Lib.hid (show d.natAbs ≠ 0 by omega)
    obtain ⟨t, ht⟩ : ∃ t, t = tell (mkRat (sg (decide (n < 0) != decide (d < 0)) n.natAbs) d.natAbs) := ⟨_, rfl⟩
    have HT := Lib.hid (show fsmall n d = t by rw [ht]; exact if_neg hd)
    have HL := fun (wx : World) (b : Bool) (A B : Option Addr) (c e : Nat) (ha : Rd wx A c (wd n.natAbs)) (hb : Rd wx B e (wd d.natAbs)) (hbb : b = (decide (n < 0) != decide (d < 0))) => Lib.hid (show Calls Tryz.prog 136 #[.bool b, .slice A (wd n.natAbs).length c, .slice B (wd d.natAbs).length e] wx (RatP wx t) by
      subst hbb; rw [ht]; exact gof3_any _ A B _ _ c e wx ha hb Hz.out (by have := Hn.out; omega) (by have := Hd.out; omega))
    have HLL := Lib.hid HL
    clear HL ht hd
    go_enter Tryz.func95, Tryz.ntmps95
    go_wp2_with fail
    refine (gsize3_any n _ h0 h1).mono ?_; rintro e w1 ⟨A1, c1, rfl, h1', hx1⟩
    have H1 := Lib.hid h1'
    have HX1 := Lib.hid hx1
    clear h1' hx1
    go_wp2_with fail
    refine (gsize3_any d _ k0 k1).mono ?_; rintro e w2 ⟨A2, c2, rfl, h2, hx2⟩
    have H2 := Lib.hid h2
    have H1 := Lib.hid (H1.out.ext hx2)
    have HX2 := Lib.hid (HX1.out.trans hx2)
    clear h2 hx2
    go_wp2_with fail
    refine (HLL.out _ _ _ _ _ _ H1.out.rd H2.out.rd rfl).out.mono ?_; rintro e w3 ⟨A3, c3, B3, d3, rfl, h3, h4, h5, hx3⟩
    have H3 := Lib.hid (h3.lower (show w.heap.size + 1 ≤ w2.heap.size by have := HX2.out.size; simp at this; omega))
    have H4 := Lib.hid (h4.lower (show w.heap.size + 1 ≤ w2.heap.size by have := HX2.out.size; simp at this; omega))
    have HAp := Lib.hid h5
    have HX3 := Lib.hid (HX2.out.trans hx3)
    have HXw := Lib.hid (((Ext.refl w).alloc _).trans HX3.out)
    have hz3 : w.heap.size < w3.heap.size := by have := HX3.out.size; simp at this; omega
    clear h3 h4 h5 hx3
    obtain ⟨hc, hf⟩ := bcell HX3.out
    go_wp2_with fail
    exact bodyPost_ret (v := .tuple #[.agg #[.bool t.1.neg, .slice A3 t.1.num.length c3, .slice B3 t.1.den.length d3], .int .i64 t.2]) (by simp [results, Tryz.results95, go_sem, hc]) rfl (RatP.mk HT.out rfl (by refine Own.lower ?_ (Nat.le_succ _); repeat (first | exact H3.out | refine Own.setBelow ?_ (Nat.lt_succ_self _) _)) (by refine Own.lower ?_ (Nat.le_succ _); repeat (first | exact H4.out | refine Own.setBelow ?_ (Nat.lt_succ_self _) _)) HAp.out (by repeat (first | exact HXw.out | refine Ext.setCell ?_ (Nat.le_refl _) _)))
section
variable (a b : Fr) (p q : Adr) (w : World) (ha : RF w p a) (hb : RF w q b)
include ha hb
theorem nAdd : Calls Tryz.prog 98 #[.agg #[.bool a.neg, .slice p.A a.num.length p.c, .slice p.B a.den.length p.d], .agg #[.bool b.neg, .slice q.A b.num.length q.c, .slice q.B b.den.length q.d]] w (TF w (fadd a b)) :=
  (gaddF_fr a b _ _ _ _ _ _ _ _ w ha.num ha.den hb.num hb.den ha.wf hb.wf).mono fun _ _ h => h.tf (fadd_good a b).wf
theorem nSub : Calls Tryz.prog 177 #[.agg #[.bool a.neg, .slice p.A a.num.length p.c, .slice p.B a.den.length p.d], .agg #[.bool b.neg, .slice q.A b.num.length q.c, .slice q.B b.den.length q.d]] w (TF w (fsub a b)) :=
  (gsub_fr a b _ _ _ _ _ _ _ _ w ha.num ha.den hb.num hb.den ha.wf hb.wf).mono fun _ _ h => h.tf (fsub_good a b).wf
theorem nMul : Calls Tryz.prog 176 #[.agg #[.bool a.neg, .slice p.A a.num.length p.c, .slice p.B a.den.length p.d], .agg #[.bool b.neg, .slice q.A b.num.length q.c, .slice q.B b.den.length q.d]] w (TF w (fmul a b)) :=
  (gmul_fr a b _ _ _ _ _ _ _ _ w ha.num ha.den hb.num hb.den ha.wf hb.wf).mono fun _ _ h => h.tf (fmul_good a b).wf
end
theorem nCheck (a : Fr) (p : Adr) (w : World) (ha : RF w p a) : Calls Tryz.prog 108 #[.agg #[.bool a.neg, .slice p.A a.num.length p.c, .slice p.B a.den.length p.d]] w fun e w' => e = .returned (.int .i64 (fchk a)) ∧ Below w.heap.size w w' :=
  gcheck_fr a _ _ _ _ w ha.num ha.den ha.wf
theorem nSmall (n d : Int) (w : World) (h0 : -9223372036854775808 ≤ n) (h1 : n ≤ 9223372036854775807) (k0 : -9223372036854775808 ≤ d) (k1 : d ≤ 9223372036854775807) : Calls Tryz.prog 95 #[.int .i64 n, .int .i64 d] w (TF w (fsmall n d)) :=
  (gsmall3_any n d w h0 h1 k0 k1).mono fun _ _ h => h.tf (fsmall_wf n d)
end Go.Proofs.YtakaehdolpmelaaGreat
