/- Texts of this claim, joined: B19 R14 G21 B26 R2 R3 R15 E1 B3 A25 U1 U2 B4 B5 B6 B7 B8 B9 A26 Y2 U3 Y4 B10 B11 Y5 Y7 U15 B12 A27 B13 B14 B15 B16 B17 B18. -/
import Derived.RegionTactic
import Derived.ChangeAlike
import Derived.OneCell
import Derived.Deep.AppendLies
import Derived.Deep.RegionHeldLaw
import Derived.Test.YtakaehdolpmelaaGreatDoorQo
set_option linter.unusedVariables false
set_option linter.unusedSimpArgs false
set_option maxRecDepth 100000
namespace Go.Proofs.YtakaehdolpmelaaGreatDoor
open Go Go.RowKit
def toN (l : List Int) : Nat := (val l).toNat
def nrm (l : List Int) : Prop := l = wd (toN l)
theorem toN_wd (n : Nat) : toN (wd n) = n := by
  unfold toN
  rw [val_wd]
  rfl
theorem nrm_wd (n : Nat) : nrm (wd n) := by
  unfold nrm
  rw [toN_wd]
theorem nrm_ex {l : List Int} (h : nrm l) : ∃ n, l = wd n := ⟨_, h⟩
theorem rv_wd {Z : Nat → Prop} {w : World} {l : List Int} {v : Value} (h : RV Z w tW32 l v) : ∃ A c, v = .slice A l.length c ∧ Rd w A c l ∧ Wf l := by
  unfold RV at h
  rw [if_neg (by simp [Ty.agg])] at h
  obtain ⟨A, c, e, h1, h2⟩ := rd_of h
  exact ⟨A, c, by simpa using e, h1, h2⟩
theorem blkA1_nodup (A : Option Addr) : (blkA A).Nodup := by cases A <;> simp [blkA]
theorem blkA1_base {w : World} {base : Nat} {A : Option Addr} {c : Nat} {xs : List Int} (h : Own w base A c xs) : ∀ g ∈ blkA A, base ≤ g := fun g hg => by
  cases hA : A with
  | none => rw [hA] at hg; simp [blkA] at hg
  | some a => rw [hA] at hg; simp [blkA] at hg; rw [hA] at h; rw [hg]; exact h.block.1
theorem cmp_rng (m n : Nat) : -1 ≤ cmp m n ∧ cmp m n ≤ 1 := by
  unfold cmp
  repeat' split
  all_goals omega
section
variable {f : Nat} (hc : ∀ (vs : Array Value) (w : World), (callFunc f vs).run Tryz.prog w = .ok (.enter f vs) w)
include hc
end
def IntP (w : World) (t : Int × Int) (e : Ending) (w' : World) : Prop := e = .returned (.tuple #[.int .i64 t.1, .int .i64 t.2]) ∧ Ext w w'
set_option maxRecDepth 4000 in
set_option maxHeartbeats 2000000 in
theorem compareF_raw (s t : Bool) (xs ys us vs : List Int) (A B C D : Option Addr) (c1 c2 c3 c4 : Nat) (w : World) (ha : Rd w A c1 xs) (hb : Rd w B c2 ys) (hc : Rd w C c3 us) (hd : Rd w D c4 vs) (wa : (⟨s, xs, ys⟩ : Fr).Wf) (wb : (⟨t, us, vs⟩ : Fr).Wf) :
    Calls Tryz.prog 46 #[.agg #[.bool s, .slice A xs.length c1, .slice B ys.length c2], .agg #[.bool t, .slice C us.length c3, .slice D vs.length c4]] w (IntP w (fcmp ⟨s, xs, ys⟩ ⟨t, us, vs⟩)) := by
  have HCK := Lib.hid (fun wx (h1 : Rd wx A c1 xs) (h2 : Rd wx B c2 ys) (h3 : Rd wx C c3 us) (h4 : Rd wx D c4 vs) => show Calls Tryz.prog 63 #[.agg #[.bool s, .slice A xs.length c1, .slice B ys.length c2], .agg #[.bool t, .slice C us.length c3, .slice D vs.length c4]] wx (fun e w' => e = .returned (.int .i64 (fchk2 ⟨s, xs, ys⟩ ⟨t, us, vs⟩)) ∧ Ext wx w') from checks_any ⟨s, xs, ys⟩ ⟨t, us, vs⟩ A B C D c1 c2 c3 c4 wx h1 h2 h3 h4 wa wb)
  obtain ⟨a, ea⟩ : ∃ a : Fr, a = ⟨s, xs, ys⟩ := ⟨_, rfl⟩
  obtain ⟨b, eb⟩ : ∃ b : Fr, b = ⟨t, us, vs⟩ := ⟨_, rfl⟩
  rw [← ea, ← eb] at HCK ⊢
  rw [← ea] at wa
  rw [← eb] at wb
  have HA := Lib.hid ha
  have HB := Lib.hid hb
  have HC := Lib.hid hc
  have HD := Lib.hid hd
  clear ha hb hc hd
  by_cases hk : fchk2 a b ≠ 0
  · have HT := Lib.hid (show fcmp a b = (0, fchk2 a b) from if_pos hk)
    have hb1 : (fchk2 a b != 0) = true := bne_iff_ne.2 hk
    rw [HT.out]
    clear hk ea eb
    go_enter Tryz.func46, Tryz.ntmps46
    go_wp2_with fail
    obtain ⟨W, hW⟩ : ∃ W, W = (w.alloc (.cells #[.bool s, .slice A xs.length c1, .slice B ys.length c2] 24)).alloc (.cells #[.bool t, .slice C us.length c3, .slice D vs.length c4] 24) := ⟨_, rfl⟩
    have F0 : Six W w.heap.size (.bool s) (.slice A xs.length c1) (.slice B ys.length c2) (.bool t) (.slice C us.length c3) (.slice D vs.length c4) := by rw [hW]; refine ⟨?_, ?_, ?_, ?_, ?_, ?_⟩ <;> simp [go_sem]
    have HX : Hid (Ext w W) := by rw [hW]; exact ((Ext.refl w).alloc _).alloc _
    have HZ := Lib.hid (show W.heap.size = w.heap.size + 2 by rw [hW]; simp)
    try rw [← hW]
    clear hW
    refine (HCK.out W (HA.out.ext HX.out) (HB.out.ext HX.out) (HC.out.ext HX.out) (HD.out.ext HX.out)).mono ?_; rintro e w1 ⟨rfl, hx1⟩
    have F1 := six_ext hx1 F0
    have HX1 := Lib.hid (HX.out.trans hx1)
    clear hx1 F0 HX
    clear F1
    go_wp2_with fail
    go_ret2
    exact ⟨rfl, HX1.out⟩
  have h0 : fchk2 a b = 0 := by simpa using hk
  have hb1 : (fchk2 a b != 0) = false := bne_eq_false_iff_eq.2 h0
  obtain ⟨p, q, ep, eq, lp, lq⟩ := fchk2_ok wa wb h0
  have LP := not_lng lp
  have LQ := not_lng lq
  have E1 : a.num = wd p.num.natAbs := by rw [ep]; rfl
  have E2 : a.den = wd p.den := by rw [ep]; rfl
  have E3 : b.num = wd q.num.natAbs := by rw [eq]; rfl
  have E4 : b.den = wd q.den := by rw [eq]; rfl
  have E5 : a.neg = decide (p.num < 0) := by rw [ep]; rfl
  have E6 : b.neg = decide (q.num < 0) := by rw [eq]; rfl
  rw [ea] at E1 E2 E5
  rw [eb] at E3 E4 E6
  simp only at E1 E2 E3 E4 E5 E6
  obtain ⟨c, hcc⟩ : ∃ c, c = cmpq p q := ⟨_, rfl⟩
  have HT := Lib.hid (show fcmp a b = (c, 0) by unfold fcmp; rw [if_neg (by omega), ep, eq, dec_enc, dec_enc, hcc])
  rw [HT.out]
  have lX := wd_len_mul p.num.natAbs q.den
  have lY := wd_len_mul q.num.natAbs p.den
  obtain ⟨X, hX⟩ : ∃ X, X = p.num.natAbs * q.den := ⟨_, rfl⟩
  obtain ⟨Y, hY⟩ : ∃ Y, Y = q.num.natAbs * p.den := ⟨_, rfl⟩
  have HT1 := Lib.hid (fun wx (hx : Ext w wx) => by
    have h1 := times_any A D p.num.natAbs q.den c1 c4 wx (E1 ▸ HA.out.ext hx) (E4 ▸ HD.out.ext hx) (by omega)
    rw [← E1, ← E4, ← hX] at h1
    exact h1)
  have HT2 := Lib.hid (fun wx (hx : Ext w wx) => by
    have h1 := times_any C B q.num.natAbs p.den c3 c2 wx (E3 ▸ HC.out.ext hx) (E2 ▸ HB.out.ext hx) (by omega)
    rw [← E3, ← E2, ← hY] at h1
    exact h1)
  have HCM := Lib.hid (show (s = true → t = true → cmp Y X = c) ∧ (s = true → t = false → c = -1) ∧ (s = false → t = true → c = 1) ∧ (s = false → t = false → cmp X Y = c) from by
    rw [hX, hY, hcc, E5, E6]
    exact ⟨fun h k => cmpq_nn p q (of_decide_eq_true h) (of_decide_eq_true k), fun h k => cmpq_np p q (of_decide_eq_true h) (of_decide_eq_false k), fun h k => cmpq_pn p q (of_decide_eq_false h) (of_decide_eq_true k), fun h k => cmpq_pp p q (of_decide_eq_false h) (of_decide_eq_false k)⟩)
  rw [← hX] at lX
  rw [← hY] at lY
  clear hX hY hk h0 ep eq E1 E2 E3 E4 E5 E6 ea eb hcc wa wb HT
  go_enter Tryz.func46, Tryz.ntmps46
  go_wp2_with fail
  obtain ⟨W, hW⟩ : ∃ W, W = (w.alloc (.cells #[.bool s, .slice A xs.length c1, .slice B ys.length c2] 24)).alloc (.cells #[.bool t, .slice C us.length c3, .slice D vs.length c4] 24) := ⟨_, rfl⟩
  have F0 : Six W w.heap.size (.bool s) (.slice A xs.length c1) (.slice B ys.length c2) (.bool t) (.slice C us.length c3) (.slice D vs.length c4) := by rw [hW]; refine ⟨?_, ?_, ?_, ?_, ?_, ?_⟩ <;> simp [go_sem]
  have HX : Hid (Ext w W) := by rw [hW]; exact ((Ext.refl w).alloc _).alloc _
  have HZ := Lib.hid (show W.heap.size = w.heap.size + 2 by rw [hW]; simp)
  try rw [← hW]
  clear hW
  refine (HCK.out W (HA.out.ext HX.out) (HB.out.ext HX.out) (HC.out.ext HX.out) (HD.out.ext HX.out)).mono ?_; rintro e w1 ⟨rfl, hx1⟩
  have F1 := six_ext hx1 F0
  have HX1 := Lib.hid (HX.out.trans hx1)
  clear hx1 F0 HX
  obtain ⟨u0, u1, u2, v0, v1, v2⟩ := id F1
  go_wp2_with fail
  go_region_held3 (fun w' => w'.cell? ⟨w.heap.size, 0, none⟩ = some (.bool s) ∧ w'.cell? ⟨w.heap.size, 1, none⟩ = some (.slice A xs.length c1) ∧ w'.cell? ⟨w.heap.size, 2, none⟩ = some (.slice B ys.length c2) ∧ w'.cell? ⟨w.heap.size + 1, 0, none⟩ = some (.bool t) ∧ w'.cell? ⟨w.heap.size + 1, 1, none⟩ = some (.slice C us.length c3) ∧ w'.cell? ⟨w.heap.size + 1, 2, none⟩ = some (.slice D vs.length c4)) (repeat (first | (with_reducible exact F1) | (with_reducible exact F2) | (with_reducible exact F3) | (with_reducible exact F4) | (with_reducible refine six_drew ?_)))
    (first
      | (go_at_call 65; ((with_reducible refine (HT1.out _ HX1.out.drew).mono ?_)); rintro e w2 ⟨A5, c5, rfl, p1, hx2⟩; have P1 := Lib.hid p1; have HX2 := Lib.hid hx2; have F2 := six_ext hx2 (six_drew F1); clear p1 hx2)
      | (go_at_call 65; ((with_reducible refine (HT2.out _ (HX1.out.drew.trans HX2.out)).mono ?_)); rintro e w3 ⟨A6, c6, rfl, p1, hx3⟩; have P2 := Lib.hid p1; have HX3 := Lib.hid hx3; have F3 := six_ext hx3 F2; clear p1 hx3))
  all_goals
    have HX9 := Lib.hid ((HX1.out.drew.trans HX2.out).trans HX3.out)
    have P1 := Lib.hid (P1.out.ext HX3.out)
    clear u0 u1 u2 v0 v1 v2 F1 F2
    obtain ⟨u0, u1, u2, v0, v1, v2⟩ := F3
    cases s with
    | true =>
      cases t with
      | true =>
        have HE := Lib.hid (HCM.out.1 rfl rfl)
        go_wp2_with fail
        refine (compare_any A6 A5 Y X _ _ _ P2.out.rd P1.out.rd).mono ?_; rintro e w4 ⟨rfl, hx⟩
        rw [HE.out]
        have HX4 := Lib.hid (HX9.out.trans hx)
        clear hx
        go_wp2_with fail
        go_ret2
        exact ⟨rfl, HX4.out⟩
      | false =>
        have HE := Lib.hid (HCM.out.2.1 rfl rfl)
        go_wp2_with fail
        go_ret2
        exact ⟨by rw [HE.out]; rfl, HX9.out⟩
    | false =>
      cases t with
      | true =>
        have HE := Lib.hid (HCM.out.2.2.1 rfl rfl)
        go_wp2_with fail
        go_ret2
        exact ⟨by rw [HE.out]; rfl, HX9.out⟩
      | false =>
        have HE := Lib.hid (HCM.out.2.2.2 rfl rfl)
        go_wp2_with fail
        refine (compare_any A5 A6 X Y _ _ _ P1.out.rd P2.out.rd).mono ?_; rintro e w4 ⟨rfl, hx⟩
        rw [HE.out]
        have HX4 := Lib.hid (HX9.out.trans hx)
        clear hx
        go_wp2_with fail
        go_ret2
        exact ⟨rfl, HX4.out⟩
theorem compare_fr (a b : Fr) (A B C D : Option Addr) (c1 c2 c3 c4 : Nat) (w : World) (ha : Rd w A c1 a.num) (hb : Rd w B c2 a.den) (hc : Rd w C c3 b.num) (hd : Rd w D c4 b.den) (wa : a.Wf) (wb : b.Wf) :
    Calls Tryz.prog 46 #[.agg #[.bool a.neg, .slice A a.num.length c1, .slice B a.den.length c2], .agg #[.bool b.neg, .slice C b.num.length c3, .slice D b.den.length c4]] w (IntP w (fcmp a b)) :=
  compareF_raw a.neg b.neg a.num a.den b.num b.den A B C D c1 c2 c3 c4 w ha hb hc hd wa wb
def spC2 : Spec := { q := .un, ps := [tR, tR], rs := [.it .i64, .it .i64], fresh := true, pre := fun _ _ => none, post := fun _ x => ((), ((fcmp (toFr x.1) (toFr x.2.1)).1, (fcmp (toFr x.1) (toFr x.2.1)).2, ())) }
theorem fcmp_rng (a b : Fr) : (-1 ≤ (fcmp a b).1 ∧ (fcmp a b).1 ≤ 1) ∧ Er (fcmp a b).2 := by
  unfold fcmp
  split
  · refine ⟨⟨by show (-1 : Int) ≤ 0; decide, by show (0 : Int) ≤ 1; decide⟩, ?_⟩
    unfold fchk2
    split
    · exact er_fchk a
    · exact er_fchk b
  · refine ⟨?_, Er.zero⟩
    unfold cmpq
    repeat' split
    all_goals constructor <;> simp
theorem rq_i64 {Z : Nat → Prop} {w : World} {base : Nat} {e : Int} (h : -1 ≤ e ∧ e ≤ 1) : RQ true Z w base (.it .i64) e [.int .i64 e] [] := by
  refine ⟨?_, rfl⟩
  rw [RT]
  exact ⟨rfl, Int.le_trans (by decide) h.1, Int.le_trans h.2 (by decide)⟩
theorem fnOk_C2 {f : Nat} (hc : ∀ (vs : Array Value) (w : World), (callFunc f vs).run Tryz.prog w = .ok (.enter f vs) w) (h : ∀ (a b : Fr) (A B C D : Option Addr) (c1 c2 c3 c4 : Nat) (w : World), Rd w A c1 a.num → Rd w B c2 a.den → Rd w C c3 b.num → Rd w D c4 b.den → a.Wf → b.Wf →
    Calls Tryz.prog f #[.agg #[.bool a.neg, .slice A a.num.length c1, .slice B a.den.length c2], .agg #[.bool b.neg, .slice C b.num.length c3, .slice D b.den.length c4]] w (IntP w (fcmp a b))) : FnOk Tryz.prog f spC2 := by
  refine ⟨hc, fun Z w gv vs y x hZ hv _ _ _ => ?_⟩
  match vs, hv with
  | [u, v], ⟨h1, h2, _⟩ =>
    obtain ⟨p, rfl, k1⟩ := rv_fr h1
    obtain ⟨q, rfl, k2⟩ := rv_fr h2
    refine (h (toFr x.1) (toFr x.2.1) p.A p.B q.A q.B _ _ _ _ w k1.num k1.den k2.num k2.den k1.wf k2.wf).mono fun e w' ⟨e1, e2⟩ => ?_
    subst e1
    have r := fcmp_rng (toFr x.1) (toFr x.2.1)
    exact told_new (S := spC2) (r := ((fcmp (toFr x.1) (toFr x.2.1)).1, (fcmp (toFr x.1) (toFr x.2.1)).2, ())) (us := [_, _]) (bs := []) rfl rfl (.inr ⟨by simp, rfl⟩) hZ ⟨[], [], rfl, rq_i64 (base := w.heap.size) r.1, [], [], rfl, rq_err (base := w.heap.size) r.2, rfl⟩ List.nodup_nil (fun g hg => by simp at hg) e2
def sp_rCmp : Spec := spC2
theorem fo_rCmp : FnOk Tryz.prog 46 sp_rCmp := fnOk_C2 (callFunc_enter Tryz.func46 (by kernel_rfl) rfl) compare_fr
def wchk (s : Bool) (xs : List Int) : Int := if 2048 < xs.length then 3 else if xs ≠ [] ∧ nth xs (xs.length - 1) = 0 then 11 else if xs = [] ∧ s = true then 11 else 0
set_option maxHeartbeats 1000000 in
theorem wcheck_any (s : Bool) (A : Option Addr) (xs : List Int) (c : Nat) (w : World) (h : Rd w A c xs) :
    Calls Tryz.prog 94 #[.agg #[.bool s, .slice A xs.length c]] w fun e w' => e = .returned (.int .i64 (wchk s xs)) ∧ Ext w w' := by
  have hl := h.lim
  have HA := Lib.hid h
  have HX := Lib.hid ((Ext.refl w).alloc (.cells #[.bool s, .slice A xs.length c] 68))
  clear h
  by_cases h1 : 2048 < xs.length
  · have HE := Lib.hid (show wchk s xs = 3 from if_pos h1)
    rw [HE.out]
    go_enter Tryz.func94, Tryz.ntmps94
    go_wp2
    go_ret
    exact ⟨rfl, HX.out⟩
  · by_cases h0 : xs.length = 0
    · have hnil := List.eq_nil_of_length_eq_zero h0
      have HE := Lib.hid (show wchk s xs = if s = true then 11 else 0 by
        unfold wchk; rw [if_neg h1, if_neg (fun h => h.1 hnil)]; simp [hnil])
      rw [HE.out]
      have hb : ((xs.length : Int) == 0) = true := beq_iff_eq.2 (by omega)
      have hp : ¬ (0 < xs.length) := by omega
      clear h0 hnil HE
      cases s
      all_goals
        go_enter Tryz.func94, Tryz.ntmps94
        go_wp2
        go_ret
        exact ⟨rfl, HX.out⟩
    · obtain ⟨k, hk⟩ := Nat.exists_eq_succ_of_ne_zero h0
      obtain ⟨a, rfl, hcell⟩ := (HA.out.ext HX.out).at_ k (by omega)
      have hne : xs ≠ [] := fun e => h0 (by rw [e]; rfl)
      have hb : ((xs.length : Int) == 0) = false := beq_eq_false_iff_ne.2 (by omega)
      have hp : 0 < xs.length := by omega
      have hi : ((xs.length : Int) - 1).toNat = k := by omega
      have hkl : (k : Int) < xs.length := by omega
      by_cases hz : nth xs k = 0
      · have HE := Lib.hid (show wchk s xs = 11 by unfold wchk; rw [if_neg h1, if_pos ⟨hne, by rw [hk]; exact hz⟩])
        rw [HE.out]
        rw [hz] at hcell
        clear hz hk h0 HE
        go_enter Tryz.func94, Tryz.ntmps94
        go_wp2
        go_ret
        exact ⟨rfl, HX.out⟩
      · have HE := Lib.hid (show wchk s xs = 0 by
          unfold wchk; rw [if_neg h1, if_neg, if_neg (fun h => hne h.1)]; rintro ⟨_, h2⟩; rw [hk] at h2; exact hz h2)
        rw [HE.out]
        have hz' : (nth xs k == 0) = false := by simpa using hz
        clear hz hk h0 HE
        go_enter Tryz.func94, Tryz.ntmps94
        go_wp2
        go_ret
        exact ⟨rfl, HX.out⟩
def fmake (s1 : Bool) (xs : List Int) (s2 : Bool) (ys : List Int) : Fr × Int :=
  if wchk s1 xs ≠ 0 then (Fr.zero, wchk s1 xs) else if wchk s2 ys ≠ 0 then (Fr.zero, wchk s2 ys) else if ys = [] then (Fr.zero, 7)
  else tell (mkRat (sg (s1 != s2) (val xs).toNat) (val ys).toNat)
theorem wchk_ok {s : Bool} {xs : List Int} (hw : Wf xs) (h : wchk s xs = 0) : xs = wd (val xs).toNat ∧ xs.length ≤ 2048 := by
  unfold wchk at h
  by_cases h1 : 2048 < xs.length
  · rw [if_pos h1] at h; omega
  · rw [if_neg h1] at h
    refine ⟨(wd_val hw fun hne => ?_).symm, by omega⟩
    by_cases h2 : xs ≠ [] ∧ nth xs (xs.length - 1) = 0
    · rw [if_pos h2] at h; omega
    · exact fun e => h2 ⟨hne, e⟩
set_option maxHeartbeats 1000000 in
theorem make_any (s1 s2 : Bool) (A B : Option Addr) (xs ys : List Int) (c d : Nat) (w : World) (ha : Rd w A c xs) (hb : Rd w B d ys) (hx : Wf xs) (hy : Wf ys) :
    Calls Tryz.prog 45 #[.agg #[.bool s1, .slice A xs.length c], .agg #[.bool s2, .slice B ys.length d]] w (RatP w (fmake s1 xs s2 ys)) := by
  have HA := Lib.hid ha
  have HB := Lib.hid hb
  have hly := hb.lim
  have HW := fun (wx : World) (hx : Ext w wx) => Lib.hid (wcheck_any s1 A xs c wx (HA.out.ext hx))
  have HW' := fun (wx : World) (hx : Ext w wx) => Lib.hid (wcheck_any s2 B ys d wx (HB.out.ext hx))
  have KW := Lib.hid HW
  have KW' := Lib.hid HW'
  clear HW HW' ha hb
  by_cases h1 : wchk s1 xs = 0
  · by_cases h2 : wchk s2 ys = 0
    · by_cases h3 : ys = []
      · have HT := Lib.hid (show fmake s1 xs s2 ys = (Fr.zero, 7) by unfold fmake; rw [if_neg (by omega), if_neg (by omega), if_pos h3])
        have hb : ((ys.length : Int) == 0) = true := by rw [h3]; rfl
        have H1 := Lib.hid h1
        have H2 := Lib.hid h2
        clear h1 h2 h3
        go_enter Tryz.func45, Tryz.ntmps45
        go_wp2_with fail
        refine (KW.out _ (by repeat (first | exact Ext.refl w | refine Ext.alloc ?_ _))).out.mono ?_; rintro e w1 ⟨rfl, hx1⟩
        rw [H1.out]
        have HX1 := Lib.hid hx1
        obtain ⟨hc1, hf1⟩ := bcell hx1
        have hz1 : w.heap.size + 2 < w1.heap.size := by have := hx1.size; simp at this; omega
        clear hx1
        go_wp2_with fail
        refine (KW'.out _ (((((Ext.refl w).alloc _).alloc _).alloc _).trans HX1.out)).out.mono ?_; rintro e w2 ⟨rfl, hx2⟩
        rw [H2.out]
        have HX2 := Lib.hid (HX1.out.trans hx2)
        clear hc1 hf1 hz1
        obtain ⟨hc, hf⟩ := bcell HX2.out
        have hz2 : w.heap.size + 2 < w2.heap.size := by have := HX2.out.size; simp at this; omega
        have HXw := Lib.hid (((((Ext.refl w).alloc _).alloc _).alloc _).trans HX2.out)
        clear hx2
        go_wp2_with fail
        exact bodyPost_ret (v := .tuple #[.agg #[.bool false, .slice none 0 0, .slice none 0 0], .int .i64 7]) (by simp [results, Tryz.results45, go_sem, hc]) rfl (RatP.nil HT.out rfl (by repeat (first | exact HXw.out | refine Ext.setCell ?_ (by simp; try omega) _)))
      · obtain ⟨ex, lx⟩ := wchk_ok hx h1
        obtain ⟨ey, ly⟩ := wchk_ok hy h2
        have hb : ((ys.length : Int) == 0) = false := beq_eq_false_iff_ne.2 (fun e => h3 (List.eq_nil_of_length_eq_zero (by omega)))
        have hn0 : (val ys).toNat ≠ 0 := fun e => h3 (by rw [ey, e, wd_zero])
        obtain ⟨t, ht⟩ : ∃ t, t = tell (mkRat (sg (s1 != s2) (val xs).toNat) (val ys).toNat) := ⟨_, rfl⟩
        have HT := Lib.hid (show fmake s1 xs s2 ys = t by unfold fmake; rw [if_neg (by omega), if_neg (by omega), if_neg h3, ht])
        have HL := fun (wx : World) (b : Bool) (ha : Rd wx A c xs) (hb : Rd wx B d ys) (hbb : b = (s1 != s2)) => Lib.hid (show Calls Tryz.prog 64 #[.bool b, .slice A xs.length c, .slice B ys.length d] wx (RatP wx t) by
          subst hbb
          rw [ht]
          have := lowest_any (s1 != s2) A B (val xs).toNat (val ys).toNat c d wx (ex ▸ ha) (ey ▸ hb) hn0 (by rw [← ex]; omega) (by rw [← ey]; omega)
          rw [← ex, ← ey] at this
          exact this)
        have HLL := Lib.hid HL
        have H1 := Lib.hid h1
        have H2 := Lib.hid h2
        clear h1 h2 h3 HL ht ex ey lx ly hn0
        go_enter Tryz.func45, Tryz.ntmps45
        go_wp2_with fail
        refine (KW.out _ (by repeat (first | exact Ext.refl w | refine Ext.alloc ?_ _))).out.mono ?_; rintro e w1 ⟨rfl, hx1⟩
        rw [H1.out]
        have HX1 := Lib.hid hx1
        obtain ⟨hc1, hf1⟩ := bcell hx1
        have hz1 : w.heap.size + 2 < w1.heap.size := by have := hx1.size; simp at this; omega
        clear hx1
        go_wp2_with fail
        refine (KW'.out _ (((((Ext.refl w).alloc _).alloc _).alloc _).trans HX1.out)).out.mono ?_; rintro e w2 ⟨rfl, hx2⟩
        rw [H2.out]
        have HX2 := Lib.hid (HX1.out.trans hx2)
        clear hc1 hf1 hz1
        obtain ⟨hc2, hf2⟩ := bcell HX2.out
        have hz2 : w.heap.size + 2 < w2.heap.size := by have := HX2.out.size; simp at this; omega
        have HXw2 := Lib.hid (((((Ext.refl w).alloc _).alloc _).alloc _).trans HX2.out)
        clear hx2
        go_wp2_with fail
        refine (HLL.out _ _ (HA.out.ext HXw2.out) (HB.out.ext HXw2.out) rfl).out.mono ?_; rintro e w3 ⟨A3, c3, B3, d3, rfl, h3, h4, h5, hx3⟩
        have H3 := Lib.hid (h3.lower (show w.heap.size + 3 ≤ w2.heap.size by omega))
        have H4 := Lib.hid (h4.lower (show w.heap.size + 3 ≤ w2.heap.size by omega))
        have HAp := Lib.hid h5
        have HX3 := Lib.hid (HX2.out.trans hx3)
        have HXw := Lib.hid (HXw2.out.trans hx3)
        have hz3 : w.heap.size + 2 < w3.heap.size := by have := hx3.size; omega
        clear h3 h4 h5 hx3 hc2 hf2 hz2
        obtain ⟨hc, hf⟩ := bcell HX3.out
        go_wp2_with fail
        exact bodyPost_ret (v := .tuple #[.agg #[.bool t.1.neg, .slice A3 t.1.num.length c3, .slice B3 t.1.den.length d3], .int .i64 t.2]) (by simp [results, Tryz.results45, go_sem, hc]) rfl (RatP.mk HT.out rfl (by refine Own.lower ?_ (show w.heap.size ≤ w.heap.size + 3 by omega); repeat (first | exact H3.out | refine Own.setBelow ?_ (by simp; try omega) _)) (by refine Own.lower ?_ (show w.heap.size ≤ w.heap.size + 3 by omega); repeat (first | exact H4.out | refine Own.setBelow ?_ (by simp; try omega) _)) HAp.out (by repeat (first | exact HXw.out | refine Ext.setCell ?_ (by simp; try omega) _)))
    · have HT := Lib.hid (show fmake s1 xs s2 ys = (Fr.zero, wchk s2 ys) by unfold fmake; rw [if_neg (by omega), if_pos h2])
      have hne : (wchk s2 ys != 0) = true := bne_iff_ne.2 h2
      have H1 := Lib.hid h1
      clear h1 h2
      go_enter Tryz.func45, Tryz.ntmps45
      go_wp2_with fail
      refine (KW.out _ (by repeat (first | exact Ext.refl w | refine Ext.alloc ?_ _))).out.mono ?_; rintro e w1 ⟨rfl, hx1⟩
      rw [H1.out]
      have HX1 := Lib.hid hx1
      obtain ⟨hc1, hf1⟩ := bcell hx1
      have hz1 : w.heap.size + 2 < w1.heap.size := by have := hx1.size; simp at this; omega
      clear hx1
      go_wp2_with fail
      refine (KW'.out _ (((((Ext.refl w).alloc _).alloc _).alloc _).trans HX1.out)).out.mono ?_; rintro e w2 ⟨rfl, hx2⟩
      have HX2 := Lib.hid (HX1.out.trans hx2)
      clear hc1 hf1 hz1
      obtain ⟨hc, hf⟩ := bcell HX2.out
      have hz2 : w.heap.size + 2 < w2.heap.size := by have := HX2.out.size; simp at this; omega
      have HXw := Lib.hid (((((Ext.refl w).alloc _).alloc _).alloc _).trans HX2.out)
      clear hx2
      go_wp2_with fail
      exact bodyPost_ret (v := .tuple #[.agg #[.bool false, .slice none 0 0, .slice none 0 0], .int .i64 (wchk s2 ys)]) (by simp [results, Tryz.results45, go_sem, hc]) rfl (RatP.nil HT.out rfl (by repeat (first | exact HXw.out | refine Ext.setCell ?_ (by simp; try omega) _)))
  · have HT := Lib.hid (show fmake s1 xs s2 ys = (Fr.zero, wchk s1 xs) from if_pos h1)
    have hne : (wchk s1 xs != 0) = true := bne_iff_ne.2 h1
    clear h1
    go_enter Tryz.func45, Tryz.ntmps45
    go_wp2_with fail
    refine (KW.out _ (by repeat (first | exact Ext.refl w | refine Ext.alloc ?_ _))).out.mono ?_; rintro e w1 ⟨rfl, hx1⟩
    have HXw := Lib.hid (((((Ext.refl w).alloc _).alloc _).alloc _).trans hx1)
    obtain ⟨hc, hf⟩ := bcell hx1
    have hz1 : w.heap.size + 2 < w1.heap.size := by have := hx1.size; simp at this; omega
    clear hx1
    go_wp2_with fail
    exact bodyPost_ret (v := .tuple #[.agg #[.bool false, .slice none 0 0, .slice none 0 0], .int .i64 (wchk s1 xs)]) (by simp [results, Tryz.results45, go_sem, hc]) rfl (RatP.nil HT.out rfl (by repeat (first | exact HXw.out | refine Ext.setCell ?_ (by simp; try omega) _)))
def FlP (w : World) (t : Bool × List Int × Int) (e : Ending) (w' : World) : Prop :=
  ∃ A c, e = .returned (.tuple #[.agg #[.bool t.1, .slice A t.2.1.length c], .int .i64 t.2.2]) ∧ Own w' w.heap.size A c t.2.1 ∧ Ext w w'
set_option maxRecDepth 4000 in
set_option maxHeartbeats 2000000 in
theorem floor_fr_raw (s : Bool) (xs ys : List Int) (A B : Option Addr) (c1 c2 : Nat) (w : World) (ha : Rd w A c1 xs) (hb : Rd w B c2 ys) (wa : (⟨s, xs, ys⟩ : Fr).Wf) :
    Calls Tryz.prog 44 #[.agg #[.bool s, .slice A xs.length c1, .slice B ys.length c2]] w (FlP w (ffloor ⟨s, xs, ys⟩)) := by
  have HCK := Lib.hid (fun wx (h1 : Rd wx A c1 xs) (h2 : Rd wx B c2 ys) => show Calls Tryz.prog 33 #[.agg #[.bool s, .slice A xs.length c1, .slice B ys.length c2]] wx (fun e w' => e = .returned (.int .i64 (fchk ⟨s, xs, ys⟩)) ∧ Ext wx w') from rcheck_fr ⟨s, xs, ys⟩ A B c1 c2 wx h1 h2 wa)
  obtain ⟨a, ea⟩ : ∃ a : Fr, a = ⟨s, xs, ys⟩ := ⟨_, rfl⟩
  rw [← ea] at HCK wa ⊢
  have HA := Lib.hid ha
  have HB := Lib.hid hb
  clear ha hb
  by_cases hk : fchk a ≠ 0
  · have HT := Lib.hid (show ffloor a = (false, [], fchk a) from if_pos hk)
    have hb1 : (fchk a != 0) = true := bne_iff_ne.2 hk
    rw [HT.out]
    clear hk ea
    go_enter Tryz.func44, Tryz.ntmps44
    go_wp2_with fail
    obtain ⟨W, hW⟩ : ∃ W, W = (w.alloc (.cells #[.bool s, .slice A xs.length c1, .slice B ys.length c2] 24)).alloc (.cells #[.bool false, .slice none 0 0] 68) := ⟨_, rfl⟩
    have F0 : Thr W w.heap.size (.bool s) (.slice A xs.length c1) (.slice B ys.length c2) := by rw [hW]; refine ⟨?_, ?_, ?_⟩ <;> simp [go_sem]
    have HX : Hid (Ext w W) := by rw [hW]; exact ((Ext.refl w).alloc _).alloc _
    have HV : Hid (Var (w.heap.size + 1) [.bool false, .slice none 0 0] W) := by
      have h1 := Var.new (w.alloc (.cells #[.bool s, .slice A xs.length c1, .slice B ys.length c2] 24)) [.bool false, .slice none 0 0] 68
      rw [hW]
      unfold Hid
      simpa using h1
    have HZ := Lib.hid (show W.heap.size = w.heap.size + 2 by rw [hW]; simp)
    try rw [← hW]
    clear hW
    refine (HCK.out W (HA.out.ext HX.out) (HB.out.ext HX.out)).mono ?_; rintro e w1 ⟨rfl, hx1⟩
    have F1 := thr_ext hx1 F0
    have HX1 := Lib.hid (HX.out.trans hx1)
    have HV1 := Lib.hid (HV.out.ext hx1)
    have HZ1 := Lib.hid (show w.heap.size + 2 ≤ w1.heap.size by have := hx1.size; have := HZ.out; omega)
    clear hx1 F0 HX HV
    have r0 := HV1.out.at_ 0 _ rfl
    have s0 := HV1.out.fr 0
    have r1 := HV1.out.at_ 1 _ rfl
    have s1 := HV1.out.fr 1
    clear F1
    go_wp2_with fail
    exact bodyPost_ret (v := .tuple #[.agg #[.bool false, .slice none 0 0], .int .i64 (fchk a)]) (by simp [results, Tryz.results44, go_sem, r0, r1]) rfl ⟨none, 0, rfl, Own.nil _ _, (by repeat (first | (with_reducible exact HX1.out) | refine Ext.setCell ?_ (by simp; try omega) _))⟩
  have h0 : fchk a = 0 := by simpa using hk
  have hb1 : (fchk a != 0) = false := bne_eq_false_iff_eq.2 h0
  obtain ⟨q, eq, lq⟩ := fchk_ok wa h0
  have LQ := not_lng lq
  have E1 : xs = wd q.num.natAbs := by have h := congrArg Fr.num (ea.symm.trans eq); exact h
  have E2 : ys = wd q.den := by have h := congrArg Fr.den (ea.symm.trans eq); exact h
  have E5 : s = decide (q.num < 0) := by have h := congrArg Fr.neg (ea.symm.trans eq); exact h
  have HT := Lib.hid (show ffloor a = (s, wd q.floor.natAbs, 0) by unfold ffloor; rw [if_neg (by omega), eq, dec_enc, E5]; rfl)
  rw [HT.out]
  have FP := floor_pos q
  have FN := floor_neg q
  have hden := q.den_nz
  obtain ⟨Q, hQ⟩ : ∃ Q, q.num.natAbs / q.den = Q := ⟨_, rfl⟩
  obtain ⟨R, hR⟩ : ∃ R, q.num.natAbs % q.den = R := ⟨_, rfl⟩
  have HDM := Lib.hid (fun wx (hx : Ext w wx) => by
    have h1 := divMod_any A B q.num.natAbs q.den c1 c2 wx (E1 ▸ HA.out.ext hx) (E2 ▸ HB.out.ext hx) hden (by omega) (by omega)
    rw [← E1, ← E2, hQ, hR] at h1
    exact h1)
  have lQ1 := wd_len_mono (show Q + 1 ≤ q.num.natAbs + 1 by rw [← hQ]; have := Nat.div_le_self q.num.natAbs q.den; omega)
  have lQ2 : R ≠ 0 → (wd (Q + 1)).length ≤ 2048 := fun hR0 => by
    have h1 : Q + 1 ≤ q.num.natAbs := by
      have e1 := Nat.div_add_mod q.num.natAbs q.den
      rw [hQ, hR] at e1
      have e2 : 1 * Q ≤ q.den * Q := Nat.mul_le_mul_right _ (by omega)
      omega
    have := wd_len_mono h1
    omega
  have lQ : (wd Q).length ≤ 2048 := by have := wd_len_mono (show Q ≤ q.num.natAbs by rw [← hQ]; exact Nat.div_le_self _ _); omega
  rw [hQ] at FP FN
  rw [hR] at FN
  obtain ⟨F, hF⟩ : ∃ F, q.floor.natAbs = F := ⟨_, rfl⟩
  rw [hF] at FP FN ⊢
  have hFS : q.floor < 0 → F ≠ 0 := fun h => by omega
  have HFP := Lib.hid (show s = false → F = Q from fun h => (FP (of_decide_eq_false (E5 ▸ h))).1)
  have HFN := Lib.hid (show s = true → (R = 0 → F = Q) ∧ (R ≠ 0 → F = Q + 1) ∧ F ≠ 0 from fun h => ⟨(FN (of_decide_eq_true (E5 ▸ h))).1, (FN (of_decide_eq_true (E5 ▸ h))).2.1, hFS (FN (of_decide_eq_true (E5 ▸ h))).2.2⟩)
  have HRZ := Lib.hid (show R = 0 ↔ (wd R).length = 0 from wd_len_zero.symm)
  have HL2 := Lib.hid lQ2
  clear hk h0 eq E1 E2 E5 ea wa HT FP FN hden hF hFS lQ1 lQ2 LQ lq hQ hR
  go_enter Tryz.func44, Tryz.ntmps44
  go_wp2_with fail
  obtain ⟨W, hW⟩ : ∃ W, W = (w.alloc (.cells #[.bool s, .slice A xs.length c1, .slice B ys.length c2] 24)).alloc (.cells #[.bool false, .slice none 0 0] 68) := ⟨_, rfl⟩
  have F0 : Thr W w.heap.size (.bool s) (.slice A xs.length c1) (.slice B ys.length c2) := by rw [hW]; refine ⟨?_, ?_, ?_⟩ <;> simp [go_sem]
  have HX : Hid (Ext w W) := by rw [hW]; exact ((Ext.refl w).alloc _).alloc _
  have HV : Hid (Var (w.heap.size + 1) [.bool false, .slice none 0 0] W) := by
    have h1 := Var.new (w.alloc (.cells #[.bool s, .slice A xs.length c1, .slice B ys.length c2] 24)) [.bool false, .slice none 0 0] 68
    rw [hW]
    unfold Hid
    simpa using h1
  have HZ := Lib.hid (show W.heap.size = w.heap.size + 2 by rw [hW]; simp)
  try rw [← hW]
  clear hW
  refine (HCK.out W (HA.out.ext HX.out) (HB.out.ext HX.out)).mono ?_; rintro e w1 ⟨rfl, hx1⟩
  have F1 := thr_ext hx1 F0
  have HX1 := Lib.hid (HX.out.trans hx1)
  have HV1 := Lib.hid (HV.out.ext hx1)
  have HZ1 := Lib.hid (show w.heap.size + 2 ≤ w1.heap.size by have := hx1.size; have := HZ.out; omega)
  clear hx1 F0 HX HV
  obtain ⟨u0, u1, u2⟩ := id F1
  go_wp2_with fail
  refine (HDM.out _ HX1.out).mono ?_; rintro e w2 ⟨A5, c5, B5, d5, rfl, o1, o2, ap, hx⟩
  have hzz := HZ1.out
  have O1 := Lib.hid (o1.lower (show w.heap.size + 2 ≤ w1.heap.size by omega))
  have F2 := thr_ext hx F1
  have HX2 := Lib.hid (HX1.out.trans hx)
  have HV2 := Lib.hid (HV1.out.ext hx)
  have hz2 := hx.size
  clear o1 o2 ap hx u0 u1 u2 F1 HV1
  obtain ⟨u0, u1, u2⟩ := id F2
  cases s with
  | false =>
    have HEF := Lib.hid (HFP.out rfl)
    have r0 := HV2.out.at_ 0 _ rfl
    have s0 := HV2.out.fr 0
    have r1 := HV2.out.at_ 1 _ rfl
    have s1 := HV2.out.fr 1
    go_wp2_with fail
    exact bodyPost_ret (v := .tuple #[.agg #[.bool false, .slice A5 (wd Q).length c5], .int .i64 0]) (by simp [results, Tryz.results44, go_sem, r0, r1]) rfl ⟨A5, c5, by rw [HEF.out], by rw [HEF.out]; exact (by refine Own.lower ?_ (show w.heap.size ≤ w.heap.size + 2 by omega); repeat (first | (with_reducible exact O1.out) | refine Own.setBelow ?_ (by simp; try omega) _)), (by repeat (first | (with_reducible exact HX2.out) | refine Ext.setCell ?_ (by simp; try omega) _))⟩
  | true =>
    obtain ⟨g1, g2, g3⟩ := HFN.out rfl
    by_cases hr : R = 0
    · have HEF := Lib.hid (g1 hr)
      have hrl : ¬ (0 < (wd R).length) := by have := HRZ.out.1 hr; omega
      have hql : 0 < (wd Q).length := by have h1 := HEF.out; have h2 := @wd_len_zero Q; omega
      clear g1 g2 g3 hr
      have r0 := HV2.out.at_ 0 _ rfl
      have s0 := HV2.out.fr 0
      have r1 := HV2.out.at_ 1 _ rfl
      have s1 := HV2.out.fr 1
      go_wp2_with fail
      exact bodyPost_ret (v := .tuple #[.agg #[.bool true, .slice A5 (wd Q).length c5], .int .i64 0]) (by simp [results, Tryz.results44, go_sem, r0, r1]) rfl ⟨A5, c5, by rw [HEF.out], by rw [HEF.out]; exact (by refine Own.lower ?_ (show w.heap.size ≤ w.heap.size + 2 by omega); repeat (first | (with_reducible exact O1.out) | refine Own.setBelow ?_ (by simp; try omega) _)), (by repeat (first | (with_reducible exact HX2.out) | refine Ext.setCell ?_ (by simp; try omega) _))⟩
    · have HEF := Lib.hid (g2 hr)
      have hrl : 0 < (wd R).length := by have h1 := mt HRZ.out.2 hr; omega
      have hql : 0 < (wd (Q + 1)).length := by have h2 := @wd_len_zero (Q + 1); omega
      have hl2 := HL2.out hr
      clear g1 g2 g3 hr
      have HAD := Lib.hid (fun (wx : World) (h1 : Rd wx A5 c5 (wd Q)) (b : Nat) (hb : Rd wx (some ⟨b, 0, none⟩) 1 [1]) => by
        have h := add_any A5 (some ⟨b, 0, none⟩) Q 1 c5 1 wx h1 (by rw [wd_one]; exact hb) (by omega) (by rw [wd_one]; decide)
        rw [show (wd 1).length = 1 by rw [wd_one]; rfl] at h
        exact h)
      go_wp2_with fail
      refine (HAD.out _ (O1.out.rd.ext ((Ext.refl _).alloc _)) _ (Own.lit w2 _ [1] rfl (by decide)).rd).mono ?_; rintro e w3 ⟨A6, c6, rfl, o1, hx⟩
      have O3 := Lib.hid (o1.lower (show w.heap.size + 2 ≤ (w2.alloc (.cells #[.int .u32 1] 59)).heap.size by simp; omega))
      have HXa := Lib.hid (((Ext.refl w2).alloc (.cells #[.int .u32 1] 59)).trans hx)
      clear o1 hx u0 u1 u2
      have HX3 := Lib.hid (HX2.out.trans HXa.out)
      have HV3 := Lib.hid (HV2.out.ext HXa.out)
      obtain ⟨u0, u1, u2⟩ := thr_ext HXa.out F2
      have r0 := HV3.out.at_ 0 _ rfl
      have s0 := HV3.out.fr 0
      have r1 := HV3.out.at_ 1 _ rfl
      have s1 := HV3.out.fr 1
      go_wp2_with fail
      exact bodyPost_ret (v := .tuple #[.agg #[.bool true, .slice A6 (wd (Q + 1)).length c6], .int .i64 0]) (by simp [results, Tryz.results44, go_sem, r0, r1]) rfl ⟨A6, c6, by rw [HEF.out], by rw [HEF.out]; exact (by refine Own.lower ?_ (show w.heap.size ≤ w.heap.size + 2 by omega); repeat (first | (with_reducible exact O3.out) | refine Own.setBelow ?_ (by simp; try omega) _)), (by repeat (first | (with_reducible exact HX3.out) | refine Ext.setCell ?_ (by simp; try omega) _))⟩
theorem floor_fr (a : Fr) (A B : Option Addr) (c1 c2 : Nat) (w : World) (ha : Rd w A c1 a.num) (hb : Rd w B c2 a.den) (wa : a.Wf) :
    Calls Tryz.prog 44 #[.agg #[.bool a.neg, .slice A a.num.length c1, .slice B a.den.length c2]] w (FlP w (ffloor a)) :=
  floor_fr_raw a.neg a.num a.den A B c1 c2 w ha hb wa
def sp_aCmp : Spec := { q := .un, ps := [tW32, tW32], rs := [.it .i64], fresh := true, pre := fun _ x => some (nrm x.1 ∧ nrm x.2.1), post := fun _ x => ((), (cmp (toN x.1) (toN x.2.1), ())) }
theorem fo_aCmp : FnOk Tryz.prog 70 sp_aCmp := by
  refine ⟨callFunc_enter Tryz.func70 (by kernel_rfl) rfl, fun Z w gv vs y x hZ hv hp _ _ => ?_⟩
  obtain ⟨xs, ys, u⟩ := x
  match vs, hv with
  | [u, v], ⟨h1, h2, _⟩ =>
    obtain ⟨p1, p2⟩ : nrm xs ∧ nrm ys := hp
    obtain ⟨m, rfl⟩ := nrm_ex p1
    obtain ⟨n, rfl⟩ := nrm_ex p2
    obtain ⟨A, c, rfl, k1, _⟩ := rv_wd h1
    obtain ⟨B, d, rfl, k2, _⟩ := rv_wd h2
    refine (compare_any A B m n c d w k1 k2).mono fun e w' ⟨e1, e2⟩ => ?_
    subst e1
    refine told_new (S := sp_aCmp) (r := (cmp (toN (wd m)) (toN (wd n)), ())) (us := [_]) (bs := []) rfl rfl (.inl ⟨_, rfl, rfl⟩) hZ ⟨[], [], rfl, ⟨?_, rfl⟩, rfl⟩ List.nodup_nil (fun g hg => by simp at hg) e2
    rw [RT, toN_wd, toN_wd]
    have := cmp_rng m n
    exact ⟨rfl, Int.le_trans (by decide) this.1, Int.le_trans this.2 (by decide)⟩
theorem told_WE {gv : Nat} {S : Spec} {Z : Nat → Prop} {w w' : World} {n : Nat} {e : Int} {A : Option Addr} {c : Nat} (hS : S.ptr = false) (hf : S.fresh = true) (hrs : S.rs = [tW32, .it .i64]) (he : Er e) (h1 : Own w' w.heap.size A c (wd n)) (h2 : Ext w w') (hZ : ∀ g, Z g → g < w.heap.size) {q : El S.q} {r : Els S.rs} (hr : r = hrs ▸ ((wd n, e, ()) : Els [tW32, .it .i64])) :
    ∃ v us bs Z', Ending.returned (.tuple #[.slice A (wd n).length c, .int .i64 e]) = .returned v ∧ told_ us v ∧ RQs S.fresh Z' w' w.heap.size S.rs r us bs ∧ bs.Nodup ∧ (∀ g ∈ bs, ¬ Z' g) ∧
      (∀ g, Z g → Z' g) ∧ (∀ g, Z' g → Z g ∨ w.heap.size ≤ g) ∧ (∀ g, Z' g → g < w'.heap.size) ∧ w.grownBy w' (if S.ptr = true then some gv else none) ∧
      (S.ptr = true → ∃ cells et, w'.heap[gv]? = some (.cells cells et (0, 0)) ∧ RT Z' w' S.q q cells.toList) := by
  refine told_new (us := [.slice A (wd n).length c, .int .i64 e]) (bs := blkA A) hS hf (.inr ⟨by simp, rfl⟩) hZ ?_ (blkA1_nodup A) (blkA1_base h1) h2
  obtain ⟨qq, ps, rs, fresh, pre, post⟩ := S
  cases hrs
  subst hr
  exact ⟨_, [], (List.append_nil _).symm, rq_own h1 (wf_wd n), [], [], rfl, rq_err (base := w.heap.size) he, rfl⟩
def sp_aGcd : Spec := { q := .un, ps := [tW32, tW32], rs := [tW32, .it .i64], fresh := true, pre := fun _ x => some (nrm x.1 ∧ nrm x.2.1 ∧ x.1.length ≤ 8192 ∧ x.2.1.length ≤ 8192), post := fun _ x => ((), (wd (Nat.gcd (toN x.1) (toN x.2.1)), 0, ())) }
theorem fo_aGcd : FnOk Tryz.prog 78 sp_aGcd := by
  refine ⟨callFunc_enter Tryz.func78 (by kernel_rfl) rfl, fun Z w gv vs y x hZ hv hp _ _ => ?_⟩
  obtain ⟨xs, ys, u⟩ := x
  match vs, hv with
  | [u, v], ⟨h1, h2, _⟩ =>
    obtain ⟨p1, p2, p3, p4⟩ : nrm xs ∧ nrm ys ∧ xs.length ≤ 8192 ∧ ys.length ≤ 8192 := hp
    obtain ⟨m, rfl⟩ := nrm_ex p1
    obtain ⟨n, rfl⟩ := nrm_ex p2
    obtain ⟨A, c, rfl, k1, _⟩ := rv_wd h1
    obtain ⟨B, d, rfl, k2, _⟩ := rv_wd h2
    refine (gcd_any A B m n c d w k1 k2 p3 p4).mono fun e w' ⟨A', c', e1, e2, e3⟩ => ?_
    subst e1
    exact told_WE (S := sp_aGcd) rfl rfl rfl Er.zero e2 e3 hZ (by show ((wd (Nat.gcd (toN (wd m)) (toN (wd n))), (0 : Int), ()) : Els [tW32, .it .i64]) = _; rw [toN_wd, toN_wd])
theorem fsign_rng (a : Fr) : -1 ≤ fsign a ∧ fsign a ≤ 1 := by
  unfold fsign
  repeat' split
  all_goals constructor <;> decide
def sp_rSgn : Spec := { q := .un, ps := [tR], rs := [.it .i64], fresh := true, pre := fun _ _ => none, post := fun _ x => ((), (fsign (toFr x.1), ())) }
theorem fo_rSgn : FnOk Tryz.prog 23 sp_rSgn := by
  refine ⟨callFunc_enter Tryz.func23 (by kernel_rfl) rfl, fun Z w gv vs y x hZ hv hp _ _ => ?_⟩
  match vs, hv with
  | [u], ⟨h1, _⟩ =>
    obtain ⟨p, rfl, k1⟩ := rv_fr h1
    refine (sign_fr (toFr x.1) p.A p.B _ _ w k1.num k1.den k1.wf).mono fun e w' ⟨e1, e2⟩ => ?_
    subst e1
    exact told_new (S := sp_rSgn) (r := (fsign (toFr x.1), ())) (us := [_]) (bs := []) rfl rfl (.inl ⟨_, rfl, rfl⟩) hZ ⟨[], [], rfl, rq_i64 (base := w.heap.size) (fsign_rng _), rfl⟩ List.nodup_nil (fun g hg => by simp at hg) e2
theorem rq_whole {Z : Nat → Prop} {w : World} {base : Nat} {A : Option Addr} {c : Nat} {b : Bool} {xs : List Int} (h : Own w base A c xs) (hw : Wf xs) : RQ true Z w base tWhole (b, xs, ()) [.bool b, .slice A xs.length c] (blkA A) :=
  ⟨[_], [_], [], _, rfl, rfl, ⟨by rw [RT], rfl⟩, [_], [], _, [], rfl, (List.append_nil _).symm, rq_own h hw, rfl, rfl⟩
def flR (t : Bool × List Int × Int) : El .un × Els [tWhole, .it .i64] := ((), ((t.1, t.2.1, ()), t.2.2, ()))
def sp_rFloor : Spec := { q := .un, ps := [tR], rs := [tWhole, .it .i64], fresh := true, pre := fun _ _ => none, post := fun _ x => flR (ffloor (toFr x.1)) }
theorem er_floor (a : Fr) : Er (ffloor a).2.2 ∧ Wf (ffloor a).2.1 := by
  unfold ffloor
  split
  · exact ⟨er_fchk a, wf_nil⟩
  · exact ⟨Er.zero, wf_wd _⟩
theorem fo_rFloor : FnOk Tryz.prog 44 sp_rFloor := by
  refine ⟨callFunc_enter Tryz.func44 (by kernel_rfl) rfl, fun Z w gv vs y x hZ hv hp _ _ => ?_⟩
  match vs, hv with
  | [u], ⟨h1, _⟩ =>
    obtain ⟨p, rfl, k1⟩ := rv_fr h1
    refine (floor_fr (toFr x.1) p.A p.B _ _ w k1.num k1.den k1.wf).mono fun e w' ⟨A, c, e1, e2, e3⟩ => ?_
    subst e1
    exact told_new (S := sp_rFloor) (r := (flR (ffloor (toFr x.1))).2) (us := [.agg #[.bool (ffloor (toFr x.1)).1, .slice A (ffloor (toFr x.1)).2.1.length c], .int .i64 (ffloor (toFr x.1)).2.2]) (bs := blkA A) rfl rfl (.inr ⟨by simp, rfl⟩) hZ ⟨_, [], (List.append_nil _).symm, ⟨_, rfl, rq_whole e2 (er_floor _).2⟩, [], [], rfl, rq_err (base := w.heap.size) (er_floor _).1, rfl⟩ (blkA1_nodup A) (blkA1_base e2) e3
theorem rv_whole {Z : Nat → Prop} {w : World} {x : El tWhole} {v : Value} (h : RV Z w tWhole x v) : ∃ A c, v = .agg #[.bool x.1, .slice A x.2.1.length c] ∧ Rd w A c x.2.1 ∧ Wf x.2.1 := by
  unfold RV at h
  rw [if_pos (show tWhole.agg = true from rfl)] at h
  obtain ⟨us, rfl, h⟩ := h
  obtain ⟨u1, u2, e, h1, h2⟩ := h.pr_
  obtain ⟨u3, u4, e2, h3, h4⟩ := h2.pr_
  obtain ⟨A, c, e3, k1, k2⟩ := rd_of h3
  have e4 := h1.bo_
  have e5 := h4.un_
  subst e2 e3 e4 e5
  refine ⟨A, c, ?_, k1, k2⟩
  rw [show us = us.toList.toArray by simp, e]
  rfl
def sp_rMake : Spec := { q := .un, ps := [tWhole, tWhole], rs := [tR, .it .i64], fresh := true, pre := fun _ _ => none, post := fun _ x => pR (fmake x.1.1 x.1.2.1 x.2.1.1 x.2.1.2.1) }
theorem er_wchk (s : Bool) (xs : List Int) : Er (wchk s xs) := by
  unfold wchk
  repeat' split
  all_goals exact ⟨by decide, by decide⟩
theorem er_fmake (s : Bool) (xs : List Int) (t : Bool) (ys : List Int) : Er (fmake s xs t ys).2 := by
  unfold fmake
  split
  · exact er_wchk s xs
  · split
    · exact er_wchk t ys
    · split
      · exact ⟨by decide, by decide⟩
      · exact er_tell _
theorem fmake_wf (s : Bool) (xs : List Int) (t : Bool) (ys : List Int) : (fmake s xs t ys).1.Wf := by
  unfold fmake
  split
  · exact Fr.zero_wf
  · split
    · exact Fr.zero_wf
    · split
      · exact Fr.zero_wf
      · exact (tell_good _).wf
theorem fo_rMake : FnOk Tryz.prog 45 sp_rMake := by
  refine ⟨callFunc_enter Tryz.func45 (by kernel_rfl) rfl, fun Z w gv vs y x hZ hv _ _ _ => ?_⟩
  match vs, hv with
  | [u, v], ⟨h1, h2, _⟩ =>
    obtain ⟨A, c, rfl, k1, k2⟩ := rv_whole h1
    obtain ⟨B, d, rfl, l1, l2⟩ := rv_whole h2
    exact (make_any _ _ A B _ _ c d w k1 l1 k2 l2).mono fun e w' ht => told_TF (S := sp_rMake) rfl rfl rfl (er_fmake _ _ _ _) (ht.tf (fmake_wf _ _ _ _)) hZ rfl
section
variable {P : Program} {C : Cfg} {gp : Option Nat} {Z0 Z Z' : Nat → Prop} {w0 w w' : World} {D D' : Nat → Prop} {c c' : Cf} {T : Nat → Option AV} {O O' : Store} {a : Act} {o : Oper} {N : Nat}
end
section
variable {P : Program} {C : Cfg} {gp : Option Nat} {Z0 Z Z' : Nat → Prop} {w0 w w' : World} {D D' : Nat → Prop} {c c' : Cf} {T : Nat → Option AV} {O O' : Store} {a : Act} {N : Nat}
end
theorem wf_i {l : List Int} (h : wfE tW32 l) : Wf l := fun x hx => ⟨(h.2 x hx).1, Int.lt_of_le_of_lt (h.2 x hx).2 (by decide)⟩
theorem wf_fr {a : El tR} (h : wfE tR a) : (toFr a).Wf := ⟨wf_i h.2.1, wf_i h.2.2.1⟩
section
variable {gp : Option Nat} {Z0 : Nat → Prop} {w0 w w' : World} {D : Nat → Prop} {c : Cf} {T : Nat → Option AV} {O : Store} {a : Act} {N : Nat}
end
section
variable {wb w0 w w' : World} {row : Option Nat} {V : List (Nat × List Value)} {R : List (Adr × Fr)}
end
def pick {α : Type} (R : List α) : List Nat → List α
  | [] => []
  | i :: I => match R[i]? with
    | some x => x :: pick R I
    | none => pick R I
section
variable {wb w0 w w' : World} {row : Option Nat} {V : List (Nat × List Value)} {R : List (Adr × Fr)}
end
section
variable {wb w0 w w' : World} {row : Option Nat} {V : List (Nat × List Value)} {R : List (Adr × Fr)}
end
section
variable {gp : Option Nat} {Z0 : Nat → Prop} {w0 w w' : World} {D : Nat → Prop} {c : Cf} {T : Nat → Option AV} {O : Store} {a : Act} {N : Nat}
end
def cut (w : World) (n : Nat) : World := { w with heap := w.heap.extract 0 n }
theorem ba_loop (s : ByteArray) (i : Nat) (r : List UInt8) : ByteArray.toList.loop s i r = r.reverse ++ s.data.toList.drop i := by
  by_cases h : i < s.size
  · rw [ByteArray.toList.loop, if_pos h, ba_loop s (i + 1), List.reverse_cons, List.append_assoc]
    have hl : i < s.data.toList.length := h
    rw [List.drop_eq_getElem_cons hl]
    congr 1
    show [s.get! i] ++ _ = _
    have : s.get! i = s.data.toList[i] := by
      show s.data[i]! = _
      rw [getElem!_pos s.data i h]
      simp
    rw [this]
    rfl
  · rw [ByteArray.toList.loop, if_neg h, List.drop_of_length_le (by show s.data.toList.length ≤ i; simpa using h), List.append_nil]
  termination_by s.size - i
theorem ba_list (s : ByteArray) : s.toList = s.data.toList := by
  unfold ByteArray.toList
  rw [ba_loop]
  rfl
theorem ba_0 (s : ByteArray) : (s.toList == ByteArray.toList { data := #[] }) = decide (s.size = 0) := by
  rw [Bool.eq_iff_iff, beq_iff_eq, decide_eq_true_eq, ba_list, ba_list]
  obtain ⟨⟨a⟩⟩ := s
  show a = [] ↔ a.length = 0
  simp
theorem ltT {a b : Int} (h : decide (a < b) = true) : a < b := of_decide_eq_true h
theorem ltF {a b : Int} (h : decide (a < b) = false) : b ≤ a := by have := of_decide_eq_false h; omega
theorem gtT {a b : Int} (h : decide (a > b) = true) : b < a := of_decide_eq_true h
theorem gtF {a b : Int} (h : decide (a > b) = false) : a ≤ b := by have := of_decide_eq_false h; omega
theorem leT {a b : Int} (h : decide (a ≤ b) = true) : a ≤ b := of_decide_eq_true h
theorem leF {a b : Int} (h : decide (a ≤ b) = false) : b < a := by have := of_decide_eq_false h; omega
theorem geT {a b : Int} (h : decide (a ≥ b) = true) : b ≤ a := of_decide_eq_true h
theorem geF {a b : Int} (h : decide (a ≥ b) = false) : a < b := by have := of_decide_eq_false h; omega
theorem eqT {a b : Int} (h : (a == b) = true) : a = b := eq_of_beq h
theorem eqF {a b : Int} (h : (a == b) = false) : a ≠ b := ne_of_beq_false h
theorem neT {a b : Int} (h : (a != b) = true) : a ≠ b := by simpa using h
theorem neF {a b : Int} (h : (a != b) = false) : a = b := by simpa using h
theorem wrap64_32 {a : Int} (h : -2147483648 ≤ a ∧ a ≤ 2147483647) : IntKind.i64.wrap a = a := wrap_id (k := .i64) (by have : IntKind.i64.min = -9223372036854775808 := rfl; omega) (by have : IntKind.i64.max = 9223372036854775807 := rfl; omega)
noncomputable def sp_klong : Spec := { q := .un, ps := [tW32], rs := [.bo], fresh := true, pre := fun _ _ => none, post := fun _ x => ((), (isLong x.1.length, ())) }
noncomputable def iv_klong (y : El sp_klong.q) (x : Els sp_klong.ps) : Nat → Option Inv := fun _ => none
noncomputable abbrev c_klong : Cfg := cfgS (Tryz.f67).ntmps false []
def F_klong (y : El sp_klong.q) (x : Els sp_klong.ps) : Prop :=
  (decide ((x.1.length : Int) > (60 : Int)) = true → (decide ((x.1.length : Int) ≤ (2048 : Int)) = true → (true, ()) = (isLong (List.length x.1), ())) ∧ (decide ((x.1.length : Int) ≤ (2048 : Int)) = false → (decide ((x.1.length : Int) ≥ (2057 : Int)), ()) = (isLong (List.length x.1), ()))) ∧ (decide ((x.1.length : Int) > (60 : Int)) = false → (false, ()) = (isLong (List.length x.1), ()))
theorem w_klong (y : El sp_klong.q) (x : Els sp_klong.ps) : aW c_klong (iv_klong y x) Tryz.f67 sp_klong y x = F_klong y x := by kernel_rfl
theorem m_klong (y : El (.un)) (x : Els [tW32]) (h2 : wfE (.un) y) (h3 : wfEs [tW32] x) : F_klong y x := by
  unfold F_klong
  unfold isLong
  refine ⟨fun h => ⟨fun k => ?_, fun k => ?_⟩, fun h => ?_⟩
  · have h := gtT h
    have k := leT k
    rw [decide_eq_true ⟨by omega, .inl (by omega)⟩]
  · have h := gtT h
    have k := leF k
    refine congrArg (fun b => (b, ())) ?_
    rw [Bool.eq_iff_iff, decide_eq_true_eq, decide_eq_true_eq]
    omega
  · have h := gtF h
    rw [decide_eq_false (by omega)]
theorem fo_klong : FnOk Tryz.prog 67 sp_klong := fnOk_of (C := c_klong) iv_klong Tryz.func67 rfl (by kernel_rfl) tys_ok prims_nil mixed_ (Nat.le_refl _) rfl fun y x h1 h2 h3 h4 =>
  Eq.mpr (w_klong y x) (m_klong y x h2 h3)
def lngF (f : Fr) : Bool := isLong f.num.length || isLong f.den.length
def longs (l : List (El tR)) : Bool := l.any fun f => lngF (toFr f)
theorem any_at {α : Type} {f : α → Bool} {l : List α} {i : Nat} (h : i < l.length) (d : α) (k : f (l.getD i d) = true) : l.any f = true := by
  rw [List.getD_eq_getElem?_getD, List.getElem?_eq_getElem h] at k
  rw [List.any_eq_true]
  exact ⟨l[i], List.getElem_mem h, k⟩
theorem any_take {α : Type} {f : α → Bool} {l : List α} {i : Nat} (h : i < l.length) (d : α) (k : (l.take i).any f = false) (m : f (l.getD i d) = false) : (l.take (i + 1)).any f = false := by
  rw [List.getD_eq_getElem?_getD, List.getElem?_eq_getElem h] at m
  rw [List.take_add_one, List.getElem?_eq_getElem h, Option.toList_some, List.any_append, k]
  simpa using m
noncomputable def sp_kLong : Spec := { q := .un, ps := [.sl tR], rs := [.bo], fresh := true, pre := fun _ _ => none, post := fun _ x => ((), (longs x.1, ())) }
noncomputable def iv_kLong (y : El sp_kLong.q) (x : Els sp_kLong.ps) : Nat → Option Inv := fun k => if k = 0 then some { X := Nat, tm := fun i => [(0, .c (.sl tR x.1)), (3, .c (.sc (.int .i64 i)))], ob := fun _ => [], n := 1, I := fun i => i ≤ x.1.length ∧ longs (x.1.take i) = false, μ := fun i => x.1.length - i } else none
noncomputable abbrev c_kLong : Cfg := cfgS (Tryz.f24).ntmps false [(67, sp_klong.prim)]
def F_kLong (y : El sp_kLong.q) (x : Els sp_kLong.ps) : Prop :=
  (∃ (x_1 : Nat), x.1 = x.1 ∧ (↑x_1 : Int) = (0 : Int) ∧ x_1 ≤ List.length x.1 ∧ longs (List.take x_1 x.1) = false) ∧ ∀ (x_1 : Nat), x_1 ≤ List.length x.1 ∧ longs (List.take x_1 x.1) = false → (decide ((↑x_1 : Int) < (x.1.length : Int)) = true → ((0 : Int) ≤ (↑x_1 : Int) ∧ (↑x_1 : Int) < (x.1.length : Int)) ∧ ∀ (r : Ro [Ty.bo]), r = ((), isLong (List.length (List.getD x.1 (↑x_1 : Int).toNat (dfl tR)).2.1), ()) → (r.2.1 = true → (true, ()) = (longs x.1, ())) ∧ (r.2.1 = false → ((0 : Int) ≤ (↑x_1 : Int) ∧ (↑x_1 : Int) < (x.1.length : Int)) ∧ ∀ (r : Ro [Ty.bo]), r = ((), isLong (List.length (List.getD x.1 (↑x_1 : Int).toNat (dfl tR)).2.2.1), ()) → (r.2.1 = true → (true, ()) = (longs x.1, ())) ∧ (r.2.1 = false → ((-9223372036854775808 : Int) ≤ (↑x_1 : Int) + (1 : Int) ∧ (↑x_1 : Int) + (1 : Int) ≤ (9223372036854775807 : Int)) ∧ ∃ (x' : Nat), x.1 = x.1 ∧ (↑x' : Int) = (↑x_1 : Int) + (1 : Int) ∧ (x' ≤ List.length x.1 ∧ longs (List.take x' x.1) = false) ∧ List.length x.1 - x' < List.length x.1 - x_1))) ∧ (decide ((↑x_1 : Int) < (x.1.length : Int)) = false → (false, ()) = (longs x.1, ()))
theorem w_kLong (y : El sp_kLong.q) (x : Els sp_kLong.ps) : aW c_kLong (iv_kLong y x) Tryz.f24 sp_kLong y x = F_kLong y x := by kernel_rfl
theorem m_kLong (y : El (.un)) (x : Els [.sl tR]) (h2 : wfE (.un) y) (h3 : wfEs [.sl tR] x) : F_kLong y x := by
  unfold F_kLong
  have hL : x.1.length ≤ 9223372036854775807 := h3.1.1
  refine ⟨⟨0, rfl, rfl, Nat.zero_le _, rfl⟩, fun i hi => ⟨fun h => ?_, fun h => ?_⟩⟩
  · obtain ⟨i0, i1⟩ := hi
    have h := ltT h
    have il : i < x.1.length := by omega
    refine ⟨⟨by omega, h⟩, ?_⟩
    rw [Int.toNat_natCast]
    rintro _ rfl
    refine ⟨fun k => ?_, fun k => ⟨⟨by omega, h⟩, ?_⟩⟩
    · have k : isLong (toFr (x.1.getD i (dfl tR))).num.length = true := k
      have : longs x.1 = true := any_at (f := fun f => lngF (toFr f)) il (dfl tR) (by show lngF _ = true; unfold lngF; rw [k]; rfl)
      rw [this]
    rintro _ rfl
    refine ⟨fun m => ?_, fun m => ⟨⟨by omega, by omega⟩, i + 1, rfl, rfl, ⟨il, ?_⟩, by omega⟩⟩
    · have m : isLong (toFr (x.1.getD i (dfl tR))).den.length = true := m
      have : longs x.1 = true := any_at (f := fun f => lngF (toFr f)) il (dfl tR) (by show lngF _ = true; unfold lngF; rw [m]; simp)
      rw [this]
    · have k : isLong (toFr (x.1.getD i (dfl tR))).num.length = false := k
      have m : isLong (toFr (x.1.getD i (dfl tR))).den.length = false := m
      exact any_take (f := fun f => lngF (toFr f)) il (dfl tR) i1 (by show lngF _ = false; unfold lngF; rw [k, m]; rfl)
  · obtain ⟨i0, i1⟩ := hi
    have h := ltF h
    rw [List.take_of_length_le (by omega)] at i1
    rw [i1]
theorem fo_kLong : FnOk Tryz.prog 24 sp_kLong := fnOk_of (C := c_kLong) iv_kLong Tryz.func24 rfl (by kernel_rfl) tys_ok (prims_cons (spec_prim fo_klong) prims_nil) mixed_ (Nat.le_refl _) rfl fun y x h1 h2 h3 h4 =>
  Eq.mpr (w_kLong y x) (m_kLong y x h2 h3)
def gint (a b : Int) : Ga := ⟨(fsmall a 1).1, (fsmall b 1).1⟩
section
variable {t r : Ga}
end
section
variable {r : El tRule}
end
def gone (r : Ga) : Ga × Int := if r = gint (-1) 0 then (Ga.zero, 7) else gadd (gint 1 0) r
end Go.Proofs.YtakaehdolpmelaaGreatDoor
