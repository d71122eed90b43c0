/- Texts of this claim, joined: B19 B20 B21. -/
import Derived.Test.YtakaehdolpmelaaGreatQw
set_option linter.unusedVariables false
set_option linter.unusedSimpArgs false
set_option maxRecDepth 100000
namespace Go.Proofs.YtakaehdolpmelaaGreat
open Go Go.RowKit
def toN (l : List Int) : Nat := (val l).toNat
def nrm (l : List Int) : Prop := l = wd (toN l)
theorem toN_wd (n : Nat) : toN (wd n) = n := by
  unfold toN
  rw [val_wd]
  rfl
theorem nrm_wd (n : Nat) : nrm (wd n) := by
  unfold nrm
  rw [toN_wd]
theorem nrm_ex {l : List Int} (h : nrm l) : ∃ n, l = wd n := ⟨_, h⟩
theorem rv_wd {Z : Nat → Prop} {w : World} {l : List Int} {v : Value} (h : RV Z w tW32 l v) : ∃ A c, v = .slice A l.length c ∧ Rd w A c l ∧ Wf l := by
  unfold RV at h
  rw [if_neg (by simp [Ty.agg])] at h
  obtain ⟨A, c, e, h1, h2⟩ := rd_of h
  exact ⟨A, c, by simpa using e, h1, h2⟩
theorem blkA1_nodup (A : Option Addr) : (blkA A).Nodup := by cases A <;> simp [blkA]
theorem blkA1_base {w : World} {base : Nat} {A : Option Addr} {c : Nat} {xs : List Int} (h : Own w base A c xs) : ∀ g ∈ blkA A, base ≤ g := fun g hg => by
  cases hA : A with
  | none => rw [hA] at hg; simp [blkA] at hg
  | some a => rw [hA] at hg; simp [blkA] at hg; rw [hA] at h; rw [hg]; exact h.block.1
def spW (F : Nat → Nat → Nat) (C : Nat → Nat → Prop) : Spec := { q := .un, ps := [tW32, tW32], rs := [tW32], fresh := true, pre := fun _ x => some (nrm x.1 ∧ nrm x.2.1 ∧ x.1.length ≤ 4096 ∧ x.2.1.length ≤ 4096 ∧ C (toN x.1) (toN x.2.1)), post := fun _ x => ((), (wd (F (toN x.1) (toN x.2.1)), ())) }
theorem told_wd {gv : Nat} {S : Spec} {Z : Nat → Prop} {w w' : World} {n : Nat} {A : Option Addr} {c : Nat} (hS : S.ptr = false) (hf : S.fresh = true) (hrs : S.rs = [tW32]) (h1 : Own w' w.heap.size A c (wd n)) (h2 : Ext w w') (hZ : ∀ g, Z g → g < w.heap.size) {q : El S.q} {r : Els S.rs} (hr : r = hrs ▸ ((wd n, ()) : Els [tW32])) :
    ∃ v us bs Z', Ending.returned (.slice A (wd n).length c) = .returned v ∧ told_ us v ∧ RQs S.fresh Z' w' w.heap.size S.rs r us bs ∧ bs.Nodup ∧ (∀ g ∈ bs, ¬ Z' g) ∧
      (∀ g, Z g → Z' g) ∧ (∀ g, Z' g → Z g ∨ w.heap.size ≤ g) ∧ (∀ g, Z' g → g < w'.heap.size) ∧ w.grownBy w' (if S.ptr = true then some gv else none) ∧
      (S.ptr = true → ∃ cells et, w'.heap[gv]? = some (.cells cells et (0, 0)) ∧ RT Z' w' S.q q cells.toList) := by
  refine told_new (us := [.slice A (wd n).length c]) (bs := blkA A) hS hf (.inl ⟨_, rfl, rfl⟩) hZ ?_ (blkA1_nodup A) (blkA1_base h1) h2
  obtain ⟨qq, ps, rs, fresh, pre, post⟩ := S
  cases hrs
  subst hr
  exact ⟨_, [], (List.append_nil _).symm, rq_own h1 (wf_wd n), rfl⟩
theorem toN_val {xs : List Int} (h : Wf xs) : val xs = (toN xs : Nat) := by
  have := V_nonneg h xs.length
  unfold toN val
  omega
theorem cmp_rng (m n : Nat) : -1 ≤ cmp m n ∧ cmp m n ≤ 1 := by
  unfold cmp
  repeat' split
  all_goals omega
def spTrim : Spec := { q := .un, ps := [tW32], rs := [tW32], fresh := true, pre := fun _ x => some (x.1.length ≤ 8192), post := fun _ x => ((), (wd (toN x.1), ())) }
def spCmp : Spec := { q := .un, ps := [tW32, tW32], rs := [.it .i64], fresh := true, pre := fun _ _ => none, post := fun _ x => ((), (cmp (toN x.1) (toN x.2.1), ())) }
def spOver : Spec := { q := .un, ps := [tW32, tW32], rs := [tW32, tW32], fresh := false, pre := fun _ x => some (nrm x.1 ∧ nrm x.2.1 ∧ x.1.length ≤ 4096 ∧ toN x.2.1 ≠ 0), post := fun _ x => ((), (wd (toN x.1 / toN x.2.1), wd (toN x.1 % toN x.2.1), ())) }
section
variable {f : Nat} (hc : ∀ (vs : Array Value) (w : World), (callFunc f vs).run Tryz.prog w = .ok (.enter f vs) w)
include hc
theorem fnOk_W {F : Nat → Nat → Nat} {C : Nat → Nat → Prop} (h : ∀ (A B : Option Addr) (m n c d : Nat) (w : World), Rd w A c (wd m) → Rd w B d (wd n) → (wd m).length ≤ 4096 → (wd n).length ≤ 4096 → C m n → Calls Tryz.prog f #[.slice A (wd m).length c, .slice B (wd n).length d] w fun e w' => ∃ A' c', e = .returned (.slice A' (wd (F m n)).length c') ∧ Own w' w.heap.size A' c' (wd (F m n)) ∧ Ext w w') : FnOk Tryz.prog f (spW F C) := by
  refine ⟨hc, fun Z w gv vs y x hZ hv hp _ _ => ?_⟩
  obtain ⟨xs, ys, u⟩ := x
  match vs, hv with
  | [u, v], ⟨h1, h2, _⟩ =>
    obtain ⟨p1, p2, p3, p4, p5⟩ : nrm xs ∧ nrm ys ∧ xs.length ≤ 4096 ∧ ys.length ≤ 4096 ∧ C (toN xs) (toN ys) := hp
    obtain ⟨m, rfl⟩ := nrm_ex p1
    obtain ⟨n, rfl⟩ := nrm_ex p2
    obtain ⟨A, c, rfl, k1, _⟩ := rv_wd h1
    obtain ⟨B, d, rfl, k2, _⟩ := rv_wd h2
    rw [toN_wd, toN_wd] at p5
    refine (h A B m n c d w k1 k2 p3 p4 p5).mono fun e w' ⟨A', c', e1, e2, e3⟩ => ?_
    subst e1
    exact told_wd (S := spW F C) rfl rfl rfl e2 e3 hZ (by show ((wd (F (toN (wd m)) (toN (wd n))), ()) : Els [tW32]) = _; rw [toN_wd, toN_wd])
theorem fnOk_Trim (h : ∀ (A : Option Addr) (xs : List Int) (c l n : Nat) (w : World), Rd w A c xs → xs.length = l → Wf xs → val xs = n → l ≤ 35184372088832 → Calls Tryz.prog f #[.slice A l c] w fun e w' => ∃ A' c', e = .returned (.slice A' (wd n).length c') ∧ Own w' w.heap.size A' c' (wd n) ∧ Ext w w') : FnOk Tryz.prog f spTrim := by
  refine ⟨hc, fun Z w gv vs y x hZ hv hp _ _ => ?_⟩
  match vs, hv with
  | [u], ⟨h1, _⟩ =>
    have hp : x.1.length ≤ 8192 := hp
    obtain ⟨A, c, rfl, k1, k2⟩ := rv_wd h1
    refine (h A x.1 c x.1.length (toN x.1) w k1 rfl k2 (toN_val k2) (by omega)).mono fun e w' ⟨A', c', e1, e2, e3⟩ => ?_
    subst e1
    exact told_wd (S := spTrim) rfl rfl rfl e2 e3 hZ rfl
theorem fnOk_Cmp (h : ∀ (A B : Option Addr) (xs ys : List Int) (c d la lb m n : Nat) (w : World), Rd w A c xs → Rd w B d ys → xs.length = la → ys.length = lb → Wf xs → Wf ys → val xs = m → val ys = n → Calls Tryz.prog f #[.slice A la c, .slice B lb d] w fun e w' => e = .returned (.int .i64 (cmp m n)) ∧ w = w') : FnOk Tryz.prog f spCmp := by
  refine ⟨hc, fun Z w gv vs y x hZ hv hp _ _ => ?_⟩
  match vs, hv with
  | [u, v], ⟨h1, h2, _⟩ =>
    obtain ⟨A, c, rfl, k1, k2⟩ := rv_wd h1
    obtain ⟨B, d, rfl, l1, l2⟩ := rv_wd h2
    refine (h A B x.1 x.2.1 c d _ _ (toN x.1) (toN x.2.1) w k1 l1 rfl rfl k2 l2 (toN_val k2) (toN_val l2)).mono fun e w' ⟨e1, e2⟩ => ?_
    subst e1
    subst e2
    refine told_new (S := spCmp) (r := (cmp (toN x.1) (toN x.2.1), ())) (us := [_]) (bs := []) rfl rfl (.inl ⟨_, rfl, rfl⟩) hZ ⟨[], [], rfl, ⟨?_, rfl⟩, rfl⟩ List.nodup_nil (fun g hg => by simp at hg) (Ext.refl w)
    rw [RT]
    have := cmp_rng (toN x.1) (toN x.2.1)
    exact ⟨rfl, Int.le_trans (by decide) this.1, Int.le_trans this.2 (by decide)⟩
theorem fnOk_Over (h : ∀ (A B : Option Addr) (m n c d : Nat) (w : World), Rd w A c (wd m) → Rd w B d (wd n) → n ≠ 0 → (wd m).length ≤ 8192 → ∀ (Q R : Nat), m / n = Q → m % n = R → Calls Tryz.prog f #[.slice A (wd m).length c, .slice B (wd n).length d] w (Pair w Q R)) : FnOk Tryz.prog f spOver := by
  refine ⟨hc, fun Z w gv vs y x hZ hv hp _ _ => ?_⟩
  obtain ⟨xs, ys, u⟩ := x
  match vs, hv with
  | [u, v], ⟨h1, h2, _⟩ =>
    obtain ⟨p1, p2, p3, p4⟩ : nrm xs ∧ nrm ys ∧ xs.length ≤ 4096 ∧ toN ys ≠ 0 := hp
    obtain ⟨m, rfl⟩ := nrm_ex p1
    obtain ⟨n, rfl⟩ := nrm_ex p2
    obtain ⟨A, c, rfl, k1, _⟩ := rv_wd h1
    obtain ⟨B, d, rfl, k2, _⟩ := rv_wd h2
    rw [toN_wd] at p4
    refine (h A B m n c d w k1 k2 p4 (by omega) _ _ rfl rfl).mono fun e w' ⟨A', c', B', d', e1, e2, e3, e4⟩ => ?_
    subst e1
    have q1 := rq_own (Z := Z) e2 (wf_wd _)
    have q2 := rq_own (Z := Z) e3 (wf_wd _)
    obtain ⟨Z', hZ'⟩ : ∃ Z' : Nat → Prop, Z' = fun g => Z g ∨ (w.heap.size ≤ g ∧ g < w'.heap.size) := ⟨_, rfl⟩
    have z1 : ∀ g, Z g → Z' g := fun g h => by rw [hZ']; exact .inl h
    have z2 : ∀ g, Z' g → Z g ∨ w.heap.size ≤ g := fun g h => by
      rw [hZ'] at h
      rcases h with h | h
      · exact .inl h
      · exact .inr h.1
    have z3 : ∀ g, Z' g → g < w'.heap.size := fun g h => by
      rw [hZ'] at h
      rcases h with h | h
      · exact Nat.lt_of_lt_of_le (hZ g h) (Ext.size e4)
      · exact h.2
    have z4 : ∀ g, w.heap.size ≤ g ∧ g < w'.heap.size → Z' g := fun g h => by rw [hZ']; exact .inr h
    have r1 : RT Z' w' tW32 (wd (m / n)) [.slice A' (wd (m / n)).length c'] := q1.rt rfl (fun g hg => z4 g (q1.lt_ g hg))
    have r2 : RT Z' w' tW32 (wd (m % n)) [.slice B' (wd (m % n)).length d'] := q2.rt rfl (fun g hg => z4 g (q2.lt_ g hg))
    have r3 : RQs spOver.fresh Z' w' w.heap.size spOver.rs (spOver.post y (wd m, wd n, u)).2 [.slice A' (wd (m / n)).length c', .slice B' (wd (m % n)).length d'] [] := by
      show RQs false Z' w' w.heap.size [tW32, tW32] (wd (toN (wd m) / toN (wd n)), wd (toN (wd m) % toN (wd n)), ()) _ _
      rw [toN_wd, toN_wd]
      exact ⟨[], [], rfl, ⟨r1, rfl⟩, [], [], rfl, ⟨r2, rfl⟩, rfl⟩
    exact ⟨_, _, [], Z', rfl, .inr ⟨by simp, rfl⟩, r3, List.nodup_nil, (fun g hg => by cases hg), z1, z2, z3, Ext.by_ e4 none, (fun h => by cases h)⟩
end
def sp_wTrim : Spec := spTrim
theorem fo_wTrim : FnOk Tryz.prog 205 sp_wTrim := fnOk_Trim (callFunc_enter Tryz.func205 (by kernel_rfl) rfl) gtrim_any
def sp_wCmp : Spec := spCmp
theorem fo_wCmp : FnOk Tryz.prog 182 sp_wCmp := fnOk_Cmp (callFunc_enter Tryz.func182 (by kernel_rfl) rfl) gcompare_any
def sp_wOver : Spec := spOver
theorem fo_wOver : FnOk Tryz.prog 186 sp_wOver := fnOk_Over (callFunc_enter Tryz.func186 (by kernel_rfl) rfl) gover_any
def sp_wPlus : Spec := spW (fun m n => m + n) (fun _ _ => True)
theorem fo_wPlus : FnOk Tryz.prog 181 sp_wPlus := fnOk_W (callFunc_enter Tryz.func181 (by kernel_rfl) rfl) (fun A B m n c d w a b l k _ => gplus_any A B m n c d w a b (by omega) (by omega))
def sp_wTimes : Spec := spW (fun m n => m * n) (fun _ _ => True)
theorem fo_wTimes : FnOk Tryz.prog 184 sp_wTimes := fnOk_W (callFunc_enter Tryz.func184 (by kernel_rfl) rfl) (fun A B m n c d w a b l k _ => gtimes_any A B m n c d w a b (by omega))
def sp_wLess : Spec := spW (fun m n => m - n) (fun m n => n ≤ m)
theorem fo_wLess : FnOk Tryz.prog 183 sp_wLess := fnOk_W (callFunc_enter Tryz.func183 (by kernel_rfl) rfl) (fun A B m n c d w a b l k e => gless_any A B (wd m) n c d _ m w a b rfl (wf_wd m) (val_wd m) e (by omega))
def sp_wCommon : Spec := spW (fun m n => Nat.gcd m n) (fun _ _ => True)
theorem fo_wCommon : FnOk Tryz.prog 185 sp_wCommon := fnOk_W (callFunc_enter Tryz.func185 (by kernel_rfl) rfl) (fun A B m n c d w a b l k _ => gcommon_any A B m n c d w a b (by omega) (by omega))
def toZ (x : El tWhole) : Int := sg x.1 (toN x.2.1)
def ofZ (n : Int) : El tWhole := (decide (n < 0), wd n.natAbs, ())
def nZ (x : El tWhole) : Prop := x = ofZ (toZ x)
theorem toZ_of (n : Int) : toZ (ofZ n) = n := by
  show sg (decide (n < 0)) (toN (wd n.natAbs)) = n
  rw [toN_wd]
  unfold sg
  by_cases h : n < 0
  · rw [if_pos (by simpa using h)]; omega
  · rw [if_neg (by simpa using h)]; omega
theorem nZ_of (n : Int) : nZ (ofZ n) := by
  unfold nZ
  rw [toZ_of]
theorem nZ_nrm {x : El tWhole} (h : nZ x) : nrm x.2.1 := by
  unfold nZ at h
  rw [h]
  exact nrm_wd _
theorem ofZ_sg (b : Bool) (n : Nat) : ofZ (sg b n) = (b && decide (0 < n), wd n, ()) := by
  unfold ofZ sg
  cases b with
  | false =>
    have h1 : ¬ ((n : Int) < 0) := by omega
    simp [h1]
  | true =>
    simp only [if_true, Int.natAbs_neg, Int.natAbs_natCast, Bool.true_and]
    congr 1
    rw [Bool.eq_iff_iff, decide_eq_true_eq, decide_eq_true_eq]
    omega
theorem pw_le {m n : Nat} (h : m ≤ n) : pw m ≤ pw n := pw_mono h
theorem toN_lt {l : List Int} {k : Nat} (h : Wf l) (hl : l.length ≤ k) : (toN l : Int) < pw k := by
  rw [← toN_val h]
  have := V_lt h l.length
  have := pw_le hl
  unfold val
  omega
theorem toN_len {l : List Int} (h : Wf l) : (wd (toN l)).length ≤ l.length := wd_len_le _ _ (toN_lt h (Nat.le_refl _))
theorem pw_dbl (k : Nat) : pw (k + k) = pw k * pw k := pw_add k k
theorem sum_len {l m : List Int} (hl : Wf l) (hm : Wf m) (h : l.length ≤ 4096) (k : m.length ≤ 4096) : (wd (toN l + toN m)).length ≤ 8192 := by
  refine wd_len_le _ _ ?_
  have h1 := toN_lt hl h
  have h2 := toN_lt hm k
  have h3 : pw 8192 = pw 4096 * pw 4096 := pw_dbl 4096
  have h4 : 2 ≤ pw 4096 := Int.le_trans (show (2 : Int) ≤ pw 1 by decide) (pw_le (by decide))
  have := Int.mul_le_mul_of_nonneg_right h4 (show 0 ≤ pw 4096 by omega)
  have e : ((toN l + toN m : Nat) : Int) = (toN l : Int) + toN m := by omega
  rw [h3, e]
  omega
theorem prod_len {l m : List Int} (hl : Wf l) (hm : Wf m) (h : l.length ≤ 4096) (k : m.length ≤ 4096) : (wd (toN l * toN m)).length ≤ 8192 := by
  refine wd_len_le _ _ ?_
  have h1 := toN_lt hl h
  have h2 := toN_lt hm k
  have h3 : pw 8192 = pw 4096 * pw 4096 := pw_dbl 4096
  obtain ⟨K, hK⟩ : ∃ K : Nat, pw 4096 = K := ⟨(pw 4096).toNat, by have := pw_pos 4096; omega⟩
  rw [hK] at h1 h2 h3
  have := Nat.mul_lt_mul'' (Int.ofNat_lt.1 h1) (Int.ofNat_lt.1 h2)
  rw [h3, ← Int.natCast_mul]
  exact Int.ofNat_lt.2 this
theorem dif_len {l m : List Int} (hl : Wf l) (h : l.length ≤ 4096) : (wd (toN l - toN m)).length ≤ 8192 := by
  refine wd_len_le _ _ ?_
  have h1 := toN_lt hl h
  have := pw_le (show 4096 ≤ 8192 by decide)
  omega
noncomputable def sp_zmade : Spec := { q := .un, ps := [.bo, tW32], rs := [tWhole], fresh := true, pre := fun _ x => some (x.2.1.length ≤ 8192), post := fun _ x => ((), (ofZ (sg x.1 (toN x.2.1)), ())) }
noncomputable def iv_zmade (y : El sp_zmade.q) (x : Els sp_zmade.ps) : Nat → Option Inv := fun _ => none
noncomputable abbrev c_zmade : Cfg := cfgS (Tryz.f180).ntmps false [(205, sp_wTrim.prim)]
def F_zmade (y : El sp_zmade.q) (x : Els sp_zmade.ps) : Prop :=
  List.length x.2.1 ≤ (8192 : Nat) ∧ ∀ (r : El spTrim.q × Els spTrim.rs), r = spTrim.post (dfl spTrim.q) x.2 → List.length r.2.1 ≤ (1073741824 : Nat) ∧ (x.1 = true → ((decide (lenM (0 : Nat) (Ty.it IntKind.u32) r.2.1 > (0 : Int)), r.2), ()) = (ofZ (sg x.1 (toN x.2.1)), ())) ∧ (x.1 = false → ((false, r.2), ()) = (ofZ (sg x.1 (toN x.2.1)), ()))
theorem w_zmade (y : El sp_zmade.q) (x : Els sp_zmade.ps) : aW c_zmade (iv_zmade y x) Tryz.f180 sp_zmade y x = F_zmade y x := by kernel_rfl
theorem m_zmade (y : El (.un)) (x : Els [.bo, tW32]) (h2 : wfE (.un) y) (h3 : wfEs [.bo, tW32] x) (h4 : x.2.1.length ≤ 8192) : F_zmade y x := by
  unfold F_zmade
  have hw : Wf x.2.1 := wf_i h3.2.1
  refine ⟨h4, ?_⟩
  rintro _ rfl
  have hl := toN_len hw
  refine ⟨by show (wd (toN x.2.1)).length ≤ _; omega, fun h => ?_, fun h => ?_⟩
  · rw [ofZ_sg, h]
    have e : decide (lenM 0 (Ty.it IntKind.u32) (wd (toN x.2.1)) > (0 : Int)) = (true && decide (0 < toN x.2.1)) := by
      rw [Bool.true_and, Bool.eq_iff_iff, decide_eq_true_eq, decide_eq_true_eq]
      have e0 : lenM 0 (Ty.it IntKind.u32) (wd (toN x.2.1)) = (wd (toN x.2.1)).length := rfl
      have := @wd_len_zero (toN x.2.1)
      rw [e0]
      omega
    exact congrArg (fun b => ((b, wd (toN x.2.1), ()), ())) e
  · rw [ofZ_sg, h]
    rfl
theorem fo_zmade : FnOk Tryz.prog 180 sp_zmade := fnOk_of (C := c_zmade) iv_zmade Tryz.func180 rfl (by kernel_rfl) tys_ok (prims_cons (spec_prim fo_wTrim) prims_nil) mixed_ (Nat.le_refl _) rfl fun y x h1 h2 h3 h4 =>
  Eq.mpr (w_zmade y x) (m_zmade y x h2 h3 h4)
def tysZ : List (Nat × (Ty × Nat)) := (171, (.it .u64, 0)) :: tysS
theorem tysZ_ok : tyB Tryz.prog tysZ tysZ = true := by kernel_rfl
theorem i64_rng' {a : Int} (h : IntKind.i64.min ≤ a ∧ a ≤ IntKind.i64.max) : -9223372036854775808 ≤ a ∧ a ≤ 9223372036854775807 := h
theorem of_two {u : Int} (h0 : 0 ≤ u) (h1 : u < 18446744073709551616) : toN [IntKind.u32.wrap u, IntKind.u32.wrap (u.fdiv ((2 : Int) ^ min (Int.toNat (32 : Int)) IntKind.u64.bits))] = u.toNat := by
  obtain ⟨n, rfl⟩ : ∃ n : Nat, u = n := ⟨u.toNat, by omega⟩
  have e1 : IntKind.u32.wrap (n : Int) = (n : Int) % 4294967296 := rfl
  have e2 : ((2 : Int) ^ min (Int.toNat (32 : Int)) IntKind.u64.bits) = 4294967296 := by decide
  have e3 : (n : Int).fdiv 4294967296 = (n : Int) / 4294967296 := Int.fdiv_eq_ediv_of_nonneg _ (by omega)
  have e4 : IntKind.u32.wrap ((n : Int) / 4294967296) = (n : Int) / 4294967296 := by
    show ((n : Int) / 4294967296) % 4294967296 = _
    omega
  rw [e2, e3, e1, e4]
  unfold toN
  rw [of_words]
theorem wrap64_pos {x : Int} (h0 : 0 ≤ x) (h : x ≤ 9223372036854775807) : IntKind.u64.wrap x = x := wrap_id (k := .u64) h0 (by have : IntKind.u64.max = 18446744073709551615 := rfl; omega)
theorem wrap64_neg {x : Int} (h0 : x < 0) (h : -9223372036854775808 ≤ x) : IntKind.u64.wrap (0 - IntKind.u64.wrap x) = -x := by
  show (0 - x % 18446744073709551616) % 18446744073709551616 = -x
  omega
noncomputable def sp_zOf : Spec := { q := .un, ps := [.it .i64], rs := [tWhole], fresh := true, pre := fun _ _ => none, post := fun _ x => ((), (ofZ x.1, ())) }
noncomputable def iv_zOf (y : El sp_zOf.q) (x : Els sp_zOf.ps) : Nat → Option Inv := fun _ => none
noncomputable abbrev c_zOf : Cfg := { cfgS (Tryz.f146).ntmps false [(180, sp_zmade.prim)] with ty := tysZ }
def F_zOf (y : El sp_zOf.q) (x : Els sp_zOf.ps) : Prop :=
  (decide (x.1 < (0 : Int)) = true → (0 : Int) ≤ (32 : Int) ∧ [IntKind.u32.wrap (IntKind.u64.wrap ((0 : Int) - IntKind.u64.wrap x.1)), IntKind.u32.wrap ((IntKind.u64.wrap ((0 : Int) - IntKind.u64.wrap x.1)).fdiv ((2 : Int) ^ min (Int.toNat (32 : Int)) IntKind.u64.bits))].length ≤ (8192 : Nat) ∧ ∀ (r : Ro [tWhole]), r = ((), ofZ (sg (decide (x.1 < (0 : Int))) (toN [IntKind.u32.wrap (IntKind.u64.wrap ((0 : Int) - IntKind.u64.wrap x.1)), IntKind.u32.wrap ((IntKind.u64.wrap ((0 : Int) - IntKind.u64.wrap x.1)).fdiv ((2 : Int) ^ min (Int.toNat (32 : Int)) IntKind.u64.bits))])), ()) → r.2 = (ofZ x.1, ())) ∧ (decide (x.1 < (0 : Int)) = false → (0 : Int) ≤ (32 : Int) ∧ [IntKind.u32.wrap (IntKind.u64.wrap x.1), IntKind.u32.wrap ((IntKind.u64.wrap x.1).fdiv ((2 : Int) ^ min (Int.toNat (32 : Int)) IntKind.u64.bits))].length ≤ (8192 : Nat) ∧ ∀ (r : Ro [tWhole]), r = ((), ofZ (sg (decide (x.1 < (0 : Int))) (toN [IntKind.u32.wrap (IntKind.u64.wrap x.1), IntKind.u32.wrap ((IntKind.u64.wrap x.1).fdiv ((2 : Int) ^ min (Int.toNat (32 : Int)) IntKind.u64.bits))])), ()) → r.2 = (ofZ x.1, ()))
theorem w_zOf (y : El sp_zOf.q) (x : Els sp_zOf.ps) : aW c_zOf (iv_zOf y x) Tryz.f146 sp_zOf y x = F_zOf y x := by kernel_rfl
theorem m_zOf (y : El (.un)) (x : Els [.it .i64]) (h2 : wfE (.un) y) (h3 : wfEs [.it .i64] x) : F_zOf y x := by
  unfold F_zOf
  have hx := h3.1
  refine ⟨fun h => ?_, fun h => ?_⟩
  · have hn := ltT h
    have e := wrap64_neg hn (i64_rng' hx).1
    rw [e]
    refine ⟨by decide, (by decide : 2 ≤ 8192), ?_⟩
    rintro _ rfl
    rw [of_two (by omega) (by have := (i64_rng' hx).1; omega), h]
    show (ofZ (sg true (-x.1 : Int).toNat), ()) = (ofZ x.1, ())
    congr 2
    unfold sg
    simp only [if_true]
    omega
  · have hn := ltF h
    have e := wrap64_pos hn (i64_rng' hx).2
    rw [e]
    refine ⟨by decide, (by decide : 2 ≤ 8192), ?_⟩
    rintro _ rfl
    rw [of_two hn (by have := (i64_rng' hx).2; omega), h]
    show (ofZ (sg false (x.1 : Int).toNat), ()) = (ofZ x.1, ())
    congr 2
    unfold sg
    simp only [Bool.false_eq_true, if_false]
    omega
theorem fo_zOf : FnOk Tryz.prog 146 sp_zOf := fnOk_of (C := c_zOf) iv_zOf Tryz.func146 rfl (by kernel_rfl) tysZ_ok (prims_cons (spec_prim fo_zmade) prims_nil) mixed_ (Nat.le_refl _) rfl fun y x h1 h2 h3 h4 =>
  Eq.mpr (w_zOf y x) (m_zOf y x h2 h3)
noncomputable def sp_zOpp : Spec := { q := .un, ps := [tWhole], rs := [tWhole], fresh := true, pre := fun _ x => some (nZ x.1 ∧ x.1.2.1.length ≤ 4096), post := fun _ x => ((), (ofZ (-(toZ x.1)), ())) }
noncomputable def iv_zOpp (y : El sp_zOpp.q) (x : Els sp_zOpp.ps) : Nat → Option Inv := fun _ => none
noncomputable abbrev c_zOpp : Cfg := cfgS (Tryz.f147).ntmps false [(180, sp_zmade.prim)]
def F_zOpp (y : El sp_zOpp.q) (x : Els sp_zOpp.ps) : Prop :=
  List.length x.1.2.1 ≤ (8192 : Nat) ∧ ∀ (r : Ro [tWhole]), r = ((), ofZ (sg (!x.1.1) (toN x.1.2.1)), ()) → r.2 = (ofZ (-toZ x.1), ())
theorem w_zOpp (y : El sp_zOpp.q) (x : Els sp_zOpp.ps) : aW c_zOpp (iv_zOpp y x) Tryz.f147 sp_zOpp y x = F_zOpp y x := by kernel_rfl
theorem m_zOpp (y : El (.un)) (x : Els [tWhole]) (h2 : wfE (.un) y) (h3 : wfEs [tWhole] x) (h4 : nZ x.1 ∧ x.1.2.1.length ≤ 4096) : F_zOpp y x := by
  unfold F_zOpp
  refine ⟨by have := h4.2; omega, ?_⟩
  rintro _ rfl
  have : sg (!x.1.1) (toN x.1.2.1) = -(toZ x.1) := by
    unfold toZ sg
    cases x.1.1 <;> simp
  rw [this]
theorem fo_zOpp : FnOk Tryz.prog 147 sp_zOpp := fnOk_of (C := c_zOpp) iv_zOpp Tryz.func147 rfl (by kernel_rfl) tys_ok (prims_cons (spec_prim fo_zmade) prims_nil) mixed_ (Nat.le_refl _) rfl fun y x h1 h2 h3 h4 =>
  Eq.mpr (w_zOpp y x) (m_zOpp y x h2 h3 h4)
theorem sgz_add (a : Bool) (m n : Nat) : sg a m + sg a n = sg a (m + n) := by
  unfold sg
  cases a <;> simp <;> omega
theorem sgz_sub {a b : Bool} (h : a ≠ b) {m n : Nat} (k : n ≤ m) : sg a m + sg b n = sg a (m - n) := by
  unfold sg
  cases a <;> cases b <;> simp at h ⊢ <;> omega
theorem sgz_mul (a b : Bool) (m n : Nat) : sg a m * sg b n = sg (!(a == b)) (m * n) := by
  unfold sg
  cases a <;> cases b <;> simp [Int.natCast_mul, Int.neg_mul, Int.mul_neg]
theorem cmp_neg {m n : Nat} : cmp m n < 0 ↔ m < n := by
  unfold cmp
  repeat' split
  all_goals omega
noncomputable def sp_zPlus : Spec := { q := .un, ps := [tWhole, tWhole], rs := [tWhole], fresh := true, pre := fun _ x => some (nZ x.1 ∧ nZ x.2.1 ∧ x.1.2.1.length ≤ 4096 ∧ x.2.1.2.1.length ≤ 4096), post := fun _ x => ((), (ofZ (toZ x.1 + toZ x.2.1), ())) }
noncomputable def iv_zPlus (y : El sp_zPlus.q) (x : Els sp_zPlus.ps) : Nat → Option Inv := fun _ => none
noncomputable abbrev c_zPlus : Cfg := cfgS (Tryz.f148).ntmps false [(180, sp_zmade.prim), (181, sp_wPlus.prim), (182, sp_wCmp.prim), (183, sp_wLess.prim)]
def F_zPlus (y : El sp_zPlus.q) (x : Els sp_zPlus.ps) : Prop :=
  ((x.1.1 == x.2.1.1) = true → (x.1.2.1 = wd (toN x.1.2.1) ∧ x.2.1.2.1 = wd (toN x.2.1.2.1) ∧ List.length x.1.2.1 ≤ (4096 : Nat) ∧ List.length x.2.1.2.1 ≤ (4096 : Nat) ∧ True) ∧ ∀ (r : El (spW (fun (m n : Nat) => m + n) fun (x x_1 : Nat) => True).q × Els (spW (fun (m n : Nat) => m + n) fun (x x_1 : Nat) => True).rs), r = (spW (fun (m n : Nat) => m + n) fun (x x_1 : Nat) => True).post (dfl (spW (fun (m n : Nat) => m + n) fun (x x_1 : Nat) => True).q) (x.1.2.1, x.2.1.2) → List.length r.2.1 ≤ (8192 : Nat) ∧ ∀ (r_1 : Ro [tWhole]), r_1 = ((), ofZ (sg x.1.1 (toN r.2.1)), ()) → r_1.2 = (ofZ (toZ x.1 + toZ x.2.1), ())) ∧ ((x.1.1 == x.2.1.1) = false → ∀ (r : El spCmp.q × Els spCmp.rs), r = spCmp.post (dfl spCmp.q) (x.1.2.1, x.2.1.2) → (decide (r.2.1 < (0 : Int)) = true → (x.2.1.2.1 = wd (toN x.2.1.2.1) ∧ x.1.2.1 = wd (toN x.1.2.1) ∧ List.length x.2.1.2.1 ≤ (4096 : Nat) ∧ List.length x.1.2.1 ≤ (4096 : Nat) ∧ toN x.1.2.1 ≤ toN x.2.1.2.1) ∧ ∀ (r : El (spW (fun (m n : Nat) => m - n) fun (m n : Nat) => n ≤ m).q × Els (spW (fun (m n : Nat) => m - n) fun (m n : Nat) => n ≤ m).rs), r = (spW (fun (m n : Nat) => m - n) fun (m n : Nat) => n ≤ m).post (dfl (spW (fun (m n : Nat) => m - n) fun (m n : Nat) => n ≤ m).q) (x.2.1.2.1, x.1.2) → List.length r.2.1 ≤ (8192 : Nat) ∧ ∀ (r_1 : Ro [tWhole]), r_1 = ((), ofZ (sg x.2.1.1 (toN r.2.1)), ()) → r_1.2 = (ofZ (toZ x.1 + toZ x.2.1), ())) ∧ (decide (r.2.1 < (0 : Int)) = false → (x.1.2.1 = wd (toN x.1.2.1) ∧ x.2.1.2.1 = wd (toN x.2.1.2.1) ∧ List.length x.1.2.1 ≤ (4096 : Nat) ∧ List.length x.2.1.2.1 ≤ (4096 : Nat) ∧ toN x.2.1.2.1 ≤ toN x.1.2.1) ∧ ∀ (r : El (spW (fun (m n : Nat) => m - n) fun (m n : Nat) => n ≤ m).q × Els (spW (fun (m n : Nat) => m - n) fun (m n : Nat) => n ≤ m).rs), r = (spW (fun (m n : Nat) => m - n) fun (m n : Nat) => n ≤ m).post (dfl (spW (fun (m n : Nat) => m - n) fun (m n : Nat) => n ≤ m).q) (x.1.2.1, x.2.1.2) → List.length r.2.1 ≤ (8192 : Nat) ∧ ∀ (r_1 : Ro [tWhole]), r_1 = ((), ofZ (sg x.1.1 (toN r.2.1)), ()) → r_1.2 = (ofZ (toZ x.1 + toZ x.2.1), ())))
theorem w_zPlus (y : El sp_zPlus.q) (x : Els sp_zPlus.ps) : aW c_zPlus (iv_zPlus y x) Tryz.f148 sp_zPlus y x = F_zPlus y x := by kernel_rfl
theorem m_zPlus (y : El (.un)) (x : Els [tWhole, tWhole]) (h2 : wfE (.un) y) (h3 : wfEs [tWhole, tWhole] x) (h4 : nZ x.1 ∧ nZ x.2.1 ∧ x.1.2.1.length ≤ 4096 ∧ x.2.1.2.1.length ≤ 4096) : F_zPlus y x := by
  unfold F_zPlus
  obtain ⟨n1, n2, l1, l2⟩ := h4
  have w1 : Wf x.1.2.1 := wf_i h3.1.2.1
  have w2 : Wf x.2.1.2.1 := wf_i h3.2.1.2.1
  have r1 := nZ_nrm n1
  have r2 := nZ_nrm n2
  refine ⟨fun h => ⟨⟨r1, r2, l1, l2, trivial⟩, ?_⟩, fun h => ?_⟩
  · have h : x.1.1 = x.2.1.1 := by simpa using h
    rintro _ rfl
    refine ⟨sum_len w1 w2 l1 l2, ?_⟩
    rintro _ rfl
    show (ofZ (sg x.1.1 (toN (wd (toN x.1.2.1 + toN x.2.1.2.1)))), ()) = _
    rw [toN_wd, ← sgz_add]
    unfold toZ
    rw [h]
  · have h : x.1.1 ≠ x.2.1.1 := by simpa using h
    rintro _ rfl
    refine ⟨fun k => ?_, fun k => ?_⟩
    · have k : toN x.1.2.1 < toN x.2.1.2.1 := cmp_neg.1 (ltT k)
      refine ⟨⟨r2, r1, l2, l1, by omega⟩, ?_⟩
      rintro _ rfl
      refine ⟨dif_len w2 l2, ?_⟩
      rintro _ rfl
      show (ofZ (sg x.2.1.1 (toN (wd (toN x.2.1.2.1 - toN x.1.2.1)))), ()) = _
      rw [toN_wd, ← sgz_sub (Ne.symm h) (by omega), Int.add_comm]
      rfl
    · have k : ¬ toN x.1.2.1 < toN x.2.1.2.1 := fun c => absurd (cmp_neg.2 c) (Int.not_lt.2 (ltF k))
      refine ⟨⟨r1, r2, l1, l2, by omega⟩, ?_⟩
      rintro _ rfl
      refine ⟨dif_len w1 l1, ?_⟩
      rintro _ rfl
      show (ofZ (sg x.1.1 (toN (wd (toN x.1.2.1 - toN x.2.1.2.1)))), ()) = _
      rw [toN_wd, ← sgz_sub h (by omega)]
      rfl
theorem fo_zPlus : FnOk Tryz.prog 148 sp_zPlus := fnOk_of (C := c_zPlus) iv_zPlus Tryz.func148 rfl (by kernel_rfl) tys_ok (prims_cons (spec_prim fo_zmade) (prims_cons (spec_prim fo_wPlus) (prims_cons (spec_prim fo_wCmp) (prims_cons (spec_prim fo_wLess) prims_nil)))) mixed_ (Nat.le_refl _) rfl fun y x h1 h2 h3 h4 =>
  Eq.mpr (w_zPlus y x) (m_zPlus y x h2 h3 h4)
noncomputable def sp_zLess : Spec := { q := .un, ps := [tWhole, tWhole], rs := [tWhole], fresh := true, pre := fun _ x => some (nZ x.1 ∧ nZ x.2.1 ∧ x.1.2.1.length ≤ 4096 ∧ x.2.1.2.1.length ≤ 4096), post := fun _ x => ((), (ofZ (toZ x.1 - toZ x.2.1), ())) }
noncomputable def iv_zLess (y : El sp_zLess.q) (x : Els sp_zLess.ps) : Nat → Option Inv := fun _ => none
noncomputable abbrev c_zLess : Cfg := cfgS (Tryz.f150).ntmps false [(148, sp_zPlus.prim), (147, sp_zOpp.prim)]
def F_zLess (y : El sp_zLess.q) (x : Els sp_zLess.ps) : Prop :=
  (x.2.1 = ofZ (toZ x.2.1) ∧ List.length x.2.1.2.1 ≤ (4096 : Nat)) ∧ ∀ (r : Ro [tWhole]), r = ((), ofZ (-toZ x.2.1), ()) → (x.1 = ofZ (toZ x.1) ∧ r.2.1 = ofZ (toZ r.2.1) ∧ List.length x.1.2.1 ≤ (4096 : Nat) ∧ List.length r.2.1.2.1 ≤ (4096 : Nat)) ∧ ∀ (r_1 : Ro [tWhole]), r_1 = ((), ofZ (toZ x.1 + toZ r.2.1), ()) → r_1.2 = (ofZ (toZ x.1 - toZ x.2.1), ())
theorem w_zLess (y : El sp_zLess.q) (x : Els sp_zLess.ps) : aW c_zLess (iv_zLess y x) Tryz.f150 sp_zLess y x = F_zLess y x := by kernel_rfl
theorem m_zLess (y : El (.un)) (x : Els [tWhole, tWhole]) (h2 : wfE (.un) y) (h3 : wfEs [tWhole, tWhole] x) (h4 : nZ x.1 ∧ nZ x.2.1 ∧ x.1.2.1.length ≤ 4096 ∧ x.2.1.2.1.length ≤ 4096) : F_zLess y x := by
  unfold F_zLess
  obtain ⟨n1, n2, l1, l2⟩ := h4
  refine ⟨⟨n2, l2⟩, ?_⟩
  rintro _ rfl
  refine ⟨⟨n1, nZ_of _, l1, ?_⟩, ?_⟩
  · have e : x.2.1.2.1 = wd (toZ x.2.1).natAbs := congrArg (fun z => z.2.1) n2
    rw [e] at l2
    show (wd (-(toZ x.2.1)).natAbs).length ≤ _
    rw [Int.natAbs_neg]
    exact l2
  · rintro _ rfl
    rw [toZ_of, Int.sub_eq_add_neg]
theorem fo_zLess : FnOk Tryz.prog 150 sp_zLess := fnOk_of (C := c_zLess) iv_zLess Tryz.func150 rfl (by kernel_rfl) tys_ok (prims_cons (spec_prim fo_zPlus) (prims_cons (spec_prim fo_zOpp) prims_nil)) mixed_ (Nat.le_refl _) rfl fun y x h1 h2 h3 h4 =>
  Eq.mpr (w_zLess y x) (m_zLess y x h2 h3 h4)
noncomputable def sp_zProd : Spec := { q := .un, ps := [tWhole, tWhole], rs := [tWhole], fresh := true, pre := fun _ x => some (nZ x.1 ∧ nZ x.2.1 ∧ x.1.2.1.length ≤ 4096 ∧ x.2.1.2.1.length ≤ 4096), post := fun _ x => ((), (ofZ (toZ x.1 * toZ x.2.1), ())) }
noncomputable def iv_zProd (y : El sp_zProd.q) (x : Els sp_zProd.ps) : Nat → Option Inv := fun _ => none
noncomputable abbrev c_zProd : Cfg := cfgS (Tryz.f149).ntmps false [(180, sp_zmade.prim), (184, sp_wTimes.prim)]
def F_zProd (y : El sp_zProd.q) (x : Els sp_zProd.ps) : Prop :=
  (x.1.2.1 = wd (toN x.1.2.1) ∧ x.2.1.2.1 = wd (toN x.2.1.2.1) ∧ List.length x.1.2.1 ≤ (4096 : Nat) ∧ List.length x.2.1.2.1 ≤ (4096 : Nat) ∧ True) ∧ ∀ (r : El (spW (fun (m n : Nat) => m * n) fun (x x_1 : Nat) => True).q × Els (spW (fun (m n : Nat) => m * n) fun (x x_1 : Nat) => True).rs), r = (spW (fun (m n : Nat) => m * n) fun (x x_1 : Nat) => True).post (dfl (spW (fun (m n : Nat) => m * n) fun (x x_1 : Nat) => True).q) (x.1.2.1, x.2.1.2) → List.length r.2.1 ≤ (8192 : Nat) ∧ ∀ (r_1 : Ro [tWhole]), r_1 = ((), ofZ (sg (!x.1.1 == x.2.1.1) (toN r.2.1)), ()) → r_1.2 = (ofZ (toZ x.1 * toZ x.2.1), ())
theorem w_zProd (y : El sp_zProd.q) (x : Els sp_zProd.ps) : aW c_zProd (iv_zProd y x) Tryz.f149 sp_zProd y x = F_zProd y x := by kernel_rfl
theorem m_zProd (y : El (.un)) (x : Els [tWhole, tWhole]) (h2 : wfE (.un) y) (h3 : wfEs [tWhole, tWhole] x) (h4 : nZ x.1 ∧ nZ x.2.1 ∧ x.1.2.1.length ≤ 4096 ∧ x.2.1.2.1.length ≤ 4096) : F_zProd y x := by
  unfold F_zProd
  obtain ⟨n1, n2, l1, l2⟩ := h4
  have w1 : Wf x.1.2.1 := wf_i h3.1.2.1
  have w2 : Wf x.2.1.2.1 := wf_i h3.2.1.2.1
  have r1 := nZ_nrm n1
  have r2 := nZ_nrm n2
  refine ⟨⟨r1, r2, l1, l2, trivial⟩, ?_⟩
  rintro _ rfl
  refine ⟨prod_len w1 w2 l1 l2, ?_⟩
  rintro _ rfl
  show (ofZ (sg (!(x.1.1 == x.2.1.1)) (toN (wd (toN x.1.2.1 * toN x.2.1.2.1)))), ()) = _
  rw [toN_wd, ← sgz_mul]
  rfl
theorem fo_zProd : FnOk Tryz.prog 149 sp_zProd := fnOk_of (C := c_zProd) iv_zProd Tryz.func149 rfl (by kernel_rfl) tys_ok (prims_cons (spec_prim fo_zmade) (prims_cons (spec_prim fo_wTimes) prims_nil)) mixed_ (Nat.le_refl _) rfl fun y x h1 h2 h3 h4 =>
  Eq.mpr (w_zProd y x) (m_zProd y x h2 h3 h4)
theorem toN_z {x : El tWhole} (h : nZ x) : toN x.2.1 = (toZ x).natAbs := by
  unfold nZ at h
  have e : x.2.1 = wd (toZ x).natAbs := congrArg (fun z => z.2.1) h
  rw [e, toN_wd]
theorem part_enc {a b : El tWhole} (ha : nZ a) (hb : nZ b) (h : 0 < toZ b) : ((a.1, wd (toN a.2.1 / Nat.gcd (toN a.2.1) (toN b.2.1)), wd (toN b.2.1 / Nat.gcd (toN a.2.1) (toN b.2.1)), ()) : El tR) = ofFr (enc (mkRat (toZ a) (toZ b).toNat)) := by
  have e1 : a.1 = decide (toZ a < 0) := congrArg (fun z => z.1) ha
  have ea := toN_z ha
  have eb := toN_z hb
  have eb' : toN b.2.1 = (toZ b).toNat := by omega
  have es : toZ a = sg (decide (toZ a < 0)) (toN a.2.1) := by
    rw [ea]
    unfold sg
    by_cases k : toZ a < 0
    · rw [if_pos (by simpa using k)]; omega
    · rw [if_neg (by simpa using k)]; omega
  have hd : (toZ b).toNat ≠ 0 := by omega
  have key := enc_mk (decide (toZ a < 0)) (toN a.2.1) (toZ b).toNat hd
  rw [← es] at key
  rw [key, eb', e1]
  have : (decide (toZ a < 0) && decide (toN a.2.1 ≠ 0)) = decide (toZ a < 0) := by
    by_cases k : toZ a < 0
    · have : toN a.2.1 ≠ 0 := by omega
      simp [k, this]
    · simp [k]
  rw [this]
noncomputable def sp_n05part : Spec := { q := .un, ps := [tWhole, tWhole], rs := [tR], fresh := false, pre := fun _ x => some (nZ x.1 ∧ nZ x.2.1 ∧ x.1.2.1.length ≤ 4096 ∧ x.2.1.2.1.length ≤ 4096 ∧ 0 < toZ x.2.1), post := fun _ x => ((), (ofFr (enc (mkRat (toZ x.1) (toZ x.2.1).toNat)), ())) }
noncomputable def iv_n05part (y : El sp_n05part.q) (x : Els sp_n05part.ps) : Nat → Option Inv := fun _ => none
noncomputable abbrev c_n05part : Cfg := cfgS (Tryz.f151).ntmps false [(185, sp_wCommon.prim), (186, sp_wOver.prim)]
def F_n05part (y : El sp_n05part.q) (x : Els sp_n05part.ps) : Prop :=
  (x.1.2.1 = wd (toN x.1.2.1) ∧ x.2.1.2.1 = wd (toN x.2.1.2.1) ∧ List.length x.1.2.1 ≤ (4096 : Nat) ∧ List.length x.2.1.2.1 ≤ (4096 : Nat) ∧ True) ∧ ∀ (r : El (spW (fun (m n : Nat) => m.gcd n) fun (x x_1 : Nat) => True).q × Els (spW (fun (m n : Nat) => m.gcd n) fun (x x_1 : Nat) => True).rs), r = (spW (fun (m n : Nat) => m.gcd n) fun (x x_1 : Nat) => True).post (dfl (spW (fun (m n : Nat) => m.gcd n) fun (x x_1 : Nat) => True).q) (x.1.2.1, x.2.1.2) → (x.1.2.1 = wd (toN x.1.2.1) ∧ r.2.1 = wd (toN r.2.1) ∧ List.length x.1.2.1 ≤ (4096 : Nat) ∧ toN r.2.1 ≠ (0 : Nat)) ∧ ∀ (r_1 : El spOver.q × Els spOver.rs), r_1 = spOver.post (dfl spOver.q) (x.1.2.1, r.2) → (x.2.1.2.1 = wd (toN x.2.1.2.1) ∧ r.2.1 = wd (toN r.2.1) ∧ List.length x.2.1.2.1 ≤ (4096 : Nat) ∧ toN r.2.1 ≠ (0 : Nat)) ∧ ∀ (r_2 : El spOver.q × Els spOver.rs), r_2 = spOver.post (dfl spOver.q) (x.2.1.2.1, r.2) → ((x.1.1, r_1.2.1, r_2.2.1, ()), ()) = (ofFr (enc (mkRat (toZ x.1) (toZ x.2.1).toNat)), ())
theorem w_n05part (y : El sp_n05part.q) (x : Els sp_n05part.ps) : aW c_n05part (iv_n05part y x) Tryz.f151 sp_n05part y x = F_n05part y x := by kernel_rfl
theorem m_n05part (y : El (.un)) (x : Els [tWhole, tWhole]) (h2 : wfE (.un) y) (h3 : wfEs [tWhole, tWhole] x) (h4 : nZ x.1 ∧ nZ x.2.1 ∧ x.1.2.1.length ≤ 4096 ∧ x.2.1.2.1.length ≤ 4096 ∧ 0 < toZ x.2.1) : F_n05part y x := by
  unfold F_n05part
  obtain ⟨n1, n2, l1, l2, hp⟩ := h4
  have r1 := nZ_nrm n1
  have r2 := nZ_nrm n2
  refine ⟨⟨r1, r2, l1, l2, trivial⟩, ?_⟩
  rintro _ rfl
  have hg : Nat.gcd (toN x.1.2.1) (toN x.2.1.2.1) ≠ 0 := by
    have := toN_z n2
    intro e
    have := (Nat.gcd_eq_zero_iff.1 e).2
    omega
  have eg : toN (wd (Nat.gcd (toN x.1.2.1) (toN x.2.1.2.1))) = Nat.gcd (toN x.1.2.1) (toN x.2.1.2.1) := toN_wd _
  refine ⟨⟨r1, nrm_wd _, l1, by rw [← eg] at hg; exact hg⟩, ?_⟩
  rintro _ rfl
  refine ⟨⟨r2, nrm_wd _, l2, by rw [← eg] at hg; exact hg⟩, ?_⟩
  rintro _ rfl
  show (((x.1.1, wd (toN x.1.2.1 / toN (wd (Nat.gcd (toN x.1.2.1) (toN x.2.1.2.1)))), wd (toN x.2.1.2.1 / toN (wd (Nat.gcd (toN x.1.2.1) (toN x.2.1.2.1)))), ()) : El tR), ()) = _
  rw [eg, part_enc n1 n2 hp]
theorem fo_n05part : FnOk Tryz.prog 151 sp_n05part := fnOk_of (C := c_n05part) iv_n05part Tryz.func151 rfl (by kernel_rfl) tys_ok (prims_cons (spec_prim fo_wCommon) (prims_cons (spec_prim fo_wOver) prims_nil)) mixed_ (Nat.le_refl _) rfl fun y x h1 h2 h3 h4 =>
  Eq.mpr (w_n05part y x) (m_n05part y x h2 h3 h4)
end Go.Proofs.YtakaehdolpmelaaGreat
