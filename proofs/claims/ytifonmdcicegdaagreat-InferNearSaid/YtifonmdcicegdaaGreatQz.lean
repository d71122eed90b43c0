/- Texts of this claim, joined: B25 R14 G21 B26. -/
import Derived.Test.YtifonmdcicegdaaGreatQy
set_option linter.unusedVariables false
set_option linter.unusedSimpArgs false
namespace Go.Proofs.YtifonmdcicegdaaGreat
open Go Go.RowKit

noncomputable def sp_nfault : Spec := { q := .un, ps := [.it .i64, .it .i64], rs := [tFault], fresh := true, pre := fun _ _ => none, post := fun _ x => ((), ((x.1, x.2.1, ()), ())) }
noncomputable def iv_nfault (y : El sp_nfault.q) (x : Els sp_nfault.ps) : Nat → Option Inv := fun _ => none
noncomputable abbrev c_nfault : Cfg := cfgS (Tryz.f209).ntmps false []
def F_nfault (y : El sp_nfault.q) (x : Els sp_nfault.ps) : Prop :=
  (x, ()) = (x, ())
set_option maxRecDepth 100000 in
theorem w_nfault (y : El sp_nfault.q) (x : Els sp_nfault.ps) : aw c_nfault (iv_nfault y x) (codeOf Tryz.f209) 0 (retQ c_nfault sp_nfault (Tryz.f209).results.toList y x) (startT sp_nfault x) (startO sp_nfault y) 1 = F_nfault y x := by kernel_rfl
theorem m_nfault (y : El (.un)) (x : Els [.it .i64, .it .i64]) (h2 : wfE (.un) y) (h3 : wfEs [.it .i64, .it .i64] x) : F_nfault y x := by
  unfold F_nfault
  rfl
set_option maxRecDepth 100000 in
theorem fo_nfault : FnOk Tryz.prog 209 sp_nfault := fnOk_of (C := c_nfault) iv_nfault Tryz.func209 rfl (by kernel_rfl) tys_ok prims_nil mixed_ (Nat.le_refl _) rfl fun y x h1 h2 h3 h4 =>
  Eq.mpr (w_nfault y x) (m_nfault y x h2 h3)
noncomputable def sp_ifault : Spec := { q := .un, ps := [.it .i64, .it .i64], rs := [tFault], fresh := true, pre := fun _ _ => none, post := fun _ x => ((), ((x.1, x.2.1, ()), ())) }
noncomputable def iv_ifault (y : El sp_ifault.q) (x : Els sp_ifault.ps) : Nat → Option Inv := fun _ => none
noncomputable abbrev c_ifault : Cfg := cfgS (Tryz.f192).ntmps false []
def F_ifault (y : El sp_ifault.q) (x : Els sp_ifault.ps) : Prop :=
  (x, ()) = (x, ())
set_option maxRecDepth 100000 in
theorem w_ifault (y : El sp_ifault.q) (x : Els sp_ifault.ps) : aw c_ifault (iv_ifault y x) (codeOf Tryz.f192) 0 (retQ c_ifault sp_ifault (Tryz.f192).results.toList y x) (startT sp_ifault x) (startO sp_ifault y) 1 = F_ifault y x := by kernel_rfl
theorem m_ifault (y : El (.un)) (x : Els [.it .i64, .it .i64]) (h2 : wfE (.un) y) (h3 : wfEs [.it .i64, .it .i64] x) : F_ifault y x := by
  unfold F_ifault
  rfl
set_option maxRecDepth 100000 in
theorem fo_ifault : FnOk Tryz.prog 192 sp_ifault := fnOk_of (C := c_ifault) iv_ifault Tryz.func192 rfl (by kernel_rfl) tys_ok prims_nil mixed_ (Nat.le_refl _) rfl fun y x h1 h2 h3 h4 =>
  Eq.mpr (w_ifault y x) (m_ifault y x h2 h3)
noncomputable def sp_n21none : Spec := { q := .un, ps := [.it .i64], rs := [tFault], fresh := true, pre := fun _ _ => none, post := fun _ x => ((), ((x.1, -1, ()), ())) }
noncomputable def iv_n21none (y : El sp_n21none.q) (x : Els sp_n21none.ps) : Nat → Option Inv := fun _ => none
noncomputable abbrev c_n21none : Cfg := cfgS (Tryz.f210).ntmps false []
def F_n21none (y : El sp_n21none.q) (x : Els sp_n21none.ps) : Prop :=
  ((x.fst, (-1 : Int), ()), ()) = ((x.fst, (-1 : El ti), ()), ())
set_option maxRecDepth 100000 in
theorem w_n21none (y : El sp_n21none.q) (x : Els sp_n21none.ps) : aw c_n21none (iv_n21none y x) (codeOf Tryz.f210) 0 (retQ c_n21none sp_n21none (Tryz.f210).results.toList y x) (startT sp_n21none x) (startO sp_n21none y) 1 = F_n21none y x := by kernel_rfl
theorem m_n21none (y : El (.un)) (x : Els [.it .i64]) (h2 : wfE (.un) y) (h3 : wfEs [.it .i64] x) : F_n21none y x := by
  unfold F_n21none
  rfl
set_option maxRecDepth 100000 in
theorem fo_n21none : FnOk Tryz.prog 210 sp_n21none := fnOk_of (C := c_n21none) iv_n21none Tryz.func210 rfl (by kernel_rfl) tys_ok prims_nil mixed_ (Nat.le_refl _) rfl fun y x h1 h2 h3 h4 =>
  Eq.mpr (w_n21none y x) (m_n21none y x h2 h3)
noncomputable def sp_n24none : Spec := { q := .un, ps := [.it .i64], rs := [tFault], fresh := true, pre := fun _ _ => none, post := fun _ x => ((), ((x.1, -1, ()), ())) }
noncomputable def iv_n24none (y : El sp_n24none.q) (x : Els sp_n24none.ps) : Nat → Option Inv := fun _ => none
noncomputable abbrev c_n24none : Cfg := cfgS (Tryz.f194).ntmps false []
def F_n24none (y : El sp_n24none.q) (x : Els sp_n24none.ps) : Prop :=
  ((x.fst, (-1 : Int), ()), ()) = ((x.fst, (-1 : El ti), ()), ())
set_option maxRecDepth 100000 in
theorem w_n24none (y : El sp_n24none.q) (x : Els sp_n24none.ps) : aw c_n24none (iv_n24none y x) (codeOf Tryz.f194) 0 (retQ c_n24none sp_n24none (Tryz.f194).results.toList y x) (startT sp_n24none x) (startO sp_n24none y) 1 = F_n24none y x := by kernel_rfl
theorem m_n24none (y : El (.un)) (x : Els [.it .i64]) (h2 : wfE (.un) y) (h3 : wfEs [.it .i64] x) : F_n24none y x := by
  unfold F_n24none
  rfl
set_option maxRecDepth 100000 in
theorem fo_n24none : FnOk Tryz.prog 194 sp_n24none := fnOk_of (C := c_n24none) iv_n24none Tryz.func194 rfl (by kernel_rfl) tys_ok prims_nil mixed_ (Nat.le_refl _) rfl fun y x h1 h2 h3 h4 =>
  Eq.mpr (w_n24none y x) (m_n24none y x h2 h3)
def rotsIn (l : List (El tRot)) (i k : Nat) : Bool := (List.range k).any fun j => decide (l.getD j (dfl tRot) = l.getD i (dfl tRot))
def rotsAt (l : List (El tRot)) (i : Nat) : Int := if rotC (l.getD i (dfl tRot)) ≠ 0 then rotC (l.getD i (dfl tRot)) else if rotsIn l i i = true then 5 else 0
def rotsS (l : List (El tRot)) : Nat → Int × Int
  | 0 => (0, 0)
  | i + 1 => if (rotsS l i).1 ≠ 0 then rotsS l i else if rotsAt l i ≠ 0 then (rotsAt l i, i) else (0, 0)
def rotsR (l : List (El tRot)) : El tFault := if 8 < l.length then (3, -1, ()) else ((rotsS l l.length).1, (rotsS l l.length).2, ())
theorem rotsIn_succ {l : List (El tRot)} {i k : Nat} (h : rotsIn l i k = false) (m : decide (l.getD k (dfl tRot) = l.getD i (dfl tRot)) = false) : rotsIn l i (k + 1) = false := by
  unfold rotsIn at *
  rw [List.range_succ, List.any_append, h]
  simp only [List.any_cons, List.any_nil, Bool.or_false, Bool.false_or]
  exact m
theorem rotsIn_hit {l : List (El tRot)} {i k n : Nat} (hk : k < n) (m : decide (l.getD k (dfl tRot) = l.getD i (dfl tRot)) = true) : rotsIn l i n = true := by
  unfold rotsIn
  rw [List.any_eq_true]
  exact ⟨k, List.mem_range.2 hk, m⟩
theorem rots_stay {l : List (El tRot)} {i : Nat} (h : (rotsS l i).1 ≠ 0) : ∀ k, rotsS l (i + k) = rotsS l i
  | 0 => rfl
  | k + 1 => by
    have ih := rots_stay h k
    show (if (rotsS l (i + k)).1 ≠ 0 then rotsS l (i + k) else _) = _
    rw [ih, if_pos h]
section
variable {l : List (El tRot)} {i : Nat}
theorem rots_bad (h0 : rotsS l i = (0, 0)) (h : rotsAt l i ≠ 0) (hi : i < l.length) (hl : ¬ 8 < l.length) : ((rotsAt l i, (i : Int), ()) : El tFault) = rotsR l := by
  have e : rotsS l (i + 1) = (rotsAt l i, (i : Int)) := by
    show (if (rotsS l i).1 ≠ 0 then rotsS l i else if rotsAt l i ≠ 0 then (rotsAt l i, (i : Int)) else (0, 0)) = _
    rw [h0, if_neg (by decide), if_pos h]
  have s := rots_stay (l := l) (i := i + 1) (by rw [e]; exact h) (l.length - (i + 1))
  rw [show i + 1 + (l.length - (i + 1)) = l.length by omega, e] at s
  unfold rotsR
  rw [if_neg hl, s]
theorem rots_next (h0 : rotsS l i = (0, 0)) (h : rotsAt l i = 0) : rotsS l (i + 1) = (0, 0) := by
  show (if (rotsS l i).1 ≠ 0 then rotsS l i else if rotsAt l i ≠ 0 then (rotsAt l i, (i : Int)) else (0, 0)) = _
  rw [h0, if_neg (by decide), if_neg (fun c => c h)]
theorem rotsAt_1 (h : rotC (l.getD i (dfl tRot)) ≠ 0) : rotsAt l i = rotC (l.getD i (dfl tRot)) := if_pos h
theorem rotsAt_2 (h : rotC (l.getD i (dfl tRot)) = 0) (k : rotsIn l i i = true) : rotsAt l i = 5 := by unfold rotsAt; rw [if_neg (fun c => c h), if_pos k]
theorem rotsAt_3 (h : rotC (l.getD i (dfl tRot)) = 0) (k : rotsIn l i i = false) : rotsAt l i = 0 := by unfold rotsAt; rw [if_neg (fun c => c h), if_neg (by rw [k]; decide)]
theorem rots_end (h0 : rotsS l l.length = (0, 0)) (hl : ¬ 8 < l.length) : ((0, 0, ()) : El tFault) = rotsR l := by
  unfold rotsR
  rw [if_neg hl, h0]
theorem rots_long (hl : 8 < l.length) : ((3, -1, ()) : El tFault) = rotsR l := by
  unfold rotsR
  rw [if_pos hl]
end
noncomputable def sp_mRotors : Spec := { q := .un, ps := [.sl tRot], rs := [tFault], fresh := true, pre := fun _ _ => none, post := fun _ x => ((), (rotsR x.1, ())) }
noncomputable def iv_mRotors (y : El sp_mRotors.q) (x : Els sp_mRotors.ps) : Nat → Option Inv := fun k => if k = 0 then some { X := Nat, tm := fun i => [(0, .c (.sl tRot x.1)), (2, .c (.pv 1 0)), (11, .c (.sl tRot x.1)), (12, .c (.sc (.int .i64 x.1.length))), (13, .c (.sc (.int .i64 i)))], ob := fun i => [(1, .var (cel tFault (0, 0, ())))], n := 2, I := fun i => i ≤ x.1.length ∧ rotsS x.1 i = (0, 0), μ := fun i => x.1.length - i } else if k = 1 then some { X := Nat × Nat, tm := fun i => [(0, .c (.sl tRot x.1)), (2, .c (.pv 1 0)), (3, .c (.sc (.int .i64 i.1))), (4, .c (.pv 2 0)), (11, .c (.sl tRot x.1)), (12, .c (.sc (.int .i64 x.1.length))), (13, .c (.sc (.int .i64 i.1))), (25, .c (.sc (.int .i64 i.1))), (26, .c (.sc (.int .i64 i.2)))], ob := fun i => [(1, .var (cel tFault (0, 0, ()))), (2, .var (cel tRot (x.1.getD i.1 (dfl tRot))))], n := 3, I := fun i => i.1 < x.1.length ∧ rotsS x.1 i.1 = (0, 0) ∧ rotC (x.1.getD i.1 (dfl tRot)) = 0 ∧ i.2 ≤ i.1 ∧ rotsIn x.1 i.1 i.2 = false, μ := fun i => i.1 - i.2, lk := some fun m i => m = x.1.length - i.1 } else none
noncomputable abbrev c_mRotors : Cfg := cfgS (Tryz.f119).ntmps false [(182, sp_rCk.prim), (209, sp_nfault.prim)]
def F_mRotors (y : El sp_mRotors.q) (x : Els sp_mRotors.ps) : Prop :=
  (decide ((↑(List.length x.fst) : Int) > (8 : Int)) = true → ∀ (r : El Ty.un × Els [tFault]), r = ((), ((3 : Int), (-1 : Int), ()), ()) → r.snd = (rotsR x.fst, ())) ∧ (decide ((↑(List.length x.fst) : Int) > (8 : Int)) = false → (∃ (x_1 : Nat), x.fst = x.fst ∧ x.fst = x.fst ∧ (↑(List.length x.fst) : Int) = (↑(List.length x.fst) : Int) ∧ (↑x_1 : Int) = (0 : Int) ∧ (0 : El ti) = (0 : Int) ∧ (0 : El ti) = (0 : Int) ∧ x_1 ≤ List.length x.fst ∧ rotsS x.fst x_1 = ((0 : Int), (0 : Int))) ∧ ∀ (x_1 : Nat), x_1 ≤ List.length x.fst ∧ rotsS x.fst x_1 = ((0 : Int), (0 : Int)) → (decide ((↑x_1 : Int) < (↑(List.length x.fst) : Int)) = true → ((0 : Int) ≤ (↑x_1 : Int) ∧ (↑x_1 : Int) < (↑(List.length x.fst) : Int)) ∧ ∀ (r : El Ty.un × Els [Ty.it IntKind.i64]), r = ((), rotC (List.getD x.fst (↑x_1 : Int).toNat (dfl tRot)), ()) → ((r.snd.fst != (0 : Int)) = true → ∀ (r_1 : El Ty.un × Els [tFault]), r_1 = ((), (r.snd.fst, (↑x_1 : Int), ()), ()) → r_1.snd = (rotsR x.fst, ())) ∧ ((r.snd.fst != (0 : Int)) = false → (∃ (x_2 : Nat × Nat), x.fst = x.fst ∧ (↑x_2.fst : Int) = (↑x_1 : Int) ∧ x.fst = x.fst ∧ (↑(List.length x.fst) : Int) = (↑(List.length x.fst) : Int) ∧ (↑x_2.fst : Int) = (↑x_1 : Int) ∧ (↑x_2.fst : Int) = (↑x_1 : Int) ∧ (↑x_2.snd : Int) = (0 : Int) ∧ (0 : El ti) = (0 : El ti) ∧ (0 : El ti) = (0 : El ti) ∧ (List.getD x.fst x_2.fst (dfl tRot)).fst = (List.getD x.fst (↑x_1 : Int).toNat (dfl tRot)).fst ∧ (List.getD x.fst x_2.fst (dfl tRot)).snd.fst = (List.getD x.fst (↑x_1 : Int).toNat (dfl tRot)).snd.fst ∧ (x_2.fst < List.length x.fst ∧ rotsS x.fst x_2.fst = ((0 : Int), (0 : Int)) ∧ rotC (List.getD x.fst x_2.fst (dfl tRot)) = (0 : Int) ∧ x_2.snd ≤ x_2.fst ∧ rotsIn x.fst x_2.fst x_2.snd = false) ∧ List.length x.fst - x_1 = List.length x.fst - x_2.fst) ∧ ∀ (x_2 : Nat × Nat), (x_2.fst < List.length x.fst ∧ rotsS x.fst x_2.fst = ((0 : Int), (0 : Int)) ∧ rotC (List.getD x.fst x_2.fst (dfl tRot)) = (0 : Int) ∧ x_2.snd ≤ x_2.fst ∧ rotsIn x.fst x_2.fst x_2.snd = false) ∧ List.length x.fst - x_1 = List.length x.fst - x_2.fst → (decide ((↑x_2.snd : Int) < (↑x_2.fst : Int)) = true → ((0 : Int) ≤ (↑x_2.snd : Int) ∧ (↑x_2.snd : Int) < (↑(List.length x.fst) : Int)) ∧ (eqV tRot (List.getD x.fst (↑x_2.snd : Int).toNat (dfl tRot)) (List.getD x.fst x_2.fst (dfl tRot)) = true → ∀ (r : El Ty.un × Els [tFault]), r = ((), ((5 : Int), (↑x_2.fst : Int), ()), ()) → r.snd = (rotsR x.fst, ())) ∧ (eqV tRot (List.getD x.fst (↑x_2.snd : Int).toNat (dfl tRot)) (List.getD x.fst x_2.fst (dfl tRot)) = false → ((-9223372036854775808 : Int) ≤ (↑x_2.snd : Int) + (1 : Int) ∧ (↑x_2.snd : Int) + (1 : Int) ≤ (9223372036854775807 : Int)) ∧ ∃ (x' : Nat × Nat), x.fst = x.fst ∧ (↑x'.fst : Int) = (↑x_2.fst : Int) ∧ x.fst = x.fst ∧ (↑(List.length x.fst) : Int) = (↑(List.length x.fst) : Int) ∧ (↑x'.fst : Int) = (↑x_2.fst : Int) ∧ (↑x'.fst : Int) = (↑x_2.fst : Int) ∧ (↑x'.snd : Int) = (↑x_2.snd : Int) + (1 : Int) ∧ (0 : El ti) = (0 : El ti) ∧ (0 : El ti) = (0 : El ti) ∧ (List.getD x.fst x'.fst (dfl tRot)).fst = (List.getD x.fst x_2.fst (dfl tRot)).fst ∧ (List.getD x.fst x'.fst (dfl tRot)).snd.fst = (List.getD x.fst x_2.fst (dfl tRot)).snd.fst ∧ ((x'.fst < List.length x.fst ∧ rotsS x.fst x'.fst = ((0 : Int), (0 : Int)) ∧ rotC (List.getD x.fst x'.fst (dfl tRot)) = (0 : Int) ∧ x'.snd ≤ x'.fst ∧ rotsIn x.fst x'.fst x'.snd = false) ∧ List.length x.fst - x_1 = List.length x.fst - x'.fst) ∧ x'.fst - x'.snd < x_2.fst - x_2.snd)) ∧ (decide ((↑x_2.snd : Int) < (↑x_2.fst : Int)) = false → ((-9223372036854775808 : Int) ≤ (↑x_2.fst : Int) + (1 : Int) ∧ (↑x_2.fst : Int) + (1 : Int) ≤ (9223372036854775807 : Int)) ∧ ∃ (x' : Nat), x.fst = x.fst ∧ x.fst = x.fst ∧ (↑(List.length x.fst) : Int) = (↑(List.length x.fst) : Int) ∧ (↑x' : Int) = (↑x_2.fst : Int) + (1 : Int) ∧ (0 : El ti) = (0 : El ti) ∧ (0 : El ti) = (0 : El ti) ∧ (x' ≤ List.length x.fst ∧ rotsS x.fst x' = ((0 : Int), (0 : Int))) ∧ List.length x.fst - x' < List.length x.fst - x_1))) ∧ (decide ((↑x_1 : Int) < (↑(List.length x.fst) : Int)) = false → (((0 : Int), (0 : Int), ()), ()) = (rotsR x.fst, ())))
set_option maxRecDepth 100000 in
theorem w_mRotors (y : El sp_mRotors.q) (x : Els sp_mRotors.ps) : aw c_mRotors (iv_mRotors y x) (codeOf Tryz.f119) 0 (retQ c_mRotors sp_mRotors (Tryz.f119).results.toList y x) (startT sp_mRotors x) (startO sp_mRotors y) 1 = F_mRotors y x := by kernel_rfl
theorem m_mRotors (y : El (.un)) (x : Els [.sl tRot]) (h2 : wfE (.un) y) (h3 : wfEs [.sl tRot] x) : F_mRotors y x := by
  unfold F_mRotors
  have hL : x.1.length ≤ 9223372036854775807 := h3.1.1
  refine ⟨fun h => ?_, fun h => ⟨⟨0, rfl, rfl, rfl, rfl, rfl, rfl, Nat.zero_le _, rfl⟩, fun i hi => ⟨fun l => ?_, fun l => ?_⟩⟩⟩
  · have h := gtT h
    rintro _ rfl
    exact congrArg (fun z => (z, ())) (rots_long (by omega))
  · obtain ⟨i0, i1⟩ := hi
    have h := gtF h
    have hl : ¬ 8 < x.1.length := by omega
    have l := ltT l
    have il : i < x.1.length := by omega
    refine ⟨⟨by omega, l⟩, ?_⟩
    simp only [Int.toNat_natCast]
    rintro _ rfl
    refine ⟨fun g => ?_, fun g => ⟨⟨(i, 0), (by first | exact rfl | exact trivial), (by first | exact rfl | exact trivial), (by first | exact rfl | exact trivial), (by first | exact rfl | exact trivial), (by first | exact rfl | exact trivial), (by first | exact rfl | exact trivial), (by first | exact rfl | exact trivial), (by first | exact rfl | exact trivial), (by first | exact rfl | exact trivial), (by first | exact rfl | exact trivial), (by first | exact rfl | exact trivial), ⟨il, i1, neF g, Nat.zero_le _, rfl⟩, rfl⟩, fun j hj => ⟨fun m => ?_, fun m => ?_⟩⟩⟩
    · have g := neT g
      have e := rots_bad i1 (by rw [rotsAt_1 g]; exact g) il hl
      rw [rotsAt_1 g] at e
      rintro _ rfl
      exact congrArg (fun z => (z, ())) e
    · obtain ⟨p, q⟩ := j
      obtain ⟨⟨j1, j2, j3, j4, j5⟩, j6⟩ := hj
      have j6 : x.1.length - i = x.1.length - p := j6
      have j1 : p < x.1.length := j1
      have j4 : q ≤ p := j4
      have m : (q : Int) < p := ltT m
      have pi : p = i := by omega
      refine ⟨⟨by omega, by omega⟩, ?_⟩
      simp only [eq_rot]
      refine ⟨fun o => ?_, fun o => ⟨⟨by omega, by omega⟩, (p, q + 1), ?_⟩⟩
      · have e5 := rotsAt_2 j3 (rotsIn_hit (show q < p by omega) o)
        have e := rots_bad j2 (by rw [e5]; decide) j1 hl
        rw [e5] at e
        rintro _ rfl
        exact congrArg (fun z => (z, ())) e
      · have rs := rotsIn_succ j5 o
        and_intros
        all_goals first | rfl | exact j1 | exact j2 | exact j3 | exact rs | exact j6 | exact trivial | (show p - (q + 1) < p - q; omega) | (show q + 1 ≤ p; omega) | omega
    · obtain ⟨p, q⟩ := j
      obtain ⟨⟨j1, j2, j3, j4, j5⟩, j6⟩ := hj
      have j6 : x.1.length - i = x.1.length - p := j6
      have j1 : p < x.1.length := j1
      have j4 : q ≤ p := j4
      have m : (p : Int) ≤ q := ltF m
      have qp : q = p := by omega
      have j5 : rotsIn x.1 p p = false := by rw [qp] at j5; exact j5
      have nx := rots_next j2 (rotsAt_3 j3 j5)
      refine ⟨⟨by omega, by omega⟩, p + 1, ?_⟩
      and_intros
      all_goals first | rfl | exact nx | exact trivial | omega
  · obtain ⟨i0, i1⟩ := hi
    have h := gtF h
    have l := ltF l
    have e : i = x.1.length := by omega
    rw [e] at i1
    exact congrArg (fun z => (z, ())) (rots_end i1 (by omega))
set_option maxRecDepth 100000 in
theorem fo_mRotors : FnOk Tryz.prog 119 sp_mRotors := fnOk_of (C := c_mRotors) iv_mRotors Tryz.func119 rfl (by kernel_rfl) tys_ok (prims_cons (spec_prim fo_rCk) (prims_cons (spec_prim fo_nfault) prims_nil)) mixed_ (Nat.le_refl _) rfl fun y x h1 h2 h3 h4 =>
  Eq.mpr (w_mRotors y x) (m_mRotors y x h2 h3)
noncomputable def sp_n21Rotors : Spec := { q := .un, ps := [.sl tRot], rs := [tFault], fresh := true, pre := fun _ _ => none, post := fun _ x => ((), (rotsR x.1, ())) }
noncomputable def iv_n21Rotors (y : El sp_n21Rotors.q) (x : Els sp_n21Rotors.ps) : Nat → Option Inv := fun k => if k = 0 then some { X := Nat, tm := fun i => [(0, .c (.sl tRot x.1)), (2, .c (.pv 1 0)), (3, .c (.sc (.int .i64 i)))], ob := fun i => [(1, .var (cel tFault (0, 0, ())))], n := 2, I := fun i => i ≤ x.1.length ∧ rotsS x.1 i = (0, 0), μ := fun i => x.1.length - i } else if k = 1 then some { X := Nat × Nat, tm := fun i => [(0, .c (.sl tRot x.1)), (2, .c (.pv 1 0)), (3, .c (.sc (.int .i64 i.1))), (5, .c (.sc (.int .i64 i.2)))], ob := fun i => [(1, .var (cel tFault (0, 0, ())))], n := 2, I := fun i => i.1 < x.1.length ∧ rotsS x.1 i.1 = (0, 0) ∧ rotC (x.1.getD i.1 (dfl tRot)) = 0 ∧ i.2 ≤ i.1 ∧ rotsIn x.1 i.1 i.2 = false, μ := fun i => i.1 - i.2, lk := some fun m i => m = x.1.length - i.1 } else none
noncomputable abbrev c_n21Rotors : Cfg := cfgS (Tryz.f120).ntmps false [(183, sp_nRCk.prim), (210, sp_n21none.prim)]
def F_n21Rotors (y : El sp_n21Rotors.q) (x : Els sp_n21Rotors.ps) : Prop :=
  (decide ((↑(List.length x.fst) : Int) > (8 : Int)) = true → ∀ (r : El Ty.un × Els [tFault]), r = ((), ((3 : Int), (-1 : El ti), ()), ()) → r.snd = (rotsR x.fst, ())) ∧ (decide ((↑(List.length x.fst) : Int) > (8 : Int)) = false → (∃ (x_1 : Nat), x.fst = x.fst ∧ (↑x_1 : Int) = (0 : Int) ∧ (0 : El ti) = (0 : Int) ∧ (0 : El ti) = (0 : Int) ∧ x_1 ≤ List.length x.fst ∧ rotsS x.fst x_1 = ((0 : Int), (0 : Int))) ∧ ∀ (x_1 : Nat), x_1 ≤ List.length x.fst ∧ rotsS x.fst x_1 = ((0 : Int), (0 : Int)) → (decide ((↑x_1 : Int) < (↑(List.length x.fst) : Int)) = true → ((0 : Int) ≤ (↑x_1 : Int) ∧ (↑x_1 : Int) < (↑(List.length x.fst) : Int)) ∧ ∀ (r : El Ty.un × Els [Ty.it IntKind.i64]), r = ((), rotC (List.getD x.fst (↑x_1 : Int).toNat (dfl tRot)), ()) → ((r.snd.fst != (0 : Int)) = true → ((r.snd.fst, (↑x_1 : Int), ()), ()) = (rotsR x.fst, ())) ∧ ((r.snd.fst != (0 : Int)) = false → (∃ (x_2 : Nat × Nat), x.fst = x.fst ∧ (↑x_2.fst : Int) = (↑x_1 : Int) ∧ (↑x_2.snd : Int) = (0 : Int) ∧ (0 : El ti) = (0 : El ti) ∧ (0 : El ti) = (0 : El ti) ∧ (x_2.fst < List.length x.fst ∧ rotsS x.fst x_2.fst = ((0 : Int), (0 : Int)) ∧ rotC (List.getD x.fst x_2.fst (dfl tRot)) = (0 : Int) ∧ x_2.snd ≤ x_2.fst ∧ rotsIn x.fst x_2.fst x_2.snd = false) ∧ List.length x.fst - x_1 = List.length x.fst - x_2.fst) ∧ ∀ (x_2 : Nat × Nat), (x_2.fst < List.length x.fst ∧ rotsS x.fst x_2.fst = ((0 : Int), (0 : Int)) ∧ rotC (List.getD x.fst x_2.fst (dfl tRot)) = (0 : Int) ∧ x_2.snd ≤ x_2.fst ∧ rotsIn x.fst x_2.fst x_2.snd = false) ∧ List.length x.fst - x_1 = List.length x.fst - x_2.fst → (decide ((↑x_2.snd : Int) < (↑x_2.fst : Int)) = true → ((0 : Int) ≤ (↑x_2.snd : Int) ∧ (↑x_2.snd : Int) < (↑(List.length x.fst) : Int)) ∧ ((0 : Int) ≤ (↑x_2.fst : Int) ∧ (↑x_2.fst : Int) < (↑(List.length x.fst) : Int)) ∧ (eqV tRot (List.getD x.fst (↑x_2.snd : Int).toNat (dfl tRot)) (List.getD x.fst (↑x_2.fst : Int).toNat (dfl tRot)) = true → (((5 : Int), (↑x_2.fst : Int), ()), ()) = (rotsR x.fst, ())) ∧ (eqV tRot (List.getD x.fst (↑x_2.snd : Int).toNat (dfl tRot)) (List.getD x.fst (↑x_2.fst : Int).toNat (dfl tRot)) = false → ((-9223372036854775808 : Int) ≤ (↑x_2.snd : Int) + (1 : Int) ∧ (↑x_2.snd : Int) + (1 : Int) ≤ (9223372036854775807 : Int)) ∧ ∃ (x' : Nat × Nat), x.fst = x.fst ∧ (↑x'.fst : Int) = (↑x_2.fst : Int) ∧ (↑x'.snd : Int) = (↑x_2.snd : Int) + (1 : Int) ∧ (0 : El ti) = (0 : El ti) ∧ (0 : El ti) = (0 : El ti) ∧ ((x'.fst < List.length x.fst ∧ rotsS x.fst x'.fst = ((0 : Int), (0 : Int)) ∧ rotC (List.getD x.fst x'.fst (dfl tRot)) = (0 : Int) ∧ x'.snd ≤ x'.fst ∧ rotsIn x.fst x'.fst x'.snd = false) ∧ List.length x.fst - x_1 = List.length x.fst - x'.fst) ∧ x'.fst - x'.snd < x_2.fst - x_2.snd)) ∧ (decide ((↑x_2.snd : Int) < (↑x_2.fst : Int)) = false → ((-9223372036854775808 : Int) ≤ (↑x_2.fst : Int) + (1 : Int) ∧ (↑x_2.fst : Int) + (1 : Int) ≤ (9223372036854775807 : Int)) ∧ ∃ (x' : Nat), x.fst = x.fst ∧ (↑x' : Int) = (↑x_2.fst : Int) + (1 : Int) ∧ (0 : El ti) = (0 : El ti) ∧ (0 : El ti) = (0 : El ti) ∧ (x' ≤ List.length x.fst ∧ rotsS x.fst x' = ((0 : Int), (0 : Int))) ∧ List.length x.fst - x' < List.length x.fst - x_1))) ∧ (decide ((↑x_1 : Int) < (↑(List.length x.fst) : Int)) = false → (((0 : Int), (0 : Int), ()), ()) = (rotsR x.fst, ())))
set_option maxRecDepth 100000 in
theorem w_n21Rotors (y : El sp_n21Rotors.q) (x : Els sp_n21Rotors.ps) : aw c_n21Rotors (iv_n21Rotors y x) (codeOf Tryz.f120) 0 (retQ c_n21Rotors sp_n21Rotors (Tryz.f120).results.toList y x) (startT sp_n21Rotors x) (startO sp_n21Rotors y) 1 = F_n21Rotors y x := by kernel_rfl
theorem m_n21Rotors (y : El (.un)) (x : Els [.sl tRot]) (h2 : wfE (.un) y) (h3 : wfEs [.sl tRot] x) : F_n21Rotors y x := by
  unfold F_n21Rotors
  have hL : x.1.length ≤ 9223372036854775807 := h3.1.1
  refine ⟨fun h => ?_, fun h => ⟨⟨0, rfl, rfl, rfl, rfl, Nat.zero_le _, rfl⟩, fun i hi => ⟨fun l => ?_, fun l => ?_⟩⟩⟩
  · have h := gtT h
    rintro _ rfl
    exact congrArg (fun z => (z, ())) (rots_long (by omega))
  · obtain ⟨i0, i1⟩ := hi
    have h := gtF h
    have hl : ¬ 8 < x.1.length := by omega
    have l := ltT l
    have il : i < x.1.length := by omega
    refine ⟨⟨by omega, l⟩, ?_⟩
    simp only [Int.toNat_natCast]
    rintro _ rfl
    refine ⟨fun g => ?_, fun g => ⟨⟨(i, 0), (by first | exact rfl | exact trivial), (by first | exact rfl | exact trivial), (by first | exact rfl | exact trivial), (by first | exact rfl | exact trivial), (by first | exact rfl | exact trivial), ⟨il, i1, neF g, Nat.zero_le _, rfl⟩, rfl⟩, fun j hj => ⟨fun m => ?_, fun m => ?_⟩⟩⟩
    · have g := neT g
      have e := rots_bad i1 (by rw [rotsAt_1 g]; exact g) il hl
      rw [rotsAt_1 g] at e
      exact congrArg (fun z => (z, ())) e
    · obtain ⟨p, q⟩ := j
      obtain ⟨⟨j1, j2, j3, j4, j5⟩, j6⟩ := hj
      have j6 : x.1.length - i = x.1.length - p := j6
      have j1 : p < x.1.length := j1
      have j4 : q ≤ p := j4
      have m : (q : Int) < p := ltT m
      have pi : p = i := by omega
      refine ⟨⟨by omega, by omega⟩, ⟨by omega, by omega⟩, ?_⟩
      simp only [eq_rot]
      refine ⟨fun o => ?_, fun o => ⟨⟨by omega, by omega⟩, (p, q + 1), ?_⟩⟩
      · have e5 := rotsAt_2 j3 (rotsIn_hit (show q < p by omega) o)
        have e := rots_bad j2 (by rw [e5]; decide) j1 hl
        rw [e5] at e
        exact congrArg (fun z => (z, ())) e
      · have rs := rotsIn_succ j5 o
        and_intros
        all_goals first | rfl | exact j1 | exact j2 | exact j3 | exact rs | exact j6 | exact trivial | (show p - (q + 1) < p - q; omega) | (show q + 1 ≤ p; omega) | omega
    · obtain ⟨p, q⟩ := j
      obtain ⟨⟨j1, j2, j3, j4, j5⟩, j6⟩ := hj
      have j6 : x.1.length - i = x.1.length - p := j6
      have j1 : p < x.1.length := j1
      have j4 : q ≤ p := j4
      have m : (p : Int) ≤ q := ltF m
      have qp : q = p := by omega
      have j5 : rotsIn x.1 p p = false := by rw [qp] at j5; exact j5
      have nx := rots_next j2 (rotsAt_3 j3 j5)
      refine ⟨⟨by omega, by omega⟩, p + 1, ?_⟩
      and_intros
      all_goals first | rfl | exact nx | exact trivial | omega
  · obtain ⟨i0, i1⟩ := hi
    have h := gtF h
    have l := ltF l
    have e : i = x.1.length := by omega
    rw [e] at i1
    exact congrArg (fun z => (z, ())) (rots_end i1 (by omega))
set_option maxRecDepth 100000 in
theorem fo_n21Rotors : FnOk Tryz.prog 120 sp_n21Rotors := fnOk_of (C := c_n21Rotors) iv_n21Rotors Tryz.func120 rfl (by kernel_rfl) tys_ok (prims_cons (spec_prim fo_nRCk) (prims_cons (spec_prim fo_n21none) prims_nil)) mixed_ (Nat.le_refl _) rfl fun y x h1 h2 h3 h4 =>
  Eq.mpr (w_n21Rotors y x) (m_n21Rotors y x h2 h3)
end Go.Proofs.YtifonmdcicegdaaGreat

namespace Go.Proofs.YtifonmdcicegdaaGreat
open Go Go.RowKit

/-- a number and an error are told -/
def IntP (w : World) (t : Int × Int) (e : Ending) (w' : World) : Prop := e = .returned (.tuple #[.int .i64 t.1, .int .i64 t.2]) ∧ Ext w w'

set_option maxRecDepth 4000 in
set_option maxHeartbeats 2000000 in
theorem compareF_raw (s t : Bool) (xs ys us vs : List Int) (A B C D : Option Addr) (c1 c2 c3 c4 : Nat) (w : World) (ha : Rd w A c1 xs) (hb : Rd w B c2 ys) (hc : Rd w C c3 us) (hd : Rd w D c4 vs) (wa : (⟨s, xs, ys⟩ : Fr).Wf) (wb : (⟨t, us, vs⟩ : Fr).Wf) :
    Calls Tryz.prog 25 #[.agg #[.bool s, .slice A xs.length c1, .slice B ys.length c2], .agg #[.bool t, .slice C us.length c3, .slice D vs.length c4]] w (IntP w (fcmp ⟨s, xs, ys⟩ ⟨t, us, vs⟩)) := by
  have HCK := Lib.hid (fun wx (h1 : Rd wx A c1 xs) (h2 : Rd wx B c2 ys) (h3 : Rd wx C c3 us) (h4 : Rd wx D c4 vs) => show Calls Tryz.prog 135 #[.agg #[.bool s, .slice A xs.length c1, .slice B ys.length c2], .agg #[.bool t, .slice C us.length c3, .slice D vs.length c4]] wx (fun e w' => e = .returned (.int .i64 (fchk2 ⟨s, xs, ys⟩ ⟨t, us, vs⟩)) ∧ Ext wx w') from checks_any ⟨s, xs, ys⟩ ⟨t, us, vs⟩ A B C D c1 c2 c3 c4 wx h1 h2 h3 h4 wa wb)
  obtain ⟨a, ea⟩ : ∃ a : Fr, a = ⟨s, xs, ys⟩ := ⟨_, rfl⟩
  obtain ⟨b, eb⟩ : ∃ b : Fr, b = ⟨t, us, vs⟩ := ⟨_, rfl⟩
  rw [← ea, ← eb] at HCK ⊢
  rw [← ea] at wa
  rw [← eb] at wb
  have HA := Lib.hid ha
  have HB := Lib.hid hb
  have HC := Lib.hid hc
  have HD := Lib.hid hd
  clear ha hb hc hd
  by_cases hk : fchk2 a b ≠ 0
  · have HT := Lib.hid (show fcmp a b = (0, fchk2 a b) from if_pos hk)
    have hb1 : (fchk2 a b != 0) = true := bne_iff_ne.2 hk
    rw [HT.out]
    clear hk ea eb
    go_enter Tryz.func25, Tryz.ntmps25
    go_wp2_with fail
    obtain ⟨W, hW⟩ : ∃ W, W = (w.alloc (.cells #[.bool s, .slice A xs.length c1, .slice B ys.length c2] 24)).alloc (.cells #[.bool t, .slice C us.length c3, .slice D vs.length c4] 24) := ⟨_, rfl⟩
    have F0 : Six W w.heap.size (.bool s) (.slice A xs.length c1) (.slice B ys.length c2) (.bool t) (.slice C us.length c3) (.slice D vs.length c4) := by rw [hW]; refine ⟨?_, ?_, ?_, ?_, ?_, ?_⟩ <;> simp [go_sem]
    have HX : Hid (Ext w W) := by rw [hW]; exact ((Ext.refl w).alloc _).alloc _
    have HZ := Lib.hid (show W.heap.size = w.heap.size + 2 by rw [hW]; simp)
    try rw [← hW]
    clear hW
    refine (HCK.out W (HA.out.ext HX.out) (HB.out.ext HX.out) (HC.out.ext HX.out) (HD.out.ext HX.out)).mono ?_; rintro e w1 ⟨rfl, hx1⟩
    have F1 := six_ext hx1 F0
    have HX1 := Lib.hid (HX.out.trans hx1)
    clear hx1 F0 HX
    clear F1
    go_wp2_with fail
    go_ret2
    exact ⟨rfl, HX1.out⟩
  have h0 : fchk2 a b = 0 := by simpa using hk
  have hb1 : (fchk2 a b != 0) = false := bne_eq_false_iff_eq.2 h0
  obtain ⟨p, q, ep, eq, lp, lq⟩ := fchk2_ok wa wb h0
  have LP := not_lng lp
  have LQ := not_lng lq
  have E1 : a.num = wd p.num.natAbs := by rw [ep]; rfl
  have E2 : a.den = wd p.den := by rw [ep]; rfl
  have E3 : b.num = wd q.num.natAbs := by rw [eq]; rfl
  have E4 : b.den = wd q.den := by rw [eq]; rfl
  have E5 : a.neg = decide (p.num < 0) := by rw [ep]; rfl
  have E6 : b.neg = decide (q.num < 0) := by rw [eq]; rfl
  rw [ea] at E1 E2 E5
  rw [eb] at E3 E4 E6
  simp only at E1 E2 E3 E4 E5 E6
  obtain ⟨c, hcc⟩ : ∃ c, c = cmpq p q := ⟨_, rfl⟩
  have HT := Lib.hid (show fcmp a b = (c, 0) by unfold fcmp; rw [if_neg (by omega), ep, eq, dec_enc, dec_enc, hcc])
  rw [HT.out]
  have lX := wd_len_mul p.num.natAbs q.den
  have lY := wd_len_mul q.num.natAbs p.den
  obtain ⟨X, hX⟩ : ∃ X, X = p.num.natAbs * q.den := ⟨_, rfl⟩
  obtain ⟨Y, hY⟩ : ∃ Y, Y = q.num.natAbs * p.den := ⟨_, rfl⟩
  have HT1 := Lib.hid (fun wx (hx : Ext w wx) => by
    have h1 := times_any A D p.num.natAbs q.den c1 c4 wx (E1 ▸ HA.out.ext hx) (E4 ▸ HD.out.ext hx) (by omega)
    rw [← E1, ← E4, ← hX] at h1
    exact h1)
  have HT2 := Lib.hid (fun wx (hx : Ext w wx) => by
    have h1 := times_any C B q.num.natAbs p.den c3 c2 wx (E3 ▸ HC.out.ext hx) (E2 ▸ HB.out.ext hx) (by omega)
    rw [← E3, ← E2, ← hY] at h1
    exact h1)
  have HCM := Lib.hid (show (s = true → t = true → cmp Y X = c) ∧ (s = true → t = false → c = -1) ∧ (s = false → t = true → c = 1) ∧ (s = false → t = false → cmp X Y = c) from by
    rw [hX, hY, hcc, E5, E6]
    exact ⟨fun h k => cmpq_nn p q (of_decide_eq_true h) (of_decide_eq_true k), fun h k => cmpq_np p q (of_decide_eq_true h) (of_decide_eq_false k), fun h k => cmpq_pn p q (of_decide_eq_false h) (of_decide_eq_true k), fun h k => cmpq_pp p q (of_decide_eq_false h) (of_decide_eq_false k)⟩)
  rw [← hX] at lX
  rw [← hY] at lY
  clear hX hY hk h0 ep eq E1 E2 E3 E4 E5 E6 ea eb hcc wa wb HT
  go_enter Tryz.func25, Tryz.ntmps25
  go_wp2_with fail
  obtain ⟨W, hW⟩ : ∃ W, W = (w.alloc (.cells #[.bool s, .slice A xs.length c1, .slice B ys.length c2] 24)).alloc (.cells #[.bool t, .slice C us.length c3, .slice D vs.length c4] 24) := ⟨_, rfl⟩
  have F0 : Six W w.heap.size (.bool s) (.slice A xs.length c1) (.slice B ys.length c2) (.bool t) (.slice C us.length c3) (.slice D vs.length c4) := by rw [hW]; refine ⟨?_, ?_, ?_, ?_, ?_, ?_⟩ <;> simp [go_sem]
  have HX : Hid (Ext w W) := by rw [hW]; exact ((Ext.refl w).alloc _).alloc _
  have HZ := Lib.hid (show W.heap.size = w.heap.size + 2 by rw [hW]; simp)
  try rw [← hW]
  clear hW
  refine (HCK.out W (HA.out.ext HX.out) (HB.out.ext HX.out) (HC.out.ext HX.out) (HD.out.ext HX.out)).mono ?_; rintro e w1 ⟨rfl, hx1⟩
  have F1 := six_ext hx1 F0
  have HX1 := Lib.hid (HX.out.trans hx1)
  clear hx1 F0 HX
  obtain ⟨u0, u1, u2, v0, v1, v2⟩ := id F1
  go_wp2_with fail
  go_region_held3 (fun w' => w'.cell? ⟨w.heap.size, 0, none⟩ = some (.bool s) ∧ w'.cell? ⟨w.heap.size, 1, none⟩ = some (.slice A xs.length c1) ∧ w'.cell? ⟨w.heap.size, 2, none⟩ = some (.slice B ys.length c2) ∧ w'.cell? ⟨w.heap.size + 1, 0, none⟩ = some (.bool t) ∧ w'.cell? ⟨w.heap.size + 1, 1, none⟩ = some (.slice C us.length c3) ∧ w'.cell? ⟨w.heap.size + 1, 2, none⟩ = some (.slice D vs.length c4)) (repeat (first | (with_reducible exact F1) | (with_reducible exact F2) | (with_reducible exact F3) | (with_reducible exact F4) | (with_reducible refine six_drew ?_)))
    (first
      | (go_at_call 142; ((with_reducible refine (HT1.out _ HX1.out.drew).mono ?_)); rintro e w2 ⟨A5, c5, rfl, p1, hx2⟩; have P1 := Lib.hid p1; have HX2 := Lib.hid hx2; have F2 := six_ext hx2 (six_drew F1); clear p1 hx2)
      | (go_at_call 142; ((with_reducible refine (HT2.out _ (HX1.out.drew.trans HX2.out)).mono ?_)); rintro e w3 ⟨A6, c6, rfl, p1, hx3⟩; have P2 := Lib.hid p1; have HX3 := Lib.hid hx3; have F3 := six_ext hx3 F2; clear p1 hx3))
  all_goals
    have HX9 := Lib.hid ((HX1.out.drew.trans HX2.out).trans HX3.out)
    have P1 := Lib.hid (P1.out.ext HX3.out)
    clear u0 u1 u2 v0 v1 v2 F1 F2
    obtain ⟨u0, u1, u2, v0, v1, v2⟩ := F3
    cases s with
    | true =>
      cases t with
      | true =>
        have HE := Lib.hid (HCM.out.1 rfl rfl)
        go_wp2_with fail
        refine (compare_any A6 A5 Y X _ _ _ P2.out.rd P1.out.rd).mono ?_; rintro e w4 ⟨rfl, hx⟩
        rw [HE.out]
        have HX4 := Lib.hid (HX9.out.trans hx)
        clear hx
        go_wp2_with fail
        go_ret2
        exact ⟨rfl, HX4.out⟩
      | false =>
        have HE := Lib.hid (HCM.out.2.1 rfl rfl)
        go_wp2_with fail
        go_ret2
        exact ⟨by rw [HE.out]; rfl, HX9.out⟩
    | false =>
      cases t with
      | true =>
        have HE := Lib.hid (HCM.out.2.2.1 rfl rfl)
        go_wp2_with fail
        go_ret2
        exact ⟨by rw [HE.out]; rfl, HX9.out⟩
      | false =>
        have HE := Lib.hid (HCM.out.2.2.2 rfl rfl)
        go_wp2_with fail
        refine (compare_any A5 A6 X Y _ _ _ P1.out.rd P2.out.rd).mono ?_; rintro e w4 ⟨rfl, hx⟩
        rw [HE.out]
        have HX4 := Lib.hid (HX9.out.trans hx)
        clear hx
        go_wp2_with fail
        go_ret2
        exact ⟨rfl, HX4.out⟩
theorem compare_fr (a b : Fr) (A B C D : Option Addr) (c1 c2 c3 c4 : Nat) (w : World) (ha : Rd w A c1 a.num) (hb : Rd w B c2 a.den) (hc : Rd w C c3 b.num) (hd : Rd w D c4 b.den) (wa : a.Wf) (wb : b.Wf) :
    Calls Tryz.prog 25 #[.agg #[.bool a.neg, .slice A a.num.length c1, .slice B a.den.length c2], .agg #[.bool b.neg, .slice C b.num.length c3, .slice D b.den.length c4]] w (IntP w (fcmp a b)) :=
  compareF_raw a.neg b.neg a.num a.den b.num b.den A B C D c1 c2 c3 c4 w ha hb hc hd wa wb

end Go.Proofs.YtifonmdcicegdaaGreat

namespace Go.Proofs.YtifonmdcicegdaaGreat
open Go Go.RowKit

set_option maxRecDepth 4000 in
set_option maxHeartbeats 4000000 in
theorem gorder_any (a b : Fr) (A B C D : Option Addr) (c1 c2 c3 c4 : Nat) (w : World) (ha : Rd w A c1 a.num) (hb : Rd w B c2 a.den) (hc : Rd w C c3 b.num) (hd : Rd w D c4 b.den) (wa : a.Wf) (wb : b.Wf) (h0 : fchk2 a b = 0) :
    Calls Tryz.prog 147 #[.agg #[.bool a.neg, .slice A a.num.length c1, .slice B a.den.length c2], .agg #[.bool b.neg, .slice C b.num.length c3, .slice D b.den.length c4]] w fun e w' => e = .returned (.int .i64 (cmpq a.q b.q)) ∧ Ext w w' := by
  have hk : ¬ fchk2 a b ≠ 0 := by omega
  have HA := Lib.hid ha
  have HB := Lib.hid hb
  have HC := Lib.hid hc
  have HD := Lib.hid hd
  clear ha hb hc hd
  obtain ⟨p, q, ep, eq, lp, lq⟩ := fchk2_ok wa wb h0
  have LP := not_lng lp
  have LQ := not_lng lq
  have E1 : a.num = wd p.num.natAbs := by rw [ep]; rfl
  have E2 : a.den = wd p.den := by rw [ep]; rfl
  have E3 : b.num = wd q.num.natAbs := by rw [eq]; rfl
  have E4 : b.den = wd q.den := by rw [eq]; rfl
  have E5 : a.neg = decide (p.num < 0) := by rw [ep]; rfl
  have E6 : b.neg = decide (q.num < 0) := by rw [eq]; rfl
  obtain ⟨c, hcc⟩ : ∃ c, c = cmpq p q := ⟨_, rfl⟩
  rw [show cmpq a.q b.q = c by rw [hcc, ep, eq, dec_enc, dec_enc]]
  have lX := wd_len_mul p.num.natAbs q.den
  have lY := wd_len_mul q.num.natAbs p.den
  obtain ⟨X, hX⟩ : ∃ X, X = p.num.natAbs * q.den := ⟨_, rfl⟩
  obtain ⟨Y, hY⟩ : ∃ Y, Y = q.num.natAbs * p.den := ⟨_, rfl⟩
  have HT1 := Lib.hid (fun wx (hx : Ext w wx) => by
    have h1 := gtimes3_any A D p.num.natAbs q.den c1 c4 wx (E1 ▸ HA.out.ext hx) (E4 ▸ HD.out.ext hx) (by omega)
    rw [← E1, ← E4, ← hX] at h1
    exact h1)
  have HT2 := Lib.hid (fun wx (hx : Ext w wx) => by
    have h1 := gtimes3_any C B q.num.natAbs p.den c3 c2 wx (E3 ▸ HC.out.ext hx) (E2 ▸ HB.out.ext hx) (by omega)
    rw [← E3, ← E2, ← hY] at h1
    exact h1)
  rw [← hX] at lX
  rw [← hY] at lY
  have HSG := Lib.hid (fun (wx : World) (v : Bool) (P Q : Option Addr) (c d : Nat) (h1 : Rd wx P c (wd X)) (h2 : Rd wx Q d (wd Y)) (hv : v = !b.neg) => show Calls Tryz.prog 227 #[.bool a.neg, .slice P (wd X).length c, .bool v, .slice Q (wd Y).length d] wx (SgP wx (sg a.neg X + sg (!b.neg) Y)) by
    subst hv
    exact gsigned_any a.neg (!b.neg) P Q X Y c d wx h1 h2 (by omega) (by omega))
  have HCS := Lib.hid (fun (v : Bool) (D : Nat) (h : sg v D = sg a.neg X + sg (!b.neg) Y) => show c = (if (wd D).length = 0 then 0 else if v = true then -1 else 1) by
    rw [hcc]; exact cmpq_sg p q v D (by rw [h, E5, E6, hX, hY]))
  clear hX hY hk h0 ep eq E1 E2 E3 E4 E5 E6 hcc
  go_enter Tryz.func147, Tryz.ntmps147
  go_wp2_with fail
  obtain ⟨W, hW⟩ : ∃ W, W = (w.alloc (.cells #[.bool a.neg, .slice A a.num.length c1, .slice B a.den.length c2] 24)).alloc (.cells #[.bool b.neg, .slice C b.num.length c3, .slice D b.den.length c4] 24) := ⟨_, rfl⟩
  have F0 : Six W w.heap.size (.bool a.neg) (.slice A a.num.length c1) (.slice B a.den.length c2) (.bool b.neg) (.slice C b.num.length c3) (.slice D b.den.length c4) := by rw [hW]; refine ⟨?_, ?_, ?_, ?_, ?_, ?_⟩ <;> simp [go_sem]
  have HX : Hid (Ext w W) := by rw [hW]; exact ((Ext.refl w).alloc _).alloc _
  have HZ := Lib.hid (show W.heap.size = w.heap.size + 2 by rw [hW]; simp)
  try rw [← hW]
  clear hW
  go_region_held3 (fun w' => w'.cell? ⟨w.heap.size, 0, none⟩ = some (.bool a.neg) ∧ w'.cell? ⟨w.heap.size, 1, none⟩ = some (.slice A a.num.length c1) ∧ w'.cell? ⟨w.heap.size, 2, none⟩ = some (.slice B a.den.length c2) ∧ w'.cell? ⟨w.heap.size + 1, 0, none⟩ = some (.bool b.neg) ∧ w'.cell? ⟨w.heap.size + 1, 1, none⟩ = some (.slice C b.num.length c3) ∧ w'.cell? ⟨w.heap.size + 1, 2, none⟩ = some (.slice D b.den.length c4)) (repeat (first | (with_reducible exact F0) | (with_reducible exact F1) | (with_reducible exact F2) | (with_reducible exact F3) | (with_reducible exact F4) | (with_reducible refine six_drew ?_)))
    (first
      | (go_at_call 144; ((with_reducible refine (HT1.out _ HX.out.drew).mono ?_)); rintro e w2 ⟨A5, c5, rfl, p1, hx2⟩; have P1 := Lib.hid p1; have HX2 := Lib.hid hx2; have F2 := six_ext hx2 (six_drew F0); clear p1 hx2)
      | (go_at_call 144; ((with_reducible refine (HT2.out _ (HX.out.drew.trans HX2.out)).mono ?_)); rintro e w3 ⟨A6, c6, rfl, p1, hx3⟩; have P2 := Lib.hid p1; have HX3 := Lib.hid hx3; have F3 := six_ext hx3 F2; clear p1 hx3)
      | (go_at_call 227; ((with_reducible refine (HSG.out _ _ A5 A6 c5 c6 (P1.out.rd.ext HX3.out) P2.out.rd rfl).mono ?_)); rintro e w4 ⟨v, N, A7, c7, hz, rfl, k3, hx4⟩; have HZV := Lib.hid (HCS.out v N hz); have HX4 := Lib.hid hx4; have F4 := six_ext hx4 F3; clear hz k3 hx4))
  all_goals
    have HX9 := Lib.hid (((HX.out.drew.trans HX2.out).trans HX3.out).trans HX4.out)
    by_cases hn : (wd N).length = 0
    · have HE := Lib.hid (show c = 0 by rw [HZV.out, if_pos hn])
      have hb1 : (((wd N).length : Int) == 0) = true := beq_iff_eq.2 (by omega)
      clear hn
      go_wp2_with fail
      go_ret
      exact ⟨by rw [HE.out]; rfl, HX9.out⟩
    · have hb1 : (((wd N).length : Int) == 0) = false := beq_eq_false_iff_ne.2 (by omega)
      cases v with
      | true =>
        have HE := Lib.hid (show c = -1 by rw [HZV.out, if_neg hn]; rfl)
        clear hn
        go_wp2_with fail
        go_ret
        exact ⟨by rw [HE.out]; rfl, HX9.out⟩
      | false =>
        have HE := Lib.hid (show c = 1 by rw [HZV.out, if_neg hn]; rfl)
        clear hn
        go_wp2_with fail
        go_ret
        exact ⟨by rw [HE.out]; rfl, HX9.out⟩

set_option maxRecDepth 4000 in
set_option maxHeartbeats 2000000 in
theorem gcompare_fr (a b : Fr) (A B C D : Option Addr) (c1 c2 c3 c4 : Nat) (w : World) (ha : Rd w A c1 a.num) (hb : Rd w B c2 a.den) (hc : Rd w C c3 b.num) (hd : Rd w D c4 b.den) (wa : a.Wf) (wb : b.Wf) :
    Calls Tryz.prog 26 #[.agg #[.bool a.neg, .slice A a.num.length c1, .slice B a.den.length c2], .agg #[.bool b.neg, .slice C b.num.length c3, .slice D b.den.length c4]] w (IntP w (fcmp a b)) := by
  have HA := Lib.hid ha
  have HB := Lib.hid hb
  have HC := Lib.hid hc
  have HD := Lib.hid hd
  clear ha hb hc hd
  by_cases hk : fchk2 a b ≠ 0
  · have HT := Lib.hid (show fcmp a b = (0, fchk2 a b) from if_pos hk)
    have hb1 : (fchk2 a b != 0) = true := bne_iff_ne.2 hk
    rw [HT.out]
    clear hk
    go_enter Tryz.func26, Tryz.ntmps26
    go_wp2_with fail
    obtain ⟨W, hW⟩ : ∃ W, W = (w.alloc (.cells #[.bool a.neg, .slice A a.num.length c1, .slice B a.den.length c2] 24)).alloc (.cells #[.bool b.neg, .slice C b.num.length c3, .slice D b.den.length c4] 24) := ⟨_, rfl⟩
    have F0 : Six W w.heap.size (.bool a.neg) (.slice A a.num.length c1) (.slice B a.den.length c2) (.bool b.neg) (.slice C b.num.length c3) (.slice D b.den.length c4) := by rw [hW]; refine ⟨?_, ?_, ?_, ?_, ?_, ?_⟩ <;> simp [go_sem]
    have HX : Hid (Ext w W) := by rw [hW]; exact ((Ext.refl w).alloc _).alloc _
    have HZ := Lib.hid (show W.heap.size = w.heap.size + 2 by rw [hW]; simp)
    try rw [← hW]
    clear hW
    refine (gboth_fr a b A B C D c1 c2 c3 c4 W (HA.out.ext HX.out) (HB.out.ext HX.out) (HC.out.ext HX.out) (HD.out.ext HX.out) wa wb).mono ?_; rintro e w1 ⟨rfl, hx1⟩
    have F1 := six_ext hx1 F0
    have HX1 := Lib.hid (HX.out.trans hx1)
    clear hx1 F0 HX
    clear F1
    go_wp2_with fail
    go_ret2
    exact ⟨rfl, HX1.out⟩
  have h0 : fchk2 a b = 0 := by simpa using hk
  have hb1 : (fchk2 a b != 0) = false := bne_eq_false_iff_eq.2 h0
  have HT := Lib.hid (show fcmp a b = (cmpq a.q b.q, 0) from if_neg hk)
  have HOR := Lib.hid (fun wx (hx : Ext w wx) => gorder_any a b A B C D c1 c2 c3 c4 wx (HA.out.ext hx) (HB.out.ext hx) (HC.out.ext hx) (HD.out.ext hx) wa wb h0)
  rw [HT.out]
  clear hk h0
  go_enter Tryz.func26, Tryz.ntmps26
  go_wp2_with fail
  obtain ⟨W, hW⟩ : ∃ W, W = (w.alloc (.cells #[.bool a.neg, .slice A a.num.length c1, .slice B a.den.length c2] 24)).alloc (.cells #[.bool b.neg, .slice C b.num.length c3, .slice D b.den.length c4] 24) := ⟨_, rfl⟩
  have F0 : Six W w.heap.size (.bool a.neg) (.slice A a.num.length c1) (.slice B a.den.length c2) (.bool b.neg) (.slice C b.num.length c3) (.slice D b.den.length c4) := by rw [hW]; refine ⟨?_, ?_, ?_, ?_, ?_, ?_⟩ <;> simp [go_sem]
  have HX : Hid (Ext w W) := by rw [hW]; exact ((Ext.refl w).alloc _).alloc _
  have HZ := Lib.hid (show W.heap.size = w.heap.size + 2 by rw [hW]; simp)
  try rw [← hW]
  clear hW
  refine (gboth_fr a b A B C D c1 c2 c3 c4 W (HA.out.ext HX.out) (HB.out.ext HX.out) (HC.out.ext HX.out) (HD.out.ext HX.out) wa wb).mono ?_; rintro e w1 ⟨rfl, hx1⟩
  have F1 := six_ext hx1 F0
  have HX1 := Lib.hid (HX.out.trans hx1)
  clear hx1 F0 HX
  obtain ⟨u0, u1, u2, v0, v1, v2⟩ := F1
  go_wp2_with fail
  refine (HOR.out _ HX1.out).mono ?_; rintro e w2 ⟨rfl, hx⟩
  have HX2 := Lib.hid (HX1.out.trans hx)
  clear hx u0 u1 u2 v0 v1 v2
  go_wp2_with fail
  go_ret2
  exact ⟨rfl, HX2.out⟩

end Go.Proofs.YtifonmdcicegdaaGreat

namespace Go.Proofs.YtifonmdcicegdaaGreat
open Go Go.RowKit

def spC2 : Spec := { q := .un, ps := [tR, tR], rs := [.it .i64, .it .i64], fresh := true, pre := fun _ _ => none, post := fun _ x => ((), ((fcmp (toFr x.1) (toFr x.2.1)).1, (fcmp (toFr x.1) (toFr x.2.1)).2, ())) }
theorem fcmp_rng (a b : Fr) : (-1 ≤ (fcmp a b).1 ∧ (fcmp a b).1 ≤ 1) ∧ Er (fcmp a b).2 := by
  unfold fcmp
  split
  · refine ⟨⟨by show (-1 : Int) ≤ 0; decide, by show (0 : Int) ≤ 1; decide⟩, ?_⟩
    unfold fchk2
    split
    · exact er_fchk a
    · exact er_fchk b
  · refine ⟨?_, Er.zero⟩
    unfold cmpq
    repeat' split
    all_goals constructor <;> simp
theorem rq_i64 {Z : Nat → Prop} {w : World} {base : Nat} {e : Int} (h : -1 ≤ e ∧ e ≤ 1) : RQ true Z w base (.it .i64) e [.int .i64 e] [] := by
  refine ⟨?_, rfl⟩
  rw [RT]
  exact ⟨rfl, Int.le_trans (by decide) h.1, Int.le_trans h.2 (by decide)⟩
theorem fnOk_C2 {f : Nat} (hc : ∀ (vs : Array Value) (w : World), (callFunc f vs).run Tryz.prog w = .ok (.enter f vs) w) (h : ∀ (a b : Fr) (A B C D : Option Addr) (c1 c2 c3 c4 : Nat) (w : World), Rd w A c1 a.num → Rd w B c2 a.den → Rd w C c3 b.num → Rd w D c4 b.den → a.Wf → b.Wf →
    Calls Tryz.prog f #[.agg #[.bool a.neg, .slice A a.num.length c1, .slice B a.den.length c2], .agg #[.bool b.neg, .slice C b.num.length c3, .slice D b.den.length c4]] w (IntP w (fcmp a b))) : FnOk Tryz.prog f spC2 := by
  refine ⟨hc, fun Z w gv vs y x hZ hv _ _ _ => ?_⟩
  match vs, hv with
  | [u, v], ⟨h1, h2, _⟩ =>
    obtain ⟨p, rfl, k1⟩ := rv_fr h1
    obtain ⟨q, rfl, k2⟩ := rv_fr h2
    refine (h (toFr x.1) (toFr x.2.1) p.A p.B q.A q.B _ _ _ _ w k1.num k1.den k2.num k2.den k1.wf k2.wf).mono fun e w' ⟨e1, e2⟩ => ?_
    subst e1
    have r := fcmp_rng (toFr x.1) (toFr x.2.1)
    exact told_new (S := spC2) (r := ((fcmp (toFr x.1) (toFr x.2.1)).1, (fcmp (toFr x.1) (toFr x.2.1)).2, ())) (us := [_, _]) (bs := []) rfl rfl (.inr ⟨by simp, rfl⟩) hZ ⟨[], [], rfl, rq_i64 (base := w.heap.size) r.1, [], [], rfl, rq_err (base := w.heap.size) r.2, rfl⟩ List.nodup_nil (fun g hg => by simp at hg) e2
def sp_nCmp : Spec := spC2
theorem fo_nCmp : FnOk Tryz.prog 26 sp_nCmp := fnOk_C2 (callFunc_enter Tryz.func26 (by kernel_rfl) rfl) gcompare_fr
end Go.Proofs.YtifonmdcicegdaaGreat

