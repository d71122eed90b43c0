/- Texts of this claim, joined: B27 C1 B28 B29. -/
import Derived.Test.YtifonmdcicegdaaGreatQz
set_option linter.unusedVariables false
set_option linter.unusedSimpArgs false
namespace Go.Proofs.YtifonmdcicegdaaGreat
open Go Go.RowKit

def apStep (l : List (El tRot)) (n : Int) (i k : Nat) (s : Int × Int × Fr × Int) : Int × Int × Fr × Int :=
  if s.2.2.2 ≠ 0 then s else if (nearR (l.getD i (dfl tRot)) (l.getD k (dfl tRot)) n).2 ≠ 0 then (0, 0, Fr.zero, (nearR (l.getD i (dfl tRot)) (l.getD k (dfl tRot)) n).2) else if s.1 < 0 ∨ (fcmp (nearR (l.getD i (dfl tRot)) (l.getD k (dfl tRot)) n).1 s.2.2.1).1 < 0 then ((i : Int), (k : Int), (nearR (l.getD i (dfl tRot)) (l.getD k (dfl tRot)) n).1, 0) else s
def apIn (l : List (El tRot)) (n : Int) (i : Nat) (s : Int × Int × Fr × Int) : Nat → Int × Int × Fr × Int
  | 0 => s
  | m + 1 => apStep l n i (i + 1 + m) (apIn l n i s m)
def apOut (l : List (El tRot)) (n : Int) : Nat → Int × Int × Fr × Int
  | 0 => (-1, -1, Fr.zero, 0)
  | i + 1 => apIn l n i (apOut l n i) (l.length - (i + 1))
def apEnd (s : Int × Int × Fr × Int) : Int × Int × El tFault × Unit := if s.2.2.2 ≠ 0 then (0, 0, (s.2.2.2, -1, ()), ()) else (s.1, s.2.1, (0, 0, ()), ())
def apartR (l : List (El tRot)) (n : Int) : Int × Int × El tFault × Unit := if (rotsR l).1 ≠ 0 then (0, 0, rotsR l, ()) else if n < 0 ∨ 256 < n ∨ l.length < 2 then (0, 0, (2, -1, ()), ()) else apEnd (apOut l n l.length)
section
variable {l : List (El tRot)} {n : Int}
theorem apStep_bad {i k : Nat} {s : Int × Int × Fr × Int} (h : s.2.2.2 ≠ 0) : apStep l n i k s = s := if_pos h
theorem apIn_bad {i : Nat} {s : Int × Int × Fr × Int} (h : s.2.2.2 ≠ 0) : ∀ m, apIn l n i s m = s
  | 0 => rfl
  | m + 1 => by
    show apStep l n i (i + 1 + m) (apIn l n i s m) = s
    rw [apIn_bad h m, apStep_bad h]
theorem apIn_stay {i m : Nat} {s : Int × Int × Fr × Int} (h : (apIn l n i s m).2.2.2 ≠ 0) : ∀ k, apIn l n i s (m + k) = apIn l n i s m
  | 0 => rfl
  | k + 1 => by
    show apStep l n i (i + 1 + (m + k)) (apIn l n i s (m + k)) = _
    rw [apIn_stay h k, apStep_bad h]
theorem apOut_stay {i : Nat} (h : (apOut l n i).2.2.2 ≠ 0) : ∀ k, apOut l n (i + k) = apOut l n i
  | 0 => rfl
  | k + 1 => by
    show apIn l n (i + k) (apOut l n (i + k)) (l.length - (i + k + 1)) = _
    rw [apOut_stay h k, apIn_bad h]
theorem ap_1 (h : (rotsR l).1 ≠ 0) : ((0, 0, rotsR l, ()) : Int × Int × El tFault × Unit) = apartR l n := by unfold apartR; rw [if_pos h]
theorem ap_2 (h : (rotsR l).1 = 0) (k : n < 0 ∨ 256 < n ∨ l.length < 2) : ((0, 0, (2, -1, ()), ()) : Int × Int × El tFault × Unit) = apartR l n := by unfold apartR; rw [if_neg (fun c => c h), if_pos k]
theorem ap_3 (h : (rotsR l).1 = 0) (k : ¬ (n < 0 ∨ 256 < n ∨ l.length < 2)) : apartR l n = apEnd (apOut l n l.length) := by unfold apartR; rw [if_neg (fun c => c h), if_neg k]
theorem ap_err {p q : Nat} (h : (rotsR l).1 = 0) (k : ¬ (n < 0 ∨ 256 < n ∨ l.length < 2)) (h0 : (apIn l n p (apOut l n p) q).2.2.2 = 0) (hq : p + 1 + q < l.length) (he : (nearR (l.getD p (dfl tRot)) (l.getD (p + 1 + q) (dfl tRot)) n).2 ≠ 0) : ((0, 0, ((nearR (l.getD p (dfl tRot)) (l.getD (p + 1 + q) (dfl tRot)) n).2, -1, ()), ()) : Int × Int × El tFault × Unit) = apartR l n := by
  have e1 : apIn l n p (apOut l n p) (q + 1) = (0, 0, Fr.zero, (nearR (l.getD p (dfl tRot)) (l.getD (p + 1 + q) (dfl tRot)) n).2) := by
    show apStep l n p (p + 1 + q) (apIn l n p (apOut l n p) q) = _
    unfold apStep
    rw [if_neg (fun c => c h0), if_pos he]
  have e2 := apIn_stay (l := l) (n := n) (i := p) (s := apOut l n p) (m := q + 1) (by rw [e1]; exact he) (l.length - (p + 1) - (q + 1))
  rw [show q + 1 + (l.length - (p + 1) - (q + 1)) = l.length - (p + 1) by omega, e1] at e2
  have e3 : apOut l n (p + 1) = (0, 0, Fr.zero, (nearR (l.getD p (dfl tRot)) (l.getD (p + 1 + q) (dfl tRot)) n).2) := e2
  have e4 := apOut_stay (l := l) (n := n) (i := p + 1) (by rw [e3]; exact he) (l.length - (p + 1))
  rw [show p + 1 + (l.length - (p + 1)) = l.length by omega, e3] at e4
  rw [ap_3 h k, e4]
  unfold apEnd
  rw [if_pos he]
theorem ap_end (h : (rotsR l).1 = 0) (k : ¬ (n < 0 ∨ 256 < n ∨ l.length < 2)) (h0 : (apOut l n l.length).2.2.2 = 0) : (((apOut l n l.length).1, (apOut l n l.length).2.1, (0, 0, ()), ()) : Int × Int × El tFault × Unit) = apartR l n := by
  rw [ap_3 h k]
  unfold apEnd
  rw [if_neg (fun c => c h0)]
theorem ap_less {p q : Nat} {s : Int × Int × Fr × Int} (h0 : (apIn l n p s q).2.2.2 = 0) (he : (nearR (l.getD p (dfl tRot)) (l.getD (p + 1 + q) (dfl tRot)) n).2 = 0) (hc : (apIn l n p s q).1 < 0 ∨ (fcmp (nearR (l.getD p (dfl tRot)) (l.getD (p + 1 + q) (dfl tRot)) n).1 (apIn l n p s q).2.2.1).1 < 0) : apIn l n p s (q + 1) = ((p : Int), ((p + 1 + q : Nat) : Int), (nearR (l.getD p (dfl tRot)) (l.getD (p + 1 + q) (dfl tRot)) n).1, 0) := by
  show apStep l n p (p + 1 + q) (apIn l n p s q) = _
  unfold apStep
  rw [if_neg (fun c => c h0), if_neg (fun c => c he), if_pos hc]
theorem ap_keep {p q : Nat} {s : Int × Int × Fr × Int} (h0 : (apIn l n p s q).2.2.2 = 0) (he : (nearR (l.getD p (dfl tRot)) (l.getD (p + 1 + q) (dfl tRot)) n).2 = 0) (hc : ¬ ((apIn l n p s q).1 < 0 ∨ (fcmp (nearR (l.getD p (dfl tRot)) (l.getD (p + 1 + q) (dfl tRot)) n).1 (apIn l n p s q).2.2.1).1 < 0)) : apIn l n p s (q + 1) = apIn l n p s q := by
  show apStep l n p (p + 1 + q) (apIn l n p s q) = _
  unfold apStep
  rw [if_neg (fun c => c h0), if_neg (fun c => c he), if_neg hc]
end
noncomputable def sp_n24Apart : Spec := { q := .un, ps := [.sl tRot, .it .i64], rs := [.it .i64, .it .i64, tFault], fresh := true, pre := fun _ _ => none, post := fun _ x => ((), apartR x.1 x.2.1) }
noncomputable def iv_n24Apart (y : El sp_n24Apart.q) (x : Els sp_n24Apart.ps) : Nat → Option Inv := fun k => if k = 0 then some { X := Nat, tm := fun i => [(0, .c (.sl tRot x.1)), (1, .c (.sc (.int .i64 x.2.1))), (6, .c (.pv 1 0)), (8, .c (.sc (.int .i64 (apOut x.1 x.2.1 i).1))), (9, .c (.sc (.int .i64 (apOut x.1 x.2.1 i).2.1))), (10, .c (.pv 2 0)), (11, .c (.sc (.int .i64 i)))], ob := fun i => [(1, .var (cel tFault (0, 0, ()))), (2, .var (cel tR (ofFr (apOut x.1 x.2.1 i).2.2.1)))], n := 3, I := fun i => i ≤ x.1.length ∧ (apOut x.1 x.2.1 i).2.2.2 = 0, μ := fun i => x.1.length - i } else if k = 1 then some { X := Nat × Nat, tm := fun i => [(0, .c (.sl tRot x.1)), (1, .c (.sc (.int .i64 x.2.1))), (6, .c (.pv 1 0)), (8, .c (.sc (.int .i64 (apIn x.1 x.2.1 i.1 (apOut x.1 x.2.1 i.1) i.2).1))), (9, .c (.sc (.int .i64 (apIn x.1 x.2.1 i.1 (apOut x.1 x.2.1 i.1) i.2).2.1))), (10, .c (.pv 2 0)), (11, .c (.sc (.int .i64 i.1))), (12, .c (.sc (.int .i64 (i.1 + 1 + i.2))))], ob := fun i => [(1, .var (cel tFault (0, 0, ()))), (2, .var (cel tR (ofFr (apIn x.1 x.2.1 i.1 (apOut x.1 x.2.1 i.1) i.2).2.2.1)))], n := 3, I := fun i => i.1 < x.1.length ∧ i.1 + 1 + i.2 ≤ x.1.length ∧ (apIn x.1 x.2.1 i.1 (apOut x.1 x.2.1 i.1) i.2).2.2.2 = 0, μ := fun i => x.1.length - (i.1 + 1 + i.2), lk := some fun m i => m = x.1.length - i.1 } else none
noncomputable abbrev c_n24Apart : Cfg := cfgS (Tryz.f96).ntmps false [(120, sp_n21Rotors.prim), (194, sp_n24none.prim), (94, sp_nNear.prim), (26, sp_nCmp.prim)]
def F_n24Apart (y : El sp_n24Apart.q) (x : Els sp_n24Apart.ps) : Prop :=
  ∀ (r : El Ty.un × Els [tFault]), r = ((), rotsR x.fst, ()) → ((r.snd.fst.fst != (0 : Int)) = true → ((0 : Int), (0 : Int), r.snd) = apartR x.fst x.snd.fst) ∧ ((r.snd.fst.fst != (0 : Int)) = false → (decide (x.snd.fst < (0 : Int)) = true → ∀ (r : El Ty.un × Els [tFault]), r = ((), ((2 : Int), (-1 : El ti), ()), ()) → ((0 : Int), (0 : Int), r.snd) = apartR x.fst x.snd.fst) ∧ (decide (x.snd.fst < (0 : Int)) = false → (decide (x.snd.fst > (256 : Int)) = true → ∀ (r : El Ty.un × Els [tFault]), r = ((), ((2 : Int), (-1 : El ti), ()), ()) → ((0 : Int), (0 : Int), r.snd) = apartR x.fst x.snd.fst) ∧ (decide (x.snd.fst > (256 : Int)) = false → (decide ((↑(List.length x.fst) : Int) < (2 : Int)) = true → ∀ (r : El Ty.un × Els [tFault]), r = ((), ((2 : Int), (-1 : El ti), ()), ()) → ((0 : Int), (0 : Int), r.snd) = apartR x.fst x.snd.fst) ∧ (decide ((↑(List.length x.fst) : Int) < (2 : Int)) = false → (∃ (x_1 : Nat), x.fst = x.fst ∧ x.snd.fst = x.snd.fst ∧ (apOut x.fst x.snd.fst x_1).fst = (-1 : Int) ∧ (apOut x.fst x.snd.fst x_1).snd.fst = (-1 : Int) ∧ (↑x_1 : Int) = (0 : Int) ∧ (0 : El ti) = (0 : Int) ∧ (0 : El ti) = (0 : Int) ∧ (ofFr (apOut x.fst x.snd.fst x_1).snd.snd.fst).fst = false ∧ (ofFr (apOut x.fst x.snd.fst x_1).snd.snd.fst).snd.fst = [] ∧ (ofFr (apOut x.fst x.snd.fst x_1).snd.snd.fst).snd.snd.fst = [] ∧ x_1 ≤ List.length x.fst ∧ (apOut x.fst x.snd.fst x_1).snd.snd.snd = (0 : Int)) ∧ ∀ (x_1 : Nat), x_1 ≤ List.length x.fst ∧ (apOut x.fst x.snd.fst x_1).snd.snd.snd = (0 : Int) → (decide ((↑x_1 : Int) < (↑(List.length x.fst) : Int)) = true → ((-9223372036854775808 : Int) ≤ (↑x_1 : Int) + (1 : Int) ∧ (↑x_1 : Int) + (1 : Int) ≤ (9223372036854775807 : Int)) ∧ (∃ (x_2 : Nat × Nat), x.fst = x.fst ∧ x.snd.fst = x.snd.fst ∧ (apIn x.fst x.snd.fst x_2.fst (apOut x.fst x.snd.fst x_2.fst) x_2.snd).fst = (apOut x.fst x.snd.fst x_1).fst ∧ (apIn x.fst x.snd.fst x_2.fst (apOut x.fst x.snd.fst x_2.fst) x_2.snd).snd.fst = (apOut x.fst x.snd.fst x_1).snd.fst ∧ (↑x_2.fst : Int) = (↑x_1 : Int) ∧ (↑x_2.fst : Int) + (1 : Int) + (↑x_2.snd : Int) = (↑x_1 : Int) + (1 : Int) ∧ (0 : El ti) = (0 : El ti) ∧ (0 : El ti) = (0 : El ti) ∧ (ofFr (apIn x.fst x.snd.fst x_2.fst (apOut x.fst x.snd.fst x_2.fst) x_2.snd).snd.snd.fst).fst = (ofFr (apOut x.fst x.snd.fst x_1).snd.snd.fst).fst ∧ (ofFr (apIn x.fst x.snd.fst x_2.fst (apOut x.fst x.snd.fst x_2.fst) x_2.snd).snd.snd.fst).snd.fst = (ofFr (apOut x.fst x.snd.fst x_1).snd.snd.fst).snd.fst ∧ (ofFr (apIn x.fst x.snd.fst x_2.fst (apOut x.fst x.snd.fst x_2.fst) x_2.snd).snd.snd.fst).snd.snd.fst = (ofFr (apOut x.fst x.snd.fst x_1).snd.snd.fst).snd.snd.fst ∧ (x_2.fst < List.length x.fst ∧ x_2.fst + (1 : Nat) + x_2.snd ≤ List.length x.fst ∧ (apIn x.fst x.snd.fst x_2.fst (apOut x.fst x.snd.fst x_2.fst) x_2.snd).snd.snd.snd = (0 : Int)) ∧ List.length x.fst - x_1 = List.length x.fst - x_2.fst) ∧ ∀ (x_2 : Nat × Nat), (x_2.fst < List.length x.fst ∧ x_2.fst + (1 : Nat) + x_2.snd ≤ List.length x.fst ∧ (apIn x.fst x.snd.fst x_2.fst (apOut x.fst x.snd.fst x_2.fst) x_2.snd).snd.snd.snd = (0 : Int)) ∧ List.length x.fst - x_1 = List.length x.fst - x_2.fst → (decide ((↑x_2.fst : Int) + (1 : Int) + (↑x_2.snd : Int) < (↑(List.length x.fst) : Int)) = true → ((0 : Int) ≤ (↑x_2.fst : Int) ∧ (↑x_2.fst : Int) < (↑(List.length x.fst) : Int)) ∧ ((0 : Int) ≤ (↑x_2.fst : Int) + (1 : Int) + (↑x_2.snd : Int) ∧ (↑x_2.fst : Int) + (1 : Int) + (↑x_2.snd : Int) < (↑(List.length x.fst) : Int)) ∧ ∀ (r : El Ty.un × Els [tR, Ty.it IntKind.i64]), r = pR (nearR (List.getD x.fst (↑x_2.fst : Int).toNat (dfl tRot)) (List.getD x.fst ((↑x_2.fst : Int) + (1 : Int) + (↑x_2.snd : Int)).toNat (dfl tRot)) x.snd.fst) → ((r.snd.snd.fst != (0 : Int)) = true → ∀ (r_1 : El Ty.un × Els [tFault]), r_1 = ((), (r.snd.snd.fst, (-1 : El ti), ()), ()) → ((0 : Int), (0 : Int), r_1.snd) = apartR x.fst x.snd.fst) ∧ ((r.snd.snd.fst != (0 : Int)) = false → ((!decide ((apIn x.fst x.snd.fst x_2.fst (apOut x.fst x.snd.fst x_2.fst) x_2.snd).fst < (0 : Int))) = true → ∀ (r_1 : El spC2.q × Els spC2.rs), r_1 = spC2.post (dfl spC2.q) (r.snd.fst, ofFr (apIn x.fst x.snd.fst x_2.fst (apOut x.fst x.snd.fst x_2.fst) x_2.snd).snd.snd.fst, ()) → (decide (r_1.snd.fst < (0 : Int)) = true → ((-9223372036854775808 : Int) ≤ (↑x_2.fst : Int) + (1 : Int) + (↑x_2.snd : Int) + (1 : Int) ∧ (↑x_2.fst : Int) + (1 : Int) + (↑x_2.snd : Int) + (1 : Int) ≤ (9223372036854775807 : Int)) ∧ ∃ (x' : Nat × Nat), x.fst = x.fst ∧ x.snd.fst = x.snd.fst ∧ (apIn x.fst x.snd.fst x'.fst (apOut x.fst x.snd.fst x'.fst) x'.snd).fst = (↑x_2.fst : Int) ∧ (apIn x.fst x.snd.fst x'.fst (apOut x.fst x.snd.fst x'.fst) x'.snd).snd.fst = (↑x_2.fst : Int) + (1 : Int) + (↑x_2.snd : Int) ∧ (↑x'.fst : Int) = (↑x_2.fst : Int) ∧ (↑x'.fst : Int) + (1 : Int) + (↑x'.snd : Int) = (↑x_2.fst : Int) + (1 : Int) + (↑x_2.snd : Int) + (1 : Int) ∧ (0 : El ti) = (0 : El ti) ∧ (0 : El ti) = (0 : El ti) ∧ (ofFr (apIn x.fst x.snd.fst x'.fst (apOut x.fst x.snd.fst x'.fst) x'.snd).snd.snd.fst).fst = r.snd.fst.fst ∧ (ofFr (apIn x.fst x.snd.fst x'.fst (apOut x.fst x.snd.fst x'.fst) x'.snd).snd.snd.fst).snd.fst = r.snd.fst.snd.fst ∧ (ofFr (apIn x.fst x.snd.fst x'.fst (apOut x.fst x.snd.fst x'.fst) x'.snd).snd.snd.fst).snd.snd.fst = r.snd.fst.snd.snd.fst ∧ ((x'.fst < List.length x.fst ∧ x'.fst + (1 : Nat) + x'.snd ≤ List.length x.fst ∧ (apIn x.fst x.snd.fst x'.fst (apOut x.fst x.snd.fst x'.fst) x'.snd).snd.snd.snd = (0 : Int)) ∧ List.length x.fst - x_1 = List.length x.fst - x'.fst) ∧ List.length x.fst - (x'.fst + (1 : Nat) + x'.snd) < List.length x.fst - (x_2.fst + (1 : Nat) + x_2.snd)) ∧ (decide (r_1.snd.fst < (0 : Int)) = false → ((-9223372036854775808 : Int) ≤ (↑x_2.fst : Int) + (1 : Int) + (↑x_2.snd : Int) + (1 : Int) ∧ (↑x_2.fst : Int) + (1 : Int) + (↑x_2.snd : Int) + (1 : Int) ≤ (9223372036854775807 : Int)) ∧ ∃ (x' : Nat × Nat), x.fst = x.fst ∧ x.snd.fst = x.snd.fst ∧ (apIn x.fst x.snd.fst x'.fst (apOut x.fst x.snd.fst x'.fst) x'.snd).fst = (apIn x.fst x.snd.fst x_2.fst (apOut x.fst x.snd.fst x_2.fst) x_2.snd).fst ∧ (apIn x.fst x.snd.fst x'.fst (apOut x.fst x.snd.fst x'.fst) x'.snd).snd.fst = (apIn x.fst x.snd.fst x_2.fst (apOut x.fst x.snd.fst x_2.fst) x_2.snd).snd.fst ∧ (↑x'.fst : Int) = (↑x_2.fst : Int) ∧ (↑x'.fst : Int) + (1 : Int) + (↑x'.snd : Int) = (↑x_2.fst : Int) + (1 : Int) + (↑x_2.snd : Int) + (1 : Int) ∧ (0 : El ti) = (0 : El ti) ∧ (0 : El ti) = (0 : El ti) ∧ (ofFr (apIn x.fst x.snd.fst x'.fst (apOut x.fst x.snd.fst x'.fst) x'.snd).snd.snd.fst).fst = (ofFr (apIn x.fst x.snd.fst x_2.fst (apOut x.fst x.snd.fst x_2.fst) x_2.snd).snd.snd.fst).fst ∧ (ofFr (apIn x.fst x.snd.fst x'.fst (apOut x.fst x.snd.fst x'.fst) x'.snd).snd.snd.fst).snd.fst = (ofFr (apIn x.fst x.snd.fst x_2.fst (apOut x.fst x.snd.fst x_2.fst) x_2.snd).snd.snd.fst).snd.fst ∧ (ofFr (apIn x.fst x.snd.fst x'.fst (apOut x.fst x.snd.fst x'.fst) x'.snd).snd.snd.fst).snd.snd.fst = (ofFr (apIn x.fst x.snd.fst x_2.fst (apOut x.fst x.snd.fst x_2.fst) x_2.snd).snd.snd.fst).snd.snd.fst ∧ ((x'.fst < List.length x.fst ∧ x'.fst + (1 : Nat) + x'.snd ≤ List.length x.fst ∧ (apIn x.fst x.snd.fst x'.fst (apOut x.fst x.snd.fst x'.fst) x'.snd).snd.snd.snd = (0 : Int)) ∧ List.length x.fst - x_1 = List.length x.fst - x'.fst) ∧ List.length x.fst - (x'.fst + (1 : Nat) + x'.snd) < List.length x.fst - (x_2.fst + (1 : Nat) + x_2.snd))) ∧ ((!decide ((apIn x.fst x.snd.fst x_2.fst (apOut x.fst x.snd.fst x_2.fst) x_2.snd).fst < (0 : Int))) = false → (decide ((apIn x.fst x.snd.fst x_2.fst (apOut x.fst x.snd.fst x_2.fst) x_2.snd).fst < (0 : Int)) = true → ((-9223372036854775808 : Int) ≤ (↑x_2.fst : Int) + (1 : Int) + (↑x_2.snd : Int) + (1 : Int) ∧ (↑x_2.fst : Int) + (1 : Int) + (↑x_2.snd : Int) + (1 : Int) ≤ (9223372036854775807 : Int)) ∧ ∃ (x' : Nat × Nat), x.fst = x.fst ∧ x.snd.fst = x.snd.fst ∧ (apIn x.fst x.snd.fst x'.fst (apOut x.fst x.snd.fst x'.fst) x'.snd).fst = (↑x_2.fst : Int) ∧ (apIn x.fst x.snd.fst x'.fst (apOut x.fst x.snd.fst x'.fst) x'.snd).snd.fst = (↑x_2.fst : Int) + (1 : Int) + (↑x_2.snd : Int) ∧ (↑x'.fst : Int) = (↑x_2.fst : Int) ∧ (↑x'.fst : Int) + (1 : Int) + (↑x'.snd : Int) = (↑x_2.fst : Int) + (1 : Int) + (↑x_2.snd : Int) + (1 : Int) ∧ (0 : El ti) = (0 : El ti) ∧ (0 : El ti) = (0 : El ti) ∧ (ofFr (apIn x.fst x.snd.fst x'.fst (apOut x.fst x.snd.fst x'.fst) x'.snd).snd.snd.fst).fst = r.snd.fst.fst ∧ (ofFr (apIn x.fst x.snd.fst x'.fst (apOut x.fst x.snd.fst x'.fst) x'.snd).snd.snd.fst).snd.fst = r.snd.fst.snd.fst ∧ (ofFr (apIn x.fst x.snd.fst x'.fst (apOut x.fst x.snd.fst x'.fst) x'.snd).snd.snd.fst).snd.snd.fst = r.snd.fst.snd.snd.fst ∧ ((x'.fst < List.length x.fst ∧ x'.fst + (1 : Nat) + x'.snd ≤ List.length x.fst ∧ (apIn x.fst x.snd.fst x'.fst (apOut x.fst x.snd.fst x'.fst) x'.snd).snd.snd.snd = (0 : Int)) ∧ List.length x.fst - x_1 = List.length x.fst - x'.fst) ∧ List.length x.fst - (x'.fst + (1 : Nat) + x'.snd) < List.length x.fst - (x_2.fst + (1 : Nat) + x_2.snd)) ∧ (decide ((apIn x.fst x.snd.fst x_2.fst (apOut x.fst x.snd.fst x_2.fst) x_2.snd).fst < (0 : Int)) = false → ((-9223372036854775808 : Int) ≤ (↑x_2.fst : Int) + (1 : Int) + (↑x_2.snd : Int) + (1 : Int) ∧ (↑x_2.fst : Int) + (1 : Int) + (↑x_2.snd : Int) + (1 : Int) ≤ (9223372036854775807 : Int)) ∧ ∃ (x' : Nat × Nat), x.fst = x.fst ∧ x.snd.fst = x.snd.fst ∧ (apIn x.fst x.snd.fst x'.fst (apOut x.fst x.snd.fst x'.fst) x'.snd).fst = (apIn x.fst x.snd.fst x_2.fst (apOut x.fst x.snd.fst x_2.fst) x_2.snd).fst ∧ (apIn x.fst x.snd.fst x'.fst (apOut x.fst x.snd.fst x'.fst) x'.snd).snd.fst = (apIn x.fst x.snd.fst x_2.fst (apOut x.fst x.snd.fst x_2.fst) x_2.snd).snd.fst ∧ (↑x'.fst : Int) = (↑x_2.fst : Int) ∧ (↑x'.fst : Int) + (1 : Int) + (↑x'.snd : Int) = (↑x_2.fst : Int) + (1 : Int) + (↑x_2.snd : Int) + (1 : Int) ∧ (0 : El ti) = (0 : El ti) ∧ (0 : El ti) = (0 : El ti) ∧ (ofFr (apIn x.fst x.snd.fst x'.fst (apOut x.fst x.snd.fst x'.fst) x'.snd).snd.snd.fst).fst = (ofFr (apIn x.fst x.snd.fst x_2.fst (apOut x.fst x.snd.fst x_2.fst) x_2.snd).snd.snd.fst).fst ∧ (ofFr (apIn x.fst x.snd.fst x'.fst (apOut x.fst x.snd.fst x'.fst) x'.snd).snd.snd.fst).snd.fst = (ofFr (apIn x.fst x.snd.fst x_2.fst (apOut x.fst x.snd.fst x_2.fst) x_2.snd).snd.snd.fst).snd.fst ∧ (ofFr (apIn x.fst x.snd.fst x'.fst (apOut x.fst x.snd.fst x'.fst) x'.snd).snd.snd.fst).snd.snd.fst = (ofFr (apIn x.fst x.snd.fst x_2.fst (apOut x.fst x.snd.fst x_2.fst) x_2.snd).snd.snd.fst).snd.snd.fst ∧ ((x'.fst < List.length x.fst ∧ x'.fst + (1 : Nat) + x'.snd ≤ List.length x.fst ∧ (apIn x.fst x.snd.fst x'.fst (apOut x.fst x.snd.fst x'.fst) x'.snd).snd.snd.snd = (0 : Int)) ∧ List.length x.fst - x_1 = List.length x.fst - x'.fst) ∧ List.length x.fst - (x'.fst + (1 : Nat) + x'.snd) < List.length x.fst - (x_2.fst + (1 : Nat) + x_2.snd))))) ∧ (decide ((↑x_2.fst : Int) + (1 : Int) + (↑x_2.snd : Int) < (↑(List.length x.fst) : Int)) = false → ((-9223372036854775808 : Int) ≤ (↑x_2.fst : Int) + (1 : Int) ∧ (↑x_2.fst : Int) + (1 : Int) ≤ (9223372036854775807 : Int)) ∧ ∃ (x' : Nat), x.fst = x.fst ∧ x.snd.fst = x.snd.fst ∧ (apOut x.fst x.snd.fst x').fst = (apIn x.fst x.snd.fst x_2.fst (apOut x.fst x.snd.fst x_2.fst) x_2.snd).fst ∧ (apOut x.fst x.snd.fst x').snd.fst = (apIn x.fst x.snd.fst x_2.fst (apOut x.fst x.snd.fst x_2.fst) x_2.snd).snd.fst ∧ (↑x' : Int) = (↑x_2.fst : Int) + (1 : Int) ∧ (0 : El ti) = (0 : El ti) ∧ (0 : El ti) = (0 : El ti) ∧ (ofFr (apOut x.fst x.snd.fst x').snd.snd.fst).fst = (ofFr (apIn x.fst x.snd.fst x_2.fst (apOut x.fst x.snd.fst x_2.fst) x_2.snd).snd.snd.fst).fst ∧ (ofFr (apOut x.fst x.snd.fst x').snd.snd.fst).snd.fst = (ofFr (apIn x.fst x.snd.fst x_2.fst (apOut x.fst x.snd.fst x_2.fst) x_2.snd).snd.snd.fst).snd.fst ∧ (ofFr (apOut x.fst x.snd.fst x').snd.snd.fst).snd.snd.fst = (ofFr (apIn x.fst x.snd.fst x_2.fst (apOut x.fst x.snd.fst x_2.fst) x_2.snd).snd.snd.fst).snd.snd.fst ∧ (x' ≤ List.length x.fst ∧ (apOut x.fst x.snd.fst x').snd.snd.snd = (0 : Int)) ∧ List.length x.fst - x' < List.length x.fst - x_1)) ∧ (decide ((↑x_1 : Int) < (↑(List.length x.fst) : Int)) = false → ((apOut x.fst x.snd.fst x_1).fst, (apOut x.fst x.snd.fst x_1).snd.fst, ((0 : Int), (0 : Int), ()), ()) = apartR x.fst x.snd.fst)))))
set_option maxRecDepth 100000 in
theorem w_n24Apart (y : El sp_n24Apart.q) (x : Els sp_n24Apart.ps) : aw c_n24Apart (iv_n24Apart y x) (codeOf Tryz.f96) 0 (retQ c_n24Apart sp_n24Apart (Tryz.f96).results.toList y x) (startT sp_n24Apart x) (startO sp_n24Apart y) 1 = F_n24Apart y x := by kernel_rfl
theorem m_n24Apart (y : El (.un)) (x : Els [.sl tRot, .it .i64]) (h2 : wfE (.un) y) (h3 : wfEs [.sl tRot, .it .i64] x) : F_n24Apart y x := by
  unfold F_n24Apart
  rintro _ rfl
  refine ⟨fun h => ap_1 (neT h), fun h => ⟨fun n1 => ?_, fun n1 => ⟨fun n2 => ?_, fun n2 => ⟨fun n3 => ?_, fun n3 => ?_⟩⟩⟩⟩
  · rintro _ rfl; exact ap_2 (neF h) (.inl (ltT n1))
  · rintro _ rfl; exact ap_2 (neF h) (.inr (.inl (gtT n2)))
  · rintro _ rfl; exact ap_2 (neF h) (.inr (.inr (Int.ofNat_lt.1 (ltT n3))))
  have h := neF h
  have hL : x.1.length ≤ 9223372036854775807 := h3.1.1
  have K : ¬ ((x.2.1 : Int) < 0 ∨ (256 : Int) < x.2.1 ∨ x.1.length < 2) := by
    intro c
    rcases c with c | c | c
    · exact absurd (ltF n1) (Int.not_le.2 c)
    · exact absurd (gtF n2) (Int.not_le.2 c)
    · have := ltF n3; omega
  refine ⟨⟨0, rfl, rfl, rfl, rfl, rfl, rfl, rfl, rfl, rfl, rfl, Nat.zero_le _, rfl⟩, fun i hi => ⟨fun l => ?_, fun l => ?_⟩⟩
  · obtain ⟨i0, i1⟩ := hi
    have l := ltT l
    have il : i < x.1.length := by omega
    refine ⟨⟨by omega, by omega⟩, ⟨(i, 0), rfl, rfl, rfl, rfl, rfl, Int.add_zero _, rfl, rfl, rfl, rfl, rfl, ⟨il, by show i + 1 + 0 ≤ _; omega, i1⟩, rfl⟩, fun j hj => ⟨fun m => ?_, fun m => ?_⟩⟩
    · obtain ⟨p, q⟩ := j
      obtain ⟨⟨j1, j2, j3⟩, j6⟩ := hj
      have j1 : p < x.1.length := j1
      have j2 : p + 1 + q ≤ x.1.length := j2
      have j3 : (apIn x.1 x.2.1 p (apOut x.1 x.2.1 p) q).2.2.2 = 0 := j3
      have j6 : x.1.length - i = x.1.length - p := j6
      have m : (p : Int) + 1 + q < x.1.length := ltT m
      have ek : ((p : Int) + 1 + (q : Int)).toNat = p + 1 + q := by omega
      dsimp only
      simp only [ek, Int.toNat_natCast]
      refine ⟨⟨by omega, by omega⟩, ⟨by omega, m⟩, ?_⟩
      rintro _ rfl
      refine ⟨fun g => ?_, fun g => ⟨fun c => ?_, fun c => ⟨fun d => ?_, fun d => ?_⟩⟩⟩
      · rintro _ rfl
        exact ap_err h K j3 (by omega) (neT g)
      · have c := ltF (ntt c)
        rintro _ rfl
        refine ⟨fun o => ⟨⟨by omega, by omega⟩, (p, q + 1), ?_⟩, fun o => ⟨⟨by omega, by omega⟩, (p, q + 1), ?_⟩⟩
        · have e := ap_less j3 (neF g) (.inr (ltT o))
          and_intros <;> (try dsimp only) <;> first | exact trivial | rfl | exact j1 | exact j6 | (rw [e]; done) | (rw [e]; rfl) | (rw [e]; exact j3) | omega
        · have e := ap_keep j3 (neF g) (fun z => by rcases z with z | z; exact absurd c (Int.not_le.2 z); exact absurd (ltF o) (Int.not_le.2 z))
          and_intros <;> (try dsimp only) <;> first | exact trivial | rfl | exact j1 | exact j6 | (rw [e]; done) | (rw [e]; rfl) | (rw [e]; exact j3) | omega
      · have e := ap_less j3 (neF g) (.inl (ltT d))
        refine ⟨⟨by omega, by omega⟩, (p, q + 1), ?_⟩
        and_intros <;> (try dsimp only) <;> first | exact trivial | rfl | exact j1 | exact j6 | (rw [e]; done) | (rw [e]; rfl) | (rw [e]; exact j3) | omega
      · exact absurd (nff c) (by rw [d]; decide)
    · obtain ⟨p, q⟩ := j
      obtain ⟨⟨j1, j2, j3⟩, j6⟩ := hj
      have j1 : p < x.1.length := j1
      have j2 : p + 1 + q ≤ x.1.length := j2
      have j3 : (apIn x.1 x.2.1 p (apOut x.1 x.2.1 p) q).2.2.2 = 0 := j3
      have j6 : x.1.length - i = x.1.length - p := j6
      have m : (x.1.length : Int) ≤ (p : Int) + 1 + q := ltF m
      have eq : q = x.1.length - (p + 1) := by omega
      have e : apOut x.1 x.2.1 (p + 1) = apIn x.1 x.2.1 p (apOut x.1 x.2.1 p) q := by rw [eq]; rfl
      refine ⟨⟨by omega, by omega⟩, p + 1, ?_⟩
      and_intros <;> (try dsimp only) <;> first | exact trivial | rfl | exact j1 | exact j6 | (rw [e]; done) | (rw [e]; rfl) | (rw [e]; exact j3) | omega
  · obtain ⟨i0, i1⟩ := hi
    have l := ltF l
    have e : i = x.1.length := by omega
    rw [e] at i1 ⊢
    exact ap_end h K i1
set_option maxRecDepth 100000 in
theorem fo_n24Apart : FnOk Tryz.prog 96 sp_n24Apart := fnOk_of (C := c_n24Apart) iv_n24Apart Tryz.func96 rfl (by kernel_rfl) tys_ok (prims_cons (spec_prim fo_n21Rotors) (prims_cons (spec_prim fo_n24none) (prims_cons (spec_prim fo_nNear) (prims_cons (spec_prim fo_nCmp) prims_nil)))) mixed_ (Nat.le_refl _) rfl fun y x h1 h2 h3 h4 =>
  Eq.mpr (w_n24Apart y x) (m_n24Apart y x h2 h3)
end Go.Proofs.YtifonmdcicegdaaGreat

namespace Go.Proofs.YtifonmdcicegdaaGreat
open Go Go.RowKit

set_option maxRecDepth 4000 in
set_option maxHeartbeats 2000000 in
theorem lessC_any (r b : Fr) (x : Int) (A B C D : Option Addr) (c1 c2 c3 c4 g1 g2 : Nat) (w : World) (ha : Rd w A c1 r.num) (hb : Rd w B c2 r.den) (hc : Rd w C c3 b.num) (hd : Rd w D c4 b.den) (wa : r.Wf) (wb : b.Wf)
    (h0 : w.cell? ⟨g1, 0, none⟩ = some (.bool b.neg)) (h1 : w.cell? ⟨g1, 1, none⟩ = some (.slice C b.num.length c3)) (h2 : w.cell? ⟨g1, 2, none⟩ = some (.slice D b.den.length c4)) (h3 : w.cell? ⟨g2, 0, none⟩ = some (.int .i64 x)) :
    Calls Tryz.prog 193 #[.agg #[.bool r.neg, .slice A r.num.length c1, .slice B r.den.length c2], .pointer (some ⟨g1, 0, none⟩), .pointer (some ⟨g2, 0, none⟩)] w fun e w' => e = .returned (.bool (decide (x < 0) || decide ((fcmp r b).1 < 0))) ∧ Ext w w' := by
  have k0 := fun o => ((Ext.refl w).alloc o).cell h0
  have k1 := fun o => ((Ext.refl w).alloc o).cell h1
  have k2 := fun o => ((Ext.refl w).alloc o).cell h2
  have H3 := Lib.hid h3
  have HP := Lib.hid (fun o => compare_fr r b A B C D c1 c2 c3 c4 (w.alloc o) (ha.ext ((Ext.refl w).alloc o)) (hb.ext ((Ext.refl w).alloc o)) (hc.ext ((Ext.refl w).alloc o)) (hd.ext ((Ext.refl w).alloc o)) wa wb)
  clear ha hb hc hd h0 h1 h2 h3
  by_cases hn : x < 0
  · have e1 : decide (x < 0) = true := decide_eq_true hn
    rw [e1]
    go_enter Tryz.func193, Tryz.ntmps193
    go_wp2_with fail
    refine (HP.out _).mono ?_; rintro e w1 ⟨rfl, hx⟩
    have HX := Lib.hid (((Ext.refl w).alloc _).trans hx)
    have hx3 := HX.out.cell H3.out
    clear hx
    go_wp2_with fail
    go_ret
    exact ⟨rfl, HX.out⟩
  · have e1 : decide (x < 0) = false := decide_eq_false hn
    rw [e1]
    go_enter Tryz.func193, Tryz.ntmps193
    go_wp2_with fail
    refine (HP.out _).mono ?_; rintro e w1 ⟨rfl, hx⟩
    have HX := Lib.hid (((Ext.refl w).alloc _).trans hx)
    have hx3 := HX.out.cell H3.out
    clear hx
    go_wp2_with fail
    go_ret
    exact ⟨rfl, HX.out⟩
end Go.Proofs.YtifonmdcicegdaaGreat

namespace Go.Proofs.YtifonmdcicegdaaGreat
open Go Go.RowKit

/-- there is no best yet, or it is less -/
def lessV (r b : Fr) (x : Int) : Bool := decide (x < 0) || decide ((fcmp r b).1 < 0)
def p_less : Prim := fun xs O _ => match xs with
  | [.ag rs, .c (.pv i 0), .c (.pv j 0)] => match O i, O j with
    | some (.var bs), some (.var xc) => match toE O tR rs, toE O tR bs, toE O (.it .i64) xc with
      | some r, some b, some x => some (none, .e ⟨.c (.sc (.bool (lessV (toFr r) (toFr b) x))), [], 0⟩)
      | _, _, _ => none
    | _, _ => none
  | _ => none
theorem pr_less : PrimOk Tryz.prog 193 p_less := by
  refine ⟨callFunc_enter Tryz.func193 (by kernel_rfl) rfl, fun gp Z0 w0 N D c T O O' a w xs vs n cd G S hO hl hv h hfr hc => ?_⟩
  unfold p_less at h
  split at h
  · rename_i rs i j
    split at h
    · rename_i bs xc hi hj
      split at h
      · rename_i r b x hr hb hx
        cases h
        have hO' : ∀ i o, O' i = some o → ObOk c w i o := fun i o h => S.obj i o (hO i o h)
        match vs, hl with
        | ⟨[v0, v1, v2]⟩, _ =>
          have q0 : RA c w v0 (.ag rs) := hv 0 v0 _ rfl rfl
          have q1 : RA c w v1 (.c (.pv i 0)) := hv 1 v1 _ rfl rfl
          have q2 : RA c w v2 (.c (.pv j 0)) := hv 2 v2 _ rfl rfl
          have r0 : RV (Zall c O') w tR r v0 := q0.rv (t := tR) (cs := rs) rfl hO' hr
          obtain ⟨p, rfl, k0⟩ := rv_fr r0
          obtain ⟨e1, g1, us1, et1, m1, m2, m3, m4, m5⟩ := S.obj i _ (hO _ _ hi)
          obtain ⟨e1', g1', n1, n2, rfl⟩ := q1
          rw [m1] at n1; cases n1
          rw [m2] at n2; cases n2
          obtain ⟨e2, g2, us2, et2, l1, l2, l3, l4, l5⟩ := S.obj j _ (hO _ _ hj)
          obtain ⟨e2', g2', o1, o2, rfl⟩ := q2
          rw [l1] at o1; cases o1
          rw [l2] at o2; cases o2
          have r1 : RV (Zall c O') w tR b (.agg us1) := by
            unfold RV
            rw [if_pos (show tR.agg = true from rfl)]
            exact ⟨us1, rfl, toE_sound hO' tR bs us1.toList b m5 hb⟩
          obtain ⟨q, ev, k1⟩ := rv_fr r1
          cases ev
          have r2 := toE_sound hO' (.it .i64) xc us2.toList x l5 hx
          rw [RT] at r2
          have ev2 : us2 = #[.int .i64 x] := by
            apply Array.ext'
            exact r2.1
          subst ev2
          refine (lessC_any (toFr r) (toFr b) x p.A p.B q.A q.B p.c p.d q.c q.d g1 g2 w k0.num k0.den k1.num k1.den k0.wf k1.wf (by rw [cell_of m4]; rfl) (by rw [cell_of m4]; rfl) (by rw [cell_of m4]; rfl) (by rw [cell_of l4]; rfl)).mono ?_
          rintro e w' ⟨rfl, hx⟩
          obtain ⟨S1, _⟩ := S.over (ids := []) (w' := w') (fun i hi => by cases hi) hx.os hx.tape hx.output (Ext.size hx) (fun g hg _ => (Ext.by_ hx none).block g hg (by simp))
          exact ⟨_, c, rfl, fun d hd => (S1.value hd (v := .bool (lessV (toFr r) (toFr b) x)) (av := .c (.sc (.bool (lessV (toFr r) (toFr b) x)))) ⟨rfl, trivial⟩).dom_mono (fun i h => .inl h)⟩
      · cases h
    · cases h
  · cases h
end Go.Proofs.YtifonmdcicegdaaGreat

namespace Go.Proofs.YtifonmdcicegdaaGreat
open Go Go.RowKit

noncomputable def sp_iApart : Spec := { q := .un, ps := [.sl tRot, .it .i64], rs := [.it .i64, .it .i64, tFault], fresh := true, pre := fun _ _ => none, post := fun _ x => ((), apartR x.1 x.2.1) }
noncomputable def iv_iApart (y : El sp_iApart.q) (x : Els sp_iApart.ps) : Nat → Option Inv := fun k => if k = 0 then some { X := Nat, tm := fun i => [(0, .c (.sl tRot x.1)), (1, .c (.sc (.int .i64 x.2.1))), (6, .c (.pv 1 0)), (8, .c (.pv 2 0)), (9, .c (.pv 3 0)), (10, .c (.sc (.int .i64 (apOut x.1 x.2.1 i).2.1))), (11, .c (.fv 193 [2, 3])), (36, .c (.sc (.int .i64 x.1.length))), (37, .c (.sc (.int .i64 i)))], ob := fun i => [(1, .var (cel tFault (0, 0, ()))), (2, .var [.sc (.bool (apOut x.1 x.2.1 i).2.2.1.neg), .ow 4, .ow 5]), (3, .var [.sc (.int .i64 (apOut x.1 x.2.1 i).1)]), (4, .ty 144 (.it .u32) (apOut x.1 x.2.1 i).2.2.1.num 0), (5, .ty 144 (.it .u32) (apOut x.1 x.2.1 i).2.2.1.den 0)], n := 6, I := fun i => i ≤ x.1.length ∧ (apOut x.1 x.2.1 i).2.2.2 = 0, μ := fun i => x.1.length - i } else if k = 1 then some { X := Nat × Nat, tm := fun i => [(0, .c (.sl tRot x.1)), (1, .c (.sc (.int .i64 x.2.1))), (6, .c (.pv 1 0)), (8, .c (.pv 2 0)), (9, .c (.pv 3 0)), (10, .c (.sc (.int .i64 (apIn x.1 x.2.1 i.1 (apOut x.1 x.2.1 i.1) i.2).2.1))), (11, .c (.fv 193 [2, 3])), (36, .c (.sc (.int .i64 x.1.length))), (37, .c (.sc (.int .i64 i.1))), (12, .c (.sc (.int .i64 i.1))), (13, .c (.sc (.int .i64 (i.1 + 1 + i.2))))], ob := fun i => [(1, .var (cel tFault (0, 0, ()))), (2, .var [.sc (.bool (apIn x.1 x.2.1 i.1 (apOut x.1 x.2.1 i.1) i.2).2.2.1.neg), .ow 4, .ow 5]), (3, .var [.sc (.int .i64 (apIn x.1 x.2.1 i.1 (apOut x.1 x.2.1 i.1) i.2).1)]), (4, .ty 144 (.it .u32) (apIn x.1 x.2.1 i.1 (apOut x.1 x.2.1 i.1) i.2).2.2.1.num 0), (5, .ty 144 (.it .u32) (apIn x.1 x.2.1 i.1 (apOut x.1 x.2.1 i.1) i.2).2.2.1.den 0)], n := 6, I := fun i => i.1 < x.1.length ∧ i.1 + 1 + i.2 ≤ x.1.length ∧ (apIn x.1 x.2.1 i.1 (apOut x.1 x.2.1 i.1) i.2).2.2.2 = 0, μ := fun i => x.1.length - (i.1 + 1 + i.2), lk := some fun m i => m = x.1.length - i.1 } else none
noncomputable abbrev c_iApart : Cfg := cfgS (Tryz.f95).ntmps false [(119, sp_mRotors.prim), (192, sp_ifault.prim), (93, sp_iNear.prim), (193, p_less)]
def F_iApart (y : El sp_iApart.q) (x : Els sp_iApart.ps) : Prop :=
  ∀ (r : El Ty.un × Els [tFault]), r = ((), rotsR x.fst, ()) → ((r.snd.fst.fst != (0 : Int)) = true → ((0 : Int), (0 : Int), r.snd) = apartR x.fst x.snd.fst) ∧ ((r.snd.fst.fst != (0 : Int)) = false → (decide (x.snd.fst < (0 : Int)) = true → ∀ (r : El Ty.un × Els [tFault]), r = ((), ((2 : Int), (-1 : Int), ()), ()) → ((0 : Int), (0 : Int), r.snd) = apartR x.fst x.snd.fst) ∧ (decide (x.snd.fst < (0 : Int)) = false → (decide (x.snd.fst > (256 : Int)) = true → ∀ (r : El Ty.un × Els [tFault]), r = ((), ((2 : Int), (-1 : Int), ()), ()) → ((0 : Int), (0 : Int), r.snd) = apartR x.fst x.snd.fst) ∧ (decide (x.snd.fst > (256 : Int)) = false → (decide ((↑(List.length x.fst) : Int) < (2 : Int)) = true → ∀ (r : El Ty.un × Els [tFault]), r = ((), ((2 : Int), (-1 : Int), ()), ()) → ((0 : Int), (0 : Int), r.snd) = apartR x.fst x.snd.fst) ∧ (decide ((↑(List.length x.fst) : Int) < (2 : Int)) = false → (∃ (x_1 : Nat), x.fst = x.fst ∧ x.snd.fst = x.snd.fst ∧ (apOut x.fst x.snd.fst x_1).snd.fst = (-1 : Int) ∧ (↑(List.length x.fst) : Int) = (↑(List.length x.fst) : Int) ∧ (↑x_1 : Int) = (0 : Int) ∧ (0 : El ti) = (0 : Int) ∧ (0 : El ti) = (0 : Int) ∧ (apOut x.fst x.snd.fst x_1).snd.snd.fst.neg = false ∧ (apOut x.fst x.snd.fst x_1).fst = (-1 : Int) ∧ (apOut x.fst x.snd.fst x_1).snd.snd.fst.num = [] ∧ (apOut x.fst x.snd.fst x_1).snd.snd.fst.den = [] ∧ x_1 ≤ List.length x.fst ∧ (apOut x.fst x.snd.fst x_1).snd.snd.snd = (0 : Int)) ∧ ∀ (x_1 : Nat), x_1 ≤ List.length x.fst ∧ (apOut x.fst x.snd.fst x_1).snd.snd.snd = (0 : Int) → (decide ((↑x_1 : Int) < (↑(List.length x.fst) : Int)) = true → ((-9223372036854775808 : Int) ≤ (↑x_1 : Int) + (1 : Int) ∧ (↑x_1 : Int) + (1 : Int) ≤ (9223372036854775807 : Int)) ∧ (∃ (x_2 : Nat × Nat), x.fst = x.fst ∧ x.snd.fst = x.snd.fst ∧ (apIn x.fst x.snd.fst x_2.fst (apOut x.fst x.snd.fst x_2.fst) x_2.snd).snd.fst = (apOut x.fst x.snd.fst x_1).snd.fst ∧ (↑(List.length x.fst) : Int) = (↑(List.length x.fst) : Int) ∧ (↑x_2.fst : Int) = (↑x_1 : Int) ∧ (↑x_2.fst : Int) = (↑x_1 : Int) ∧ (↑x_2.fst : Int) + (1 : Int) + (↑x_2.snd : Int) = (↑x_1 : Int) + (1 : Int) ∧ (0 : El ti) = (0 : El ti) ∧ (0 : El ti) = (0 : El ti) ∧ (apIn x.fst x.snd.fst x_2.fst (apOut x.fst x.snd.fst x_2.fst) x_2.snd).snd.snd.fst.neg = (apOut x.fst x.snd.fst x_1).snd.snd.fst.neg ∧ (apIn x.fst x.snd.fst x_2.fst (apOut x.fst x.snd.fst x_2.fst) x_2.snd).fst = (apOut x.fst x.snd.fst x_1).fst ∧ (apIn x.fst x.snd.fst x_2.fst (apOut x.fst x.snd.fst x_2.fst) x_2.snd).snd.snd.fst.num = (apOut x.fst x.snd.fst x_1).snd.snd.fst.num ∧ (apIn x.fst x.snd.fst x_2.fst (apOut x.fst x.snd.fst x_2.fst) x_2.snd).snd.snd.fst.den = (apOut x.fst x.snd.fst x_1).snd.snd.fst.den ∧ (x_2.fst < List.length x.fst ∧ x_2.fst + (1 : Nat) + x_2.snd ≤ List.length x.fst ∧ (apIn x.fst x.snd.fst x_2.fst (apOut x.fst x.snd.fst x_2.fst) x_2.snd).snd.snd.snd = (0 : Int)) ∧ List.length x.fst - x_1 = List.length x.fst - x_2.fst) ∧ ∀ (x_2 : Nat × Nat), (x_2.fst < List.length x.fst ∧ x_2.fst + (1 : Nat) + x_2.snd ≤ List.length x.fst ∧ (apIn x.fst x.snd.fst x_2.fst (apOut x.fst x.snd.fst x_2.fst) x_2.snd).snd.snd.snd = (0 : Int)) ∧ List.length x.fst - x_1 = List.length x.fst - x_2.fst → (decide ((↑x_2.fst : Int) + (1 : Int) + (↑x_2.snd : Int) < (↑(List.length x.fst) : Int)) = true → ((0 : Int) ≤ (↑x_2.fst : Int) ∧ (↑x_2.fst : Int) < (↑(List.length x.fst) : Int)) ∧ ((0 : Int) ≤ (↑x_2.fst : Int) + (1 : Int) + (↑x_2.snd : Int) ∧ (↑x_2.fst : Int) + (1 : Int) + (↑x_2.snd : Int) < (↑(List.length x.fst) : Int)) ∧ ∀ (r : El Ty.un × Els [tR, Ty.it IntKind.i64]), r = pR (nearR (List.getD x.fst (↑x_2.fst : Int).toNat (dfl tRot)) (List.getD x.fst ((↑x_2.fst : Int) + (1 : Int) + (↑x_2.snd : Int)).toNat (dfl tRot)) x.snd.fst) → ((r.snd.snd.fst != (0 : Int)) = true → ∀ (r_1 : El Ty.un × Els [tFault]), r_1 = ((), (r.snd.snd.fst, (-1 : Int), ()), ()) → ((0 : Int), (0 : Int), r_1.snd) = apartR x.fst x.snd.fst) ∧ ((r.snd.snd.fst != (0 : Int)) = false → (lessV (toFr r.snd.fst) (toFr ((apIn x.fst x.snd.fst x_2.fst (apOut x.fst x.snd.fst x_2.fst) x_2.snd).snd.snd.fst.neg, (apIn x.fst x.snd.fst x_2.fst (apOut x.fst x.snd.fst x_2.fst) x_2.snd).snd.snd.fst.num, (apIn x.fst x.snd.fst x_2.fst (apOut x.fst x.snd.fst x_2.fst) x_2.snd).snd.snd.fst.den, ())) (apIn x.fst x.snd.fst x_2.fst (apOut x.fst x.snd.fst x_2.fst) x_2.snd).fst = true → ((-9223372036854775808 : Int) ≤ (↑x_2.fst : Int) + (1 : Int) + (↑x_2.snd : Int) + (1 : Int) ∧ (↑x_2.fst : Int) + (1 : Int) + (↑x_2.snd : Int) + (1 : Int) ≤ (9223372036854775807 : Int)) ∧ ∃ (x' : Nat × Nat), x.fst = x.fst ∧ x.snd.fst = x.snd.fst ∧ (apIn x.fst x.snd.fst x'.fst (apOut x.fst x.snd.fst x'.fst) x'.snd).snd.fst = (↑x_2.fst : Int) + (1 : Int) + (↑x_2.snd : Int) ∧ (↑(List.length x.fst) : Int) = (↑(List.length x.fst) : Int) ∧ (↑x'.fst : Int) = (↑x_2.fst : Int) ∧ (↑x'.fst : Int) = (↑x_2.fst : Int) ∧ (↑x'.fst : Int) + (1 : Int) + (↑x'.snd : Int) = (↑x_2.fst : Int) + (1 : Int) + (↑x_2.snd : Int) + (1 : Int) ∧ (0 : El ti) = (0 : El ti) ∧ (0 : El ti) = (0 : El ti) ∧ (apIn x.fst x.snd.fst x'.fst (apOut x.fst x.snd.fst x'.fst) x'.snd).snd.snd.fst.neg = r.snd.fst.fst ∧ (apIn x.fst x.snd.fst x'.fst (apOut x.fst x.snd.fst x'.fst) x'.snd).fst = (↑x_2.fst : Int) ∧ (apIn x.fst x.snd.fst x'.fst (apOut x.fst x.snd.fst x'.fst) x'.snd).snd.snd.fst.num = r.snd.fst.snd.fst ∧ (apIn x.fst x.snd.fst x'.fst (apOut x.fst x.snd.fst x'.fst) x'.snd).snd.snd.fst.den = r.snd.fst.snd.snd.fst ∧ ((x'.fst < List.length x.fst ∧ x'.fst + (1 : Nat) + x'.snd ≤ List.length x.fst ∧ (apIn x.fst x.snd.fst x'.fst (apOut x.fst x.snd.fst x'.fst) x'.snd).snd.snd.snd = (0 : Int)) ∧ List.length x.fst - x_1 = List.length x.fst - x'.fst) ∧ List.length x.fst - (x'.fst + (1 : Nat) + x'.snd) < List.length x.fst - (x_2.fst + (1 : Nat) + x_2.snd)) ∧ (lessV (toFr r.snd.fst) (toFr ((apIn x.fst x.snd.fst x_2.fst (apOut x.fst x.snd.fst x_2.fst) x_2.snd).snd.snd.fst.neg, (apIn x.fst x.snd.fst x_2.fst (apOut x.fst x.snd.fst x_2.fst) x_2.snd).snd.snd.fst.num, (apIn x.fst x.snd.fst x_2.fst (apOut x.fst x.snd.fst x_2.fst) x_2.snd).snd.snd.fst.den, ())) (apIn x.fst x.snd.fst x_2.fst (apOut x.fst x.snd.fst x_2.fst) x_2.snd).fst = false → ((-9223372036854775808 : Int) ≤ (↑x_2.fst : Int) + (1 : Int) + (↑x_2.snd : Int) + (1 : Int) ∧ (↑x_2.fst : Int) + (1 : Int) + (↑x_2.snd : Int) + (1 : Int) ≤ (9223372036854775807 : Int)) ∧ ∃ (x' : Nat × Nat), x.fst = x.fst ∧ x.snd.fst = x.snd.fst ∧ (apIn x.fst x.snd.fst x'.fst (apOut x.fst x.snd.fst x'.fst) x'.snd).snd.fst = (apIn x.fst x.snd.fst x_2.fst (apOut x.fst x.snd.fst x_2.fst) x_2.snd).snd.fst ∧ (↑(List.length x.fst) : Int) = (↑(List.length x.fst) : Int) ∧ (↑x'.fst : Int) = (↑x_2.fst : Int) ∧ (↑x'.fst : Int) = (↑x_2.fst : Int) ∧ (↑x'.fst : Int) + (1 : Int) + (↑x'.snd : Int) = (↑x_2.fst : Int) + (1 : Int) + (↑x_2.snd : Int) + (1 : Int) ∧ (0 : El ti) = (0 : El ti) ∧ (0 : El ti) = (0 : El ti) ∧ (apIn x.fst x.snd.fst x'.fst (apOut x.fst x.snd.fst x'.fst) x'.snd).snd.snd.fst.neg = (apIn x.fst x.snd.fst x_2.fst (apOut x.fst x.snd.fst x_2.fst) x_2.snd).snd.snd.fst.neg ∧ (apIn x.fst x.snd.fst x'.fst (apOut x.fst x.snd.fst x'.fst) x'.snd).fst = (apIn x.fst x.snd.fst x_2.fst (apOut x.fst x.snd.fst x_2.fst) x_2.snd).fst ∧ (apIn x.fst x.snd.fst x'.fst (apOut x.fst x.snd.fst x'.fst) x'.snd).snd.snd.fst.num = (apIn x.fst x.snd.fst x_2.fst (apOut x.fst x.snd.fst x_2.fst) x_2.snd).snd.snd.fst.num ∧ (apIn x.fst x.snd.fst x'.fst (apOut x.fst x.snd.fst x'.fst) x'.snd).snd.snd.fst.den = (apIn x.fst x.snd.fst x_2.fst (apOut x.fst x.snd.fst x_2.fst) x_2.snd).snd.snd.fst.den ∧ ((x'.fst < List.length x.fst ∧ x'.fst + (1 : Nat) + x'.snd ≤ List.length x.fst ∧ (apIn x.fst x.snd.fst x'.fst (apOut x.fst x.snd.fst x'.fst) x'.snd).snd.snd.snd = (0 : Int)) ∧ List.length x.fst - x_1 = List.length x.fst - x'.fst) ∧ List.length x.fst - (x'.fst + (1 : Nat) + x'.snd) < List.length x.fst - (x_2.fst + (1 : Nat) + x_2.snd)))) ∧ (decide ((↑x_2.fst : Int) + (1 : Int) + (↑x_2.snd : Int) < (↑(List.length x.fst) : Int)) = false → ((-9223372036854775808 : Int) ≤ (↑x_2.fst : Int) + (1 : Int) ∧ (↑x_2.fst : Int) + (1 : Int) ≤ (9223372036854775807 : Int)) ∧ ∃ (x' : Nat), x.fst = x.fst ∧ x.snd.fst = x.snd.fst ∧ (apOut x.fst x.snd.fst x').snd.fst = (apIn x.fst x.snd.fst x_2.fst (apOut x.fst x.snd.fst x_2.fst) x_2.snd).snd.fst ∧ (↑(List.length x.fst) : Int) = (↑(List.length x.fst) : Int) ∧ (↑x' : Int) = (↑x_2.fst : Int) + (1 : Int) ∧ (0 : El ti) = (0 : El ti) ∧ (0 : El ti) = (0 : El ti) ∧ (apOut x.fst x.snd.fst x').snd.snd.fst.neg = (apIn x.fst x.snd.fst x_2.fst (apOut x.fst x.snd.fst x_2.fst) x_2.snd).snd.snd.fst.neg ∧ (apOut x.fst x.snd.fst x').fst = (apIn x.fst x.snd.fst x_2.fst (apOut x.fst x.snd.fst x_2.fst) x_2.snd).fst ∧ (apOut x.fst x.snd.fst x').snd.snd.fst.num = (apIn x.fst x.snd.fst x_2.fst (apOut x.fst x.snd.fst x_2.fst) x_2.snd).snd.snd.fst.num ∧ (apOut x.fst x.snd.fst x').snd.snd.fst.den = (apIn x.fst x.snd.fst x_2.fst (apOut x.fst x.snd.fst x_2.fst) x_2.snd).snd.snd.fst.den ∧ (x' ≤ List.length x.fst ∧ (apOut x.fst x.snd.fst x').snd.snd.snd = (0 : Int)) ∧ List.length x.fst - x' < List.length x.fst - x_1)) ∧ (decide ((↑x_1 : Int) < (↑(List.length x.fst) : Int)) = false → ((apOut x.fst x.snd.fst x_1).fst, (apOut x.fst x.snd.fst x_1).snd.fst, ((0 : Int), (0 : Int), ()), ()) = apartR x.fst x.snd.fst)))))
set_option maxRecDepth 100000 in
theorem w_iApart (y : El sp_iApart.q) (x : Els sp_iApart.ps) : aw c_iApart (iv_iApart y x) (codeOf Tryz.f95) 0 (retQ c_iApart sp_iApart (Tryz.f95).results.toList y x) (startT sp_iApart x) (startO sp_iApart y) 1 = F_iApart y x := by kernel_rfl
theorem m_iApart (y : El (.un)) (x : Els [.sl tRot, .it .i64]) (h2 : wfE (.un) y) (h3 : wfEs [.sl tRot, .it .i64] x) : F_iApart y x := by
  unfold F_iApart
  rintro _ rfl
  refine ⟨fun h => ap_1 (neT h), fun h => ⟨fun n1 => ?_, fun n1 => ⟨fun n2 => ?_, fun n2 => ⟨fun n3 => ?_, fun n3 => ?_⟩⟩⟩⟩
  · rintro _ rfl; exact ap_2 (neF h) (.inl (ltT n1))
  · rintro _ rfl; exact ap_2 (neF h) (.inr (.inl (gtT n2)))
  · rintro _ rfl; exact ap_2 (neF h) (.inr (.inr (Int.ofNat_lt.1 (ltT n3))))
  have h := neF h
  have hL : x.1.length ≤ 9223372036854775807 := h3.1.1
  have K : ¬ ((x.2.1 : Int) < 0 ∨ (256 : Int) < x.2.1 ∨ x.1.length < 2) := by
    intro c
    rcases c with c | c | c
    · exact absurd (ltF n1) (Int.not_le.2 c)
    · exact absurd (gtF n2) (Int.not_le.2 c)
    · have := ltF n3; omega
  refine ⟨⟨0, rfl, rfl, rfl, rfl, rfl, rfl, rfl, rfl, rfl, rfl, rfl, Nat.zero_le _, rfl⟩, fun i hi => ⟨fun l => ?_, fun l => ?_⟩⟩
  · obtain ⟨i0, i1⟩ := hi
    have l := ltT l
    have il : i < x.1.length := by omega
    refine ⟨⟨by omega, by omega⟩, ⟨(i, 0), rfl, rfl, rfl, rfl, rfl, rfl, Int.add_zero _, rfl, rfl, rfl, rfl, rfl, rfl, ⟨il, by show i + 1 + 0 ≤ _; omega, i1⟩, rfl⟩, fun j hj => ⟨fun m => ?_, fun m => ?_⟩⟩
    · obtain ⟨p, q⟩ := j
      obtain ⟨⟨j1, j2, j3⟩, j6⟩ := hj
      have j1 : p < x.1.length := j1
      have j2 : p + 1 + q ≤ x.1.length := j2
      have j3 : (apIn x.1 x.2.1 p (apOut x.1 x.2.1 p) q).2.2.2 = 0 := j3
      have j6 : x.1.length - i = x.1.length - p := j6
      have m : (p : Int) + 1 + q < x.1.length := ltT m
      have ek : ((p : Int) + 1 + (q : Int)).toNat = p + 1 + q := by omega
      dsimp only
      simp only [ek, Int.toNat_natCast]
      refine ⟨⟨by omega, by omega⟩, ⟨by omega, m⟩, ?_⟩
      rintro _ rfl
      refine ⟨fun g => ?_, fun g => ⟨fun c => ?_, fun c => ?_⟩⟩
      · rintro _ rfl
        exact ap_err h K j3 (by omega) (neT g)
      · have c' : (apIn x.1 x.2.1 p (apOut x.1 x.2.1 p) q).1 < 0 ∨ (fcmp (nearR (x.1.getD p (dfl tRot)) (x.1.getD (p + 1 + q) (dfl tRot)) x.2.1).1 (apIn x.1 x.2.1 p (apOut x.1 x.2.1 p) q).2.2.1).1 < 0 := by
          have c := c
          unfold lessV at c
          rw [Bool.or_eq_true] at c
          exact c.imp of_decide_eq_true of_decide_eq_true
        have e := ap_less j3 (neF g) c'
        refine ⟨⟨by omega, by omega⟩, (p, q + 1), ?_⟩
        and_intros <;> (try dsimp only) <;> first | exact trivial | rfl | exact j1 | exact j6 | (rw [e]; done) | (rw [e]; rfl) | (rw [e]; exact j3) | omega
      · have c' : ¬ ((apIn x.1 x.2.1 p (apOut x.1 x.2.1 p) q).1 < 0 ∨ (fcmp (nearR (x.1.getD p (dfl tRot)) (x.1.getD (p + 1 + q) (dfl tRot)) x.2.1).1 (apIn x.1 x.2.1 p (apOut x.1 x.2.1 p) q).2.2.1).1 < 0) := by
          have c := Bool.or_eq_false_iff.1 c
          intro z
          rcases z with z | z
          · exact of_decide_eq_false c.1 z
          · exact of_decide_eq_false c.2 z
        have e := ap_keep j3 (neF g) c'
        refine ⟨⟨by omega, by omega⟩, (p, q + 1), ?_⟩
        and_intros <;> (try dsimp only) <;> first | exact trivial | rfl | exact j1 | exact j6 | (rw [e]; done) | (rw [e]; rfl) | (rw [e]; exact j3) | omega
    · obtain ⟨p, q⟩ := j
      obtain ⟨⟨j1, j2, j3⟩, j6⟩ := hj
      have j1 : p < x.1.length := j1
      have j2 : p + 1 + q ≤ x.1.length := j2
      have j3 : (apIn x.1 x.2.1 p (apOut x.1 x.2.1 p) q).2.2.2 = 0 := j3
      have j6 : x.1.length - i = x.1.length - p := j6
      have m : (x.1.length : Int) ≤ (p : Int) + 1 + q := ltF m
      have eq : q = x.1.length - (p + 1) := by omega
      have e : apOut x.1 x.2.1 (p + 1) = apIn x.1 x.2.1 p (apOut x.1 x.2.1 p) q := by rw [eq]; rfl
      refine ⟨⟨by omega, by omega⟩, p + 1, ?_⟩
      and_intros <;> (try dsimp only) <;> first | exact trivial | rfl | exact j1 | exact j6 | (rw [e]; done) | (rw [e]; rfl) | (rw [e]; exact j3) | omega
  · obtain ⟨i0, i1⟩ := hi
    have l := ltF l
    have e : i = x.1.length := by omega
    rw [e] at i1 ⊢
    exact ap_end h K i1
set_option maxRecDepth 100000 in
theorem fo_iApart : FnOk Tryz.prog 95 sp_iApart := fnOk_of (C := c_iApart) iv_iApart Tryz.func95 rfl (by kernel_rfl) tys_ok (prims_cons (spec_prim fo_mRotors) (prims_cons (spec_prim fo_ifault) (prims_cons (spec_prim fo_iNear) (prims_cons pr_less prims_nil)))) mixed_ (Nat.le_refl _) rfl fun y x h1 h2 h3 h4 =>
  Eq.mpr (w_iApart y x) (m_iApart y x h2 h3)
end Go.Proofs.YtifonmdcicegdaaGreat

