/- Texts of this claim, joined: F2 F2a B24 P11 P12 P14 P15. -/
import Derived.Test.YtemlaompalbgiaaQt
set_option linter.unusedVariables false
set_option linter.unusedSimpArgs false
set_option maxRecDepth 100000
namespace Go.Proofs.Ytemlaompalbgiaa
open Go Go.RowKit
theorem fchk_len {f : Fr} (h : fchk f = 0) : f.num.length ≤ 2048 ∧ f.den.length ≤ 2048 := by
  unfold fchk at h
  split at h
  · cases h
  · split at h
    · cases h
    · constructor <;> omega
theorem fchk_M {f : Fr} (h : fchk f = 0) : FewM f := ⟨Nat.le_trans (fchk_len h).1 (by decide), Nat.le_trans (fchk_len h).2 (by decide)⟩
theorem gchk_M {a : Ga} (h : gchk a = 0) : FewMG a := ⟨fchk_M (gchk_zero h).1, fchk_M (gchk_zero h).2⟩
theorem pcF_all {eT : Nat → Int} {dup : Nat → Bool} : ∀ (d i : Nat), (pcF eT dup i d).1 = 0 → ∀ k, i ≤ k → k < i + d → eT k = 0 ∧ dup k = false
  | 0, _, _, k, h1, h2 => absurd h2 (by omega)
  | d + 1, i, h, k, h1, h2 => by
    by_cases e : eT i = 0
    · cases f : dup i with
      | true => rw [pcF_dup e f] at h; cases h
      | false =>
        rw [pcF_next e f] at h
        rcases Nat.lt_or_ge i k with g | g
        · exact pcF_all d (i + 1) h k (by omega) (by omega)
        · obtain rfl : i = k := by omega
          exact ⟨e, f⟩
    · rw [pcF_bad e] at h
      exact absurd h e
theorem port_all {p : El tPort} (h : (portI p).1 = 0) : nameS p.1 = true ∧ fchk (toFr p.2.1) = 0 ∧ p.2.2.1.length ≤ 24 ∧ ∀ k, k < p.2.2.1.length → tchk (tdAt p.2.2.1 k) = 0 := by
  unfold portI pcS at h
  split at h
  · cases h
  · rename_i n
    split at h
    · rename_i c
      exact absurd h c
    · rename_i e
      split at h
      · cases h
      · rename_i l
        refine ⟨?_, Decidable.not_not.1 e, by omega, fun k hk => (pcF_all _ _ h k (Nat.zero_le _) (by omega)).1⟩
        cases hn : nameS p.1 with
        | true => rfl
        | false => exact absurd hn n
theorem tchk_all {c : El tTide} (h : tchk c = 0) : rotC c.2.1 = 0 ∧ gchk (toGa c.2.2.1) = 0 := by
  unfold tchk at h
  split at h
  · cases h
  · split at h
    · rename_i k
      exact absurd h k
    · rename_i k
      exact ⟨Decidable.not_not.1 k, h⟩
theorem take_get {α : Type} (l : List α) (d : α) {i : Nat} (h : i < l.length) : l.take i ++ [l.getD i d] = l.take (i + 1) := by
  rw [List.take_add_one, List.getD_eq_getElem?_getD, List.getElem?_eq_getElem h]
  rfl
noncomputable def sp_pcopied : Spec := { q := .un, ps := [tPort], rs := [tPort], fresh := true, pre := fun _ x => some ((portI x.1).1 = 0), post := fun _ x => ((), (x.1, ())) }
noncomputable def iv_pcopied (y : El sp_pcopied.q) (x : Els sp_pcopied.ps) : Nat → Option Inv := fun k => if k = 0 then some { X := Nat, tm := fun i => [(2, .c (.pv 1 0)), (4, .c (.pv 2 0)), (24, .c (.sl tTide x.1.2.2.1)), (25, .c (.sc (.int .i64 x.1.2.2.1.length))), (26, .c (.sc (.int .i64 i)))], ob := fun i => [(1, .var (zer tPort)), (2, .var [.sc (.string x.1.1), .sc (.bool x.1.2.1.1), .ow 3, .ow 4, .ow 5]), (3, .ty 95 (.it .u32) x.1.2.1.2.1 0), (4, .ty 95 (.it .u32) x.1.2.1.2.2.1 0), (5, .dp 50 tTide (x.1.2.2.1.take i) 0)], n := 6, I := fun i => i ≤ x.1.2.2.1.length, μ := fun i => x.1.2.2.1.length - i } else none
noncomputable abbrev c_pcopied : Cfg := { cfgS (Try.f29).ntmps false [(57, sp_clone.prim), (47, sp_tCopy.prim)] with dp := [(50, tTide)] }
def F_pcopied (y : El sp_pcopied.q) (x : Els sp_pcopied.ps) : Prop :=
  List.length x.1.2.1.2.1 ≤ (35184372088832 : Nat) ∧ ∀ (r : Ro [tW32]), r = ((), x.1.2.1.2.1, ()) → List.length x.1.2.1.2.2.1 ≤ (35184372088832 : Nat) ∧ ∀ (r_1 : Ro [tW32]), r_1 = ((), x.1.2.1.2.2) → (∃ (x_1 : Nat), x.1.2.2.1 = x.1.2.2.1 ∧ (x.1.2.2.1.length : Int) = (x.1.2.2.1.length : Int) ∧ (↑x_1 : Int) = (0 : Int) ∧ ByteArray.empty = ByteArray.empty ∧ x.1.1 = x.1.1 ∧ x.1.2.1.1 = x.1.2.1.1 ∧ x.1.2.1.2.1 = r.2.1 ∧ x.1.2.1.2.2.1 = r_1.2.1 ∧ List.take x_1 x.1.2.2.1 = [] ∧ x_1.le (List.length x.1.2.2.1)) ∧ ∀ (x_1 : Nat), x_1.le (List.length x.1.2.2.1) → (decide ((↑x_1 : Int) < (x.1.2.2.1.length : Int)) = true → ((0 : Int) ≤ (↑x_1 : Int) ∧ (↑x_1 : Int) < (x.1.2.2.1.length : Int)) ∧ (((toGa (List.getD x.1.2.2.1 (↑x_1 : Int).toNat (dfl tTide)).2.2.1).re.num.length ≤ (1000000 : Nat) ∧ (toGa (List.getD x.1.2.2.1 (↑x_1 : Int).toNat (dfl tTide)).2.2.1).re.den.length ≤ (1000000 : Nat)) ∧ (toGa (List.getD x.1.2.2.1 (↑x_1 : Int).toNat (dfl tTide)).2.2.1).im.num.length ≤ (1000000 : Nat) ∧ (toGa (List.getD x.1.2.2.1 (↑x_1 : Int).toNat (dfl tTide)).2.2.1).im.den.length ≤ (1000000 : Nat)) ∧ ∀ (r : Ro [tTide]), r = ((), List.getD x.1.2.2.1 (↑x_1 : Int).toNat (dfl tTide), ()) → (List.take x_1 x.1.2.2.1).length + [r.2.1].length ≤ (1073741824 : Nat) ∧ ((-9223372036854775808 : Int) ≤ (↑x_1 : Int) + (1 : Int) ∧ (↑x_1 : Int) + (1 : Int) ≤ (9223372036854775807 : Int)) ∧ ∃ (x' : Nat), x.1.2.2.1 = x.1.2.2.1 ∧ (x.1.2.2.1.length : Int) = (x.1.2.2.1.length : Int) ∧ (↑x' : Int) = (↑x_1 : Int) + (1 : Int) ∧ ByteArray.empty = ByteArray.empty ∧ x.1.1 = x.1.1 ∧ x.1.2.1.1 = x.1.2.1.1 ∧ x.1.2.1.2.1 = x.1.2.1.2.1 ∧ x.1.2.1.2.2.1 = x.1.2.1.2.2.1 ∧ List.take x' x.1.2.2.1 = List.take x_1 x.1.2.2.1 ++ [r.2.1] ∧ x'.le (List.length x.1.2.2.1) ∧ List.length x.1.2.2.1 - x' < List.length x.1.2.2.1 - x_1) ∧ (decide ((↑x_1 : Int) < (x.1.2.2.1.length : Int)) = false → ((x.1.1, x.1.2.1, List.take x_1 x.1.2.2.1, ()), ()) = x)
theorem w_pcopied (y : El sp_pcopied.q) (x : Els sp_pcopied.ps) : aW c_pcopied (iv_pcopied y x) Try.f29 sp_pcopied y x = F_pcopied y x := by kernel_rfl
theorem m_pcopied (y : El (.un)) (x : Els [tPort]) (h2 : wfE (.un) y) (h3 : wfEs [tPort] x) (h4 : (portI x.1).1 = 0) : F_pcopied y x := by
  unfold F_pcopied
  obtain ⟨_, hm, hl, ht⟩ := port_all h4
  obtain ⟨m1, m2⟩ := fchk_len hm
  refine ⟨Nat.le_trans m1 (by decide), ?_⟩
  rintro _ rfl
  refine ⟨Nat.le_trans m2 (by decide), ?_⟩
  rintro _ rfl
  refine ⟨⟨0, rfl, rfl, rfl, rfl, rfl, rfl, rfl, rfl, rfl, Nat.zero_le _⟩, fun i hi => ⟨fun l => ?_, fun l => ?_⟩⟩
  · have l := ltT l
    have il : i < x.1.2.2.1.length := Int.ofNat_lt.1 l
    have hT := gchk_M (tchk_all (ht i il)).2
    refine ⟨⟨by omega, l⟩, hT, ?_⟩
    rintro _ rfl
    refine ⟨?_, ⟨by omega, by omega⟩, i + 1, rfl, rfl, rfl, rfl, rfl, rfl, rfl, rfl, (take_get _ _ il).symm, il, by omega⟩
    rw [List.length_take]
    show min i x.1.2.2.1.length + 1 ≤ 1073741824
    omega
  · have l := ltF l
    have hi : i ≤ x.1.2.2.1.length := hi
    rw [List.take_of_length_le (show x.1.2.2.1.length ≤ i by omega)]
theorem fo_pcopied : FnOk Try.prog 29 sp_pcopied := fnOk_of (C := c_pcopied) iv_pcopied Try.func29 rfl (by kernel_rfl) tys_ok (prims_cons (spec_prim fo_clone) (prims_cons (spec_prim fo_tCopy) prims_nil)) mixed_ (Nat.le_refl _) rfl fun y x h1 h2 h3 h4 =>
  Eq.mpr (w_pcopied y x) (m_pcopied y x h2 h3 h4)
def mvT (t : Int) (c : El tTide) : El tTide := (c.1, c.2.1, ofGa (numE c t).1, ())
def mvE (l : List (El tTide)) (t : Int) : Nat → Int
  | 0 => 0
  | k + 1 => if mvE l t k ≠ 0 then mvE l t k else (numE (tdAt l k) t).2
def mpL (f : El tTide → El tTide) (l : List (El tTide)) (k : Nat) : List (El tTide) := (l.take k).map f ++ l.drop k
def mvL (l : List (El tTide)) (t : Int) (k : Nat) : List (El tTide) := mpL (mvT t) l k
def MovedE (p : El tPort) (t : Int) : El tPort × Int × Unit := if (portI p).1 ≠ 0 then (dfl tPort, (portI p).1, ()) else if t < -1024 ∨ 1024 < t then (dfl tPort, 2, ()) else if mvE p.2.2.1 t p.2.2.1.length ≠ 0 then (dfl tPort, mvE p.2.2.1 t p.2.2.1.length, ()) else ((p.1, p.2.1, p.2.2.1.map (mvT t), ()), 0, ())
section
variable {f : El tTide → El tTide} {l : List (El tTide)} {t : Int} {p : El tPort} {i : Nat} {e : Int}
theorem mp_len (f : El tTide → El tTide) (l : List (El tTide)) (i : Nat) : (mpL f l i).length = l.length := by
  unfold mpL
  rw [List.length_append, List.length_map, List.length_take, List.length_drop]
  omega
theorem mp_all (f : El tTide → El tTide) {l : List (El tTide)} (h : i = l.length) : mpL f l i = l.map f := by
  unfold mpL
  rw [h, List.take_length, List.drop_length, List.append_nil]
theorem mp_get (f : El tTide → El tTide) {l : List (El tTide)} (h : i < l.length) : (mpL f l i).getD (i : Int).toNat (dfl tTide) = tdAt l i := by
  unfold mpL tdAt
  have hl : ((l.take i).map f).length = i := by
    rw [List.length_map, List.length_take]
    omega
  rw [Int.toNat_natCast, List.getD_eq_getElem?_getD, List.getD_eq_getElem?_getD, List.getElem?_append_right (by omega), hl, List.getElem?_drop]
  congr 2
  omega
theorem mp_set (f : El tTide → El tTide) {l : List (El tTide)} (h : i < l.length) {y : El tTide} (hy : y = f (tdAt l i)) : mpL f l (i + 1) = (mpL f l i).set (i : Int).toNat y := by
  unfold mpL
  have hl : ((l.take i).map f).length = i := by
    rw [List.length_map, List.length_take]
    omega
  rw [Int.toNat_natCast, List.set_append, if_neg (show ¬ i < ((l.take i).map f).length by omega), hl, Nat.sub_self, List.drop_eq_getElem_cons h, List.set_cons_zero, List.take_add_one, List.getElem?_eq_getElem h, List.map_append, List.append_assoc, hy]
  unfold tdAt
  rw [List.getD_eq_getElem?_getD, List.getElem?_eq_getElem h]
  rfl
theorem mvE_next (h : mvE l t i = 0) : mvE l t (i + 1) = (numE (tdAt l i) t).2 := if_neg (fun c => c h)
theorem mvE_stay (h : mvE l t i ≠ 0) : ∀ k, mvE l t (i + k) = mvE l t i
  | 0 => rfl
  | k + 1 => by
    have ih := mvE_stay h k
    show (if mvE l t (i + k) ≠ 0 then mvE l t (i + k) else _) = _
    rw [ih, if_pos h]
theorem mvd_1 (h : (portI p).1 ≠ 0) : MovedE p t = (dfl tPort, (portI p).1, ()) := if_pos h
theorem mvd_2 (h : (portI p).1 = 0) (k : t < -1024 ∨ 1024 < t) : MovedE p t = (dfl tPort, 2, ()) := (if_neg (fun c => c h)).trans (if_pos k)
theorem mvd_err (h : (portI p).1 = 0) (a : ¬ t < -1024) (b : ¬ 1024 < t) (he : mvE p.2.2.1 t i = 0) (il : i < p.2.2.1.length) (hn : (numE (tdAt p.2.2.1 i) t).2 = e) (h0 : e ≠ 0) : MovedE p t = (dfl tPort, e, ()) := by
  have e1 : mvE p.2.2.1 t (i + 1) = e := (mvE_next he).trans hn
  have e2 := mvE_stay (l := p.2.2.1) (t := t) (i := i + 1) (by rw [e1]; exact h0) (p.2.2.1.length - (i + 1))
  rw [show i + 1 + (p.2.2.1.length - (i + 1)) = p.2.2.1.length by omega, e1] at e2
  unfold MovedE
  rw [if_neg (fun c => c h), if_neg (by omega), e2, if_pos h0]
theorem mvd_ok (h : (portI p).1 = 0) (a : ¬ t < -1024) (b : ¬ 1024 < t) (he : mvE p.2.2.1 t i = 0) (il : i = p.2.2.1.length) : MovedE p t = ((p.1, p.2.1, mvL p.2.2.1 t i, ()), 0, ()) := by
  unfold MovedE mvL
  rw [if_neg (fun c => c h), if_neg (by omega), ← il, he, if_neg (fun c => c rfl), mp_all _ il]
theorem numE_bad {c : El tTide} (h : (powR c.2.1 t).2.1 ≠ 0) : numE c t = (Ga.zero, (powR c.2.1 t).2.1) := if_pos h
theorem numE_go {c : El tTide} (h : (powR c.2.1 t).2.1 = 0) : numE c t = gmul (toGa c.2.2.1) (toGa (powR c.2.1 t).1) := if_neg (fun c => c h)
end
noncomputable def sp_pMoved : Spec := { q := .un, ps := [tPort, .it .i64], rs := [tPort, .it .i64], fresh := false, pre := fun _ _ => none, post := fun _ x => ((), MovedE x.1 x.2.1) }
noncomputable def iv_pMoved (y : El sp_pMoved.q) (x : Els sp_pMoved.ps) : Nat → Option Inv := fun k => if k = 0 then some { X := Nat, tm := fun i => [(1, .c (.sc (.int .i64 x.2.1))), (4, .c (.pv 1 0)), (7, .c (.pv 2 0)), (30, .c (.ow 5)), (31, .c (.sc (.int .i64 x.1.2.2.1.length))), (32, .c (.sc (.int .i64 i)))], ob := fun i => [(1, .var (zer tPort)), (2, .var [.sc (.string x.1.1), .sc (.bool x.1.2.1.1), .ow 3, .ow 4, .ow 5]), (3, .ty 95 (.it .u32) x.1.2.1.2.1 0), (4, .ty 95 (.it .u32) x.1.2.1.2.2.1 0), (5, .ty 50 tTide (mvL x.1.2.2.1 x.2.1 i) 0)], n := 6, I := fun i => i ≤ x.1.2.2.1.length ∧ mvE x.1.2.2.1 x.2.1 i = 0, μ := fun i => x.1.2.2.1.length - i } else none
noncomputable abbrev c_pMoved : Cfg := cfgS (Try.f9).ntmps false [(6, sp_pCheck.prim), (29, p_half (sp_pcopied.prim)), (30, sp_rPow.prim), (31, (sp_gMul.rd).prim)]
def F_pMoved (y : El sp_pMoved.q) (x : Els sp_pMoved.ps) : Prop :=
  ∀ (r : Ro [tFault]), r = ((), portR x.1, ()) → ((r.2.1.1 != (0 : Int)) = true → ((ByteArray.empty, (false, [], [], ()), [], ()), r.2.1.1, ()) = MovedE x.1 x.2.1) ∧ ((r.2.1.1 != (0 : Int)) = false → (decide (x.2.1 < (-1024 : Int)) = true → ((ByteArray.empty, (false, [], [], ()), [], ()), (2 : Int), ()) = MovedE x.1 x.2.1) ∧ (decide (x.2.1 < (-1024 : Int)) = false → (decide (x.2.1 > (1024 : Int)) = true → ((ByteArray.empty, (false, [], [], ()), [], ()), (2 : Int), ()) = MovedE x.1 x.2.1) ∧ (decide (x.2.1 > (1024 : Int)) = false → (portI x.1).1 = (0 : Int) ∧ ∀ (r : Ro [tPort]), r = ((), x.1, ()) → (∃ (x_1 : Nat), x.2.1 = x.2.1 ∧ (x.1.2.2.1.length : Int) = lenM (0 : Nat) tTide r.2.1.2.2.1 ∧ (↑x_1 : Int) = (0 : Int) ∧ ByteArray.empty = ByteArray.empty ∧ x.1.1 = r.2.1.1 ∧ x.1.2.1.1 = r.2.1.2.1.1 ∧ x.1.2.1.2.1 = r.2.1.2.1.2.1 ∧ x.1.2.1.2.2.1 = r.2.1.2.1.2.2.1 ∧ mvL x.1.2.2.1 x.2.1 x_1 = r.2.1.2.2.1 ∧ x_1 ≤ List.length x.1.2.2.1 ∧ mvE x.1.2.2.1 x.2.1 x_1 = (0 : Int)) ∧ ∀ (x_1 : Nat), x_1 ≤ List.length x.1.2.2.1 ∧ mvE x.1.2.2.1 x.2.1 x_1 = (0 : Int) → (decide ((↑x_1 : Int) < (x.1.2.2.1.length : Int)) = true → ((0 : Int) ≤ (↑x_1 : Int) ∧ (↑x_1 : Int) < (↑(mvL x.1.2.2.1 x.2.1 x_1).length : Int)) ∧ ∀ (r : Ro [tG, Ty.it IntKind.i64]), r = ((), powR ((mvL x.1.2.2.1 x.2.1 x_1).getD (↑x_1 : Int).toNat (dfl tTide)).2.1 x.2.1) → ((r.2.2.1 != (0 : Int)) = true → ((ByteArray.empty, (false, [], [], ()), [], ()), r.2.2) = MovedE x.1 x.2.1) ∧ ((r.2.2.1 != (0 : Int)) = false → ∀ (r_1 : Ro [tG, Ty.it IntKind.i64]), r_1 = pG (gmul (toGa ((mvL x.1.2.2.1 x.2.1 x_1).getD (↑x_1 : Int).toNat (dfl tTide)).2.2.1) (toGa r.2.1)) → ((0 : Int) ≤ (↑x_1 : Int) ∧ (↑x_1 : Int) < (↑(mvL x.1.2.2.1 x.2.1 x_1).length : Int)) ∧ ((r_1.2.2.1 != (0 : Int)) = true → ((ByteArray.empty, (false, [], [], ()), [], ()), r_1.2.2) = MovedE x.1 x.2.1) ∧ ((r_1.2.2.1 != (0 : Int)) = false → ((-9223372036854775808 : Int) ≤ (↑x_1 : Int) + (1 : Int) ∧ (↑x_1 : Int) + (1 : Int) ≤ (9223372036854775807 : Int)) ∧ ∃ (x' : Nat), x.2.1 = x.2.1 ∧ (x.1.2.2.1.length : Int) = (x.1.2.2.1.length : Int) ∧ (↑x' : Int) = (↑x_1 : Int) + (1 : Int) ∧ ByteArray.empty = ByteArray.empty ∧ x.1.1 = x.1.1 ∧ x.1.2.1.1 = x.1.2.1.1 ∧ x.1.2.1.2.1 = x.1.2.1.2.1 ∧ x.1.2.1.2.2.1 = x.1.2.1.2.2.1 ∧ mvL x.1.2.2.1 x.2.1 x' = (mvL x.1.2.2.1 x.2.1 x_1).set (↑x_1 : Int).toNat (((mvL x.1.2.2.1 x.2.1 x_1).getD (↑x_1 : Int).toNat (dfl tTide)).1, ((mvL x.1.2.2.1 x.2.1 x_1).getD (↑x_1 : Int).toNat (dfl tTide)).2.1, r_1.2.1, ()) ∧ (x' ≤ List.length x.1.2.2.1 ∧ mvE x.1.2.2.1 x.2.1 x' = (0 : Int)) ∧ List.length x.1.2.2.1 - x' < List.length x.1.2.2.1 - x_1))) ∧ (decide ((↑x_1 : Int) < (x.1.2.2.1.length : Int)) = false → ((x.1.1, x.1.2.1, mvL x.1.2.2.1 x.2.1 x_1, ()), (0 : Int), ()) = MovedE x.1 x.2.1))))
theorem w_pMoved (y : El sp_pMoved.q) (x : Els sp_pMoved.ps) : aW c_pMoved (iv_pMoved y x) Try.f9 sp_pMoved y x = F_pMoved y x := by kernel_rfl
theorem m_pMoved (y : El (.un)) (x : Els [tPort, .it .i64]) (h2 : wfE (.un) y) (h3 : wfEs [tPort, .it .i64] x) : F_pMoved y x := by
  unfold F_pMoved
  rintro _ rfl
  refine ⟨fun h => (mvd_1 (neT h)).symm, fun h => ⟨fun a => (mvd_2 (neF h) (.inl (ltT a))).symm, fun a => ⟨fun b => (mvd_2 (neF h) (.inr (gtT b))).symm, fun b => ?_⟩⟩⟩
  have h : (portI x.1).1 = 0 := neF h
  have a : ¬ (x.2.1 : Int) < -1024 := Int.not_lt.2 (ltF a)
  have b : ¬ 1024 < (x.2.1 : Int) := Int.not_lt.2 (gtF b)
  refine ⟨h, ?_⟩
  rintro _ rfl
  refine ⟨⟨0, rfl, rfl, rfl, rfl, rfl, rfl, rfl, rfl, rfl, Nat.zero_le _, rfl⟩, fun i hi => ⟨fun l => ?_, fun l => ?_⟩⟩
  · obtain ⟨_, he⟩ := hi
    have l := ltT l
    have il : i < x.1.2.2.1.length := Int.ofNat_lt.1 l
    have h24 := (port_all h).2.2.1
    have len : ((mvL x.1.2.2.1 x.2.1 i).length : Int) = x.1.2.2.1.length := congrArg Int.ofNat (mp_len (mvT x.2.1) x.1.2.2.1 i)
    have g : (mvL x.1.2.2.1 x.2.1 i).getD (i : Int).toNat (dfl tTide) = tdAt x.1.2.2.1 i := mp_get (mvT x.2.1) il
    rw [len, g]
    refine ⟨⟨by omega, l⟩, ?_⟩
    rintro _ rfl
    refine ⟨fun k => ?_, fun k => ?_⟩
    · have k := neT k
      exact (mvd_err h a b he il (congrArg Prod.snd (numE_bad k)) k).symm
    · have k := neF k
      have n := numE_go k
      rintro _ rfl
      refine ⟨⟨by omega, l⟩, fun m => (mvd_err h a b he il (congrArg Prod.snd n) (neT m)).symm, fun m => ⟨⟨by omega, by omega⟩, i + 1, rfl, rfl, rfl, rfl, rfl, rfl, rfl, rfl, mp_set (mvT x.2.1) il ?_, ⟨il, (mvE_next he).trans ((congrArg Prod.snd n).trans (neF m))⟩, by omega⟩⟩
      show (_, _, _, _) = (_, _, ofGa (numE (tdAt x.1.2.2.1 i) x.2.1).1, ())
      rw [n]
      rfl
  · obtain ⟨hi, he⟩ := hi
    have l := ltF l
    exact (mvd_ok h a b he (by omega)).symm
theorem fo_pMoved : FnOk Try.prog 9 sp_pMoved := fnOk_of (C := c_pMoved) iv_pMoved Try.func9 rfl (by kernel_rfl) tys_ok (prims_cons (spec_prim fo_pCheck) (prims_cons (pr_half (spec_prim fo_pcopied)) (prims_cons (spec_prim fo_rPow) (prims_cons (spec_prim (FnOk.read fo_gMul)) prims_nil)))) mixed_ (Nat.le_refl _) rfl fun y x h1 h2 h3 h4 =>
  Eq.mpr (w_pMoved y x) (m_pMoved y x h2 h3)
theorem powR_pos {r : El tRot} {t : Nat} (h : rotC r = 0) (ht : t ≤ 1024) : powR r (t : Int) = ((ofGa (rpow (rA r) (rB r) t), 0, ()) : El tG × Int × Unit) := by
  rw [← pw_3 h (by omega)]
  have e : powB r.2.1 (t : Int) = rB r := if_neg (by omega)
  rw [e]
  rfl
theorem rot_bd {r : El tRot} (h : rotC r = 0) : (rA r).natAbs ≤ 1000 ∧ (rB r).natAbs ≤ 1000 ∧ 1 ≤ rA r := by
  have hb := rotC_0 h
  unfold rotB rotI at hb
  unfold rA rB
  omega
section
variable {a b c d : Int} {i : Nat}
end
section
variable {a b : El tRot} {n : Int}
end
end Go.Proofs.Ytemlaompalbgiaa
namespace Go.Proofs.Ytemlaompalbgiaa
theorem tell_in {q : Rat} (h : (tell q).2 = 0) : ¬ lng q = true ∧ tell q = (enc q, 0) := by
  by_cases hl : lng q = true
  · unfold tell at h
    rw [if_pos hl] at h
    cases h
  · exact ⟨hl, tell_ok hl⟩
theorem fmul_enc {p q : Rat} (h : ¬ lng p = true) (k : ¬ lng q = true) : fmul (enc p) (enc q) = tell (p * q) := both_ok h k
section
variable {m n : Nat} {p q a b c d : Rat}
end
section
variable {a b c d p q r s : Rat}
theorem fadd_e (lp : ¬ lng p = true) (lq : ¬ lng q = true) (h : (fadd (enc p) (enc q)).2 = 0) : fadd (enc p) (enc q) = (enc (p + q), 0) ∧ ¬ lng (p + q) = true := by
  rw [fadd_enc lp lq] at h ⊢
  exact ⟨(tell_in h).2, (tell_in h).1⟩
theorem fsub_e (lp : ¬ lng p = true) (lq : ¬ lng q = true) (h : (fsub (enc p) (enc q)).2 = 0) : fsub (enc p) (enc q) = (enc (p - q), 0) ∧ ¬ lng (p - q) = true := by
  rw [fsub_enc lp lq] at h ⊢
  exact ⟨(tell_in h).2, (tell_in h).1⟩
theorem fmul_e (lp : ¬ lng p = true) (lq : ¬ lng q = true) (h : (fmul (enc p) (enc q)).2 = 0) : fmul (enc p) (enc q) = (enc (p * q), 0) ∧ ¬ lng (p * q) = true := by
  rw [fmul_enc lp lq] at h ⊢
  exact ⟨(tell_in h).2, (tell_in h).1⟩
theorem wpair_e {l : Bool} (lp : ¬ lng p = true) (lq : ¬ lng q = true) (lr : ¬ lng r = true) (ls : ¬ lng s = true) (h : (wpair 0 (enc p) (enc q) (enc r) (enc s) l).2 = 0) :
    wpair 0 (enc p) (enc q) (enc r) (enc s) l = (enc (if l = true then p * q - r * s else p * q + r * s), 0) ∧ ¬ lng (if l = true then p * q - r * s else p * q + r * s) = true := by
  by_cases h1 : (fmul (enc p) (enc q)).2 = 0
  · by_cases h2 : (fmul (enc r) (enc s)).2 = 0
    · obtain ⟨e1, l1⟩ := fmul_e lp lq h1
      obtain ⟨e2, l2⟩ := fmul_e lr ls h2
      cases l with
      | true =>
        rw [wpair_3 h1 h2, e1, e2] at h ⊢
        rw [if_pos rfl]
        exact fsub_e l1 l2 h
      | false =>
        rw [wpair_4 h1 h2, e1, e2] at h ⊢
        rw [if_neg (by decide)]
        exact fadd_e l1 l2 h
    · rw [wpair_2 h1 h2] at h
      exact absurd h h2
  · rw [wpair_1 h1] at h
    exact absurd h h1
variable (la : ¬ lng a = true) (lb : ¬ lng b = true) (lc : ¬ lng c = true) (ld : ¬ lng d = true)
include la lb lc ld
theorem ge_chk2e : gchk2 (ge a b) (ge c d) = 0 := gchk2_mk (gchk_enc la lb) (gchk_enc lc ld)
theorem gadd_e (h : (gadd (ge a b) (ge c d)).2 = 0) : gadd (ge a b) (ge c d) = (ge (a + c) (b + d), 0) ∧ ¬ lng (a + c) = true ∧ ¬ lng (b + d) = true := by
  have g := ge_chk2e la lb lc ld
  by_cases h1 : (fadd (ge a b).re (ge c d).re).2 = 0
  · by_cases h2 : (fadd (ge a b).im (ge c d).im).2 = 0
    · obtain ⟨e1, l1⟩ := fadd_e la lc h1
      obtain ⟨e2, l2⟩ := fadd_e lb ld h2
      refine ⟨?_, l1, l2⟩
      rw [gadd_4 g h1 h2]
      show ((⟨(fadd (enc a) (enc c)).1, (fadd (enc b) (enc d)).1⟩ : Ga), (0 : Int)) = _
      rw [e1, e2]
      rfl
    · rw [gadd_3 g h1 h2] at h
      exact absurd h h2
  · rw [gadd_2 g h1] at h
    exact absurd h h1
theorem gmul_e (h : (gmul (ge a b) (ge c d)).2 = 0) : gmul (ge a b) (ge c d) = (ge (a * c - b * d) (a * d + b * c), 0) ∧ ¬ lng (a * c - b * d) = true ∧ ¬ lng (a * d + b * c) = true := by
  have g := ge_chk2e la lb lc ld
  by_cases h1 : (wpair 0 (ge a b).re (ge c d).re (ge a b).im (ge c d).im true).2 = 0
  · by_cases h2 : (wpair 0 (ge a b).re (ge c d).im (ge a b).im (ge c d).re false).2 = 0
    · obtain ⟨e1, l1⟩ := wpair_e la lc lb ld h1
      obtain ⟨e2, l2⟩ := wpair_e la ld lb lc h2
      rw [if_pos rfl] at e1 l1
      rw [if_neg (by decide)] at e2 l2
      refine ⟨?_, l1, l2⟩
      rw [gmul_4 g h1 h2]
      show ((⟨(wpair 0 (enc a) (enc c) (enc b) (enc d) true).1, (wpair 0 (enc a) (enc d) (enc b) (enc c) false).1⟩ : Ga), (0 : Int)) = _
      rw [e1, e2]
      rfl
    · rw [gmul_3 g h1 h2] at h
      exact absurd h h2
  · rw [gmul_2 g h1] at h
    exact absurd h h1
end
end Go.Proofs.Ytemlaompalbgiaa
namespace Go.Proofs.Ytemlaompalbgiaa
open Go Go.RowKit
section
variable {a b : Int} {m n : Nat} (ha : a.natAbs ≤ 1000) (hb : b.natAbs ≤ 1000) (hp : 1 ≤ a)
include ha hb hp
theorem rpow_ex (hn : n ≤ 1024) : ∃ X Y, rpow a b n = ge X Y ∧ ¬ lng X = true ∧ ¬ lng Y = true := by
  obtain ⟨h1, h2⟩ := gpow_bd ha hb (2 * n)
  obtain ⟨l, h0, _⟩ := nrmN (n := n) ha hb hp
  exact ⟨_, _, rfl, lngQ h1 (by omega) l (by omega) h0, lngQ h2 (by omega) l (by omega) h0⟩
theorem rpow_mul (h : m + n ≤ 1024) : ∃ X Y U V, rpow a b m = ge X Y ∧ rpow a b n = ge U V ∧ rpow a b (m + n) = ge (X * U - Y * V) (X * V + Y * U) ∧ ¬ lng X = true ∧ ¬ lng Y = true ∧ ¬ lng U = true ∧ ¬ lng V = true ∧ ¬ lng (X * U - Y * V) = true ∧ ¬ lng (X * V + Y * U) = true := by
  obtain ⟨X, Y, e1, l1, l2⟩ := rpow_ex (n := m) ha hb hp (by omega)
  obtain ⟨U, V, e2, l3, l4⟩ := rpow_ex (n := n) ha hb hp (by omega)
  have g := gmul_rpow (m := m) (n := n) h ha hb hp
  rw [e1, e2] at g
  obtain ⟨k, k1, k2⟩ := gmul_e l1 l2 l3 l4 (by rw [g])
  rw [g] at k
  exact ⟨X, Y, U, V, e1, e2, (Prod.mk.inj k).1, l1, l2, l3, l4, k1, k2⟩
end
theorem rpow_one (a b : Int) : rpow a b 0 = ge 1 0 := by
  unfold rpow ge
  rw [Int.pow_zero]
  show (⟨enc (mkRat 1 1), enc (mkRat 0 1)⟩ : Ga) = _
  rw [Rat.mkRat_one, Rat.mkRat_one]
  rfl
section
variable {c : El tTide} {s t : Nat}
theorem numE_at (h : rotC c.2.1 = 0) (ht : t ≤ 1024) : numE c (t : Int) = gmul (toGa c.2.2.1) (rpow (rA c.2.1) (rB c.2.1) t) := by
  unfold numE
  rw [powR_pos h ht, if_neg (fun c => c rfl)]
theorem num_ge (hw : (toGa c.2.2.1).Wf) (h : tchk c = 0) (ht : t ≤ 1024) (h0 : (numE c (t : Int)).2 = 0) : ∃ x y, numE c (t : Int) = (ge x y, 0) ∧ ¬ lng x = true ∧ ¬ lng y = true := by
  obtain ⟨hr, hg⟩ := tchk_all h
  obtain ⟨x, y, e, lx, ly⟩ := gchk_ok hw hg
  obtain ⟨ra, rb, rp⟩ := rot_bd hr
  obtain ⟨X, Y, e1, l1, l2⟩ := rpow_ex (n := t) ra rb rp ht
  rw [numE_at hr ht, e, e1] at h0 ⊢
  obtain ⟨k, k1, k2⟩ := gmul_e lx ly l1 l2 h0
  exact ⟨_, _, k, k1, k2⟩
theorem num_moved (hw : (toGa c.2.2.1).Wf) (h : tchk c = 0) (hst : s + t ≤ 1024) (h1 : (numE c (s : Int)).2 = 0) (h2 : (numE (mvT (s : Int) c) (t : Int)).2 = 0) (h3 : (numE c ((s + t : Nat) : Int)).2 = 0) : numE (mvT (s : Int) c) (t : Int) = numE c ((s + t : Nat) : Int) := by
  obtain ⟨hr, hg⟩ := tchk_all h
  obtain ⟨x, y, e, lx, ly⟩ := gchk_ok hw hg
  obtain ⟨ra, rb, rp⟩ := rot_bd hr
  obtain ⟨X, Y, U, V, e1, e2, e3, l1, l2, l3, l4, l5, l6⟩ := rpow_mul (m := s) (n := t) ra rb rp hst
  have f1 := numE_at (c := c) (t := s) hr (by omega)
  have f3 := numE_at (c := c) (t := s + t) hr (by omega)
  rw [f1, e, e1] at h1
  obtain ⟨k1, m1, m2⟩ := gmul_e lx ly l1 l2 h1
  have f2 := numE_at (c := mvT (s : Int) c) (t := t) hr (by omega)
  have e4 : toGa (mvT (s : Int) c).2.2.1 = ge (x * X - y * Y) (x * Y + y * X) := by
    show (numE c (s : Int)).1 = _
    rw [f1, e, e1]
    exact congrArg Prod.fst k1
  rw [f2, e4] at h2 ⊢
  have e5 : rpow (rA (mvT (s : Int) c).2.1) (rB (mvT (s : Int) c).2.1) t = ge U V := e2
  rw [e5] at h2 ⊢
  obtain ⟨k2, _, _⟩ := gmul_e m1 m2 l3 l4 h2
  rw [f3, e, e3] at h3 ⊢
  obtain ⟨k3, _, _⟩ := gmul_e lx ly l5 l6 h3
  have k3' : gmul ⟨enc x, enc y⟩ (ge (X * U - Y * V) (X * V + Y * U)) = _ := k3
  rw [k2, k3', show (x * X - y * Y) * U - (x * Y + y * X) * V = x * (X * U - Y * V) - y * (X * V + Y * U) by grind, show (x * X - y * Y) * V + (x * Y + y * X) * U = x * (X * V + Y * U) + y * (X * U - Y * V) by grind]
theorem num_zero (hw : (toGa c.2.2.1).Wf) (h : tchk c = 0) (h0 : (numE c 0).2 = 0) : (numE c 0).1 = toGa c.2.2.1 := by
  obtain ⟨hr, hg⟩ := tchk_all h
  obtain ⟨x, y, e, lx, ly⟩ := gchk_ok hw hg
  have f := numE_at (c := c) (t := 0) hr (by omega)
  have f : numE c 0 = _ := f
  rw [f, e, rpow_one] at h0
  obtain ⟨k, _, _⟩ := gmul_e lx ly (sm_lng (q := 1) (by decide +kernel)) (sm_lng (q := 0) (by decide +kernel)) h0
  rw [f, e, rpow_one]
  have k' : gmul ⟨enc x, enc y⟩ (ge 1 0) = _ := k
  rw [k', show x * 1 - y * 0 = x by grind, show x * 0 + y * 1 = y by grind]
  rfl
end
section
variable {l l' : List (El tTide)} {t t' : Int} {h0 : Fr × Int} {i n : Nat}
theorem h5_stay (h : (hgtS h0 l t i).2 ≠ 0) : ∀ k, hgtS h0 l t (i + k) = hgtS h0 l t i
  | 0 => rfl
  | k + 1 => by
    have ih := h5_stay h k
    show (if (hgtS h0 l t (i + k)).2 ≠ 0 then hgtS h0 l t (i + k) else _) = _
    rw [ih, if_pos h]
theorem h5_ok (h : (hgtS h0 l t n).2 = 0) (hi : i ≤ n) : (hgtS h0 l t i).2 = 0 := Decidable.byContradiction fun c => by
  have := h5_stay c (n - i)
  rw [show i + (n - i) = n by omega] at this
  rw [this] at h
  exact c h
theorem h5_step (h : (hgtS h0 l t (i + 1)).2 = 0) : (hgtS h0 l t i).2 = 0 ∧ (numE (tdAt l i) t).2 = 0 ∧ hgtS h0 l t (i + 1) = fadd (hgtS h0 l t i).1 (numE (tdAt l i) t).1.re := by
  have a := h5_ok h (Nat.le_succ i)
  have e : hgtS h0 l t (i + 1) = if (numE (tdAt l i) t).2 ≠ 0 then ((hgtS h0 l t i).1, (numE (tdAt l i) t).2) else fadd (hgtS h0 l t i).1 (numE (tdAt l i) t).1.re := if_neg (fun c => c a)
  by_cases b : (numE (tdAt l i) t).2 = 0
  · rw [if_neg (fun c => c b)] at e
    exact ⟨a, b, e⟩
  · rw [if_pos b] at e
    rw [e] at h
    exact absurd h b
theorem su_stay' (h : (sumS l t i).2 ≠ 0) : ∀ k, sumS l t (i + k) = sumS l t i
  | 0 => rfl
  | k + 1 => by
    have ih := su_stay' h k
    show (if (sumS l t (i + k)).2 ≠ 0 then sumS l t (i + k) else _) = _
    rw [ih, if_pos h]
theorem s5_ok (h : (sumS l t n).2 = 0) (hi : i ≤ n) : (sumS l t i).2 = 0 := Decidable.byContradiction fun c => by
  have := su_stay' c (n - i)
  rw [show i + (n - i) = n by omega] at this
  rw [this] at h
  exact c h
theorem s5_step (h : (sumS l t (i + 1)).2 = 0) : (sumS l t i).2 = 0 ∧ (numE (tdAt l i) t).2 = 0 ∧ sumS l t (i + 1) = gadd (sumS l t i).1 (numE (tdAt l i) t).1 := by
  have a := s5_ok h (Nat.le_succ i)
  have e : sumS l t (i + 1) = if (numE (tdAt l i) t).2 ≠ 0 then (Ga.zero, (numE (tdAt l i) t).2) else gadd (sumS l t i).1 (numE (tdAt l i) t).1 := if_neg (fun c => c a)
  by_cases b : (numE (tdAt l i) t).2 = 0
  · rw [if_neg (fun c => c b)] at e
    exact ⟨a, b, e⟩
  · rw [if_pos b] at e
    rw [e] at h
    exact absurd h b
theorem h5_like (h : (hgtS h0 l t n).2 = 0) (h' : (hgtS h0 l' t' n).2 = 0) (e : ∀ k, k < n → (numE (tdAt l k) t).2 = 0 → (numE (tdAt l' k) t').2 = 0 → numE (tdAt l k) t = numE (tdAt l' k) t') : ∀ i, i ≤ n → hgtS h0 l t i = hgtS h0 l' t' i
  | 0, _ => rfl
  | i + 1, hi => by
    have ih := h5_like h h' e i (by omega)
    obtain ⟨_, a2, a3⟩ := h5_step (h5_ok h hi)
    obtain ⟨_, b2, b3⟩ := h5_step (h5_ok h' hi)
    rw [a3, b3, ih, e i (by omega) a2 b2]
end
def nsS (l : List (El tTide)) : Nat → Ga × Int
  | 0 => (gint 0 0, 0)
  | i + 1 => gadd (nsS l i).1 (toGa (tdAt l i).2.2.1)
section
variable {l : List (El tTide)} {n : Nat} (hw : ∀ k, k < n → (toGa (tdAt l k).2.2.1).Wf) (hc : ∀ k, k < n → tchk (tdAt l k) = 0)
include hw hc
theorem s5_zero (h : (sumS l 0 n).2 = 0) : ∀ i, i ≤ n → (sumS l 0 i).1 = (nsS l i).1
  | 0, _ => rfl
  | i + 1, hi => by
    have ih := s5_zero h i (by omega)
    obtain ⟨_, a2, a3⟩ := s5_step (s5_ok h hi)
    have e : nsS l (i + 1) = gadd (nsS l i).1 (toGa (tdAt l i).2.2.1) := rfl
    rw [a3, e, ih, num_zero (hw i hi) (hc i hi) a2]
theorem h5_sum {t : Nat} (ht : t ≤ 1024) {m : Rat} (hm : ¬ lng m = true) (h : (hgtS (enc m, 0) l (t : Int) n).2 = 0) (h' : (sumS l (t : Int) n).2 = 0) : ∀ i, i ≤ n → ∃ R I : Rat, hgtS (enc m, 0) l (t : Int) i = (enc (m + R), 0) ∧ sumS l (t : Int) i = (ge R I, 0) ∧ ¬ lng (m + R) = true ∧ ¬ lng R = true ∧ ¬ lng I = true
  | 0, _ => ⟨0, 0, by rw [Rat.add_zero]; rfl, by show (gint 0 0, (0 : Int)) = (ge 0 0, 0); decide +kernel, by rw [Rat.add_zero]; exact hm, sm_lng (by decide +kernel), sm_lng (by decide +kernel)⟩
  | i + 1, hi => by
    obtain ⟨R, I, e1, e2, l1, l2, l3⟩ := h5_sum ht hm h h' i (by omega)
    have g1 := h5_ok h hi
    have g2 := s5_ok h' hi
    obtain ⟨_, a2, a3⟩ := h5_step g1
    obtain ⟨_, _, b3⟩ := s5_step g2
    obtain ⟨x, y, e3, lx, ly⟩ := num_ge (hw i hi) (hc i hi) ht a2
    rw [a3, e1, e3] at g1
    rw [b3, e2, e3] at g2
    obtain ⟨k1, m1⟩ := fadd_e l1 lx g1
    obtain ⟨k2, m2, m3⟩ := gadd_e l2 l3 lx ly g2
    refine ⟨R + x, I + y, ?_, ?_, ?_, m2, m3⟩
    · rw [a3, e1, e3]
      have k1' : fadd (enc (m + R)) (ge x y).re = _ := k1
      rw [k1', Rat.add_assoc]
    · rw [b3, e2, e3]
      exact k2
    · rw [← Rat.add_assoc]
      exact m1
end
end Go.Proofs.Ytemlaompalbgiaa
