/- Texts of this claim, joined: P16 H4 F0 H6. -/
import Derived.Lib.ItoaNum
import Derived.Lib.ParseIntB
import Derived.Lib.SlTrimSet
import Derived.Test.YtemlaompalbgiaaGreatDoorQq
set_option linter.unusedVariables false
set_option linter.unusedSimpArgs false
set_option maxRecDepth 100000
namespace Go.Proofs.YtemlaompalbgiaaGreatDoor
open Go
def decV (l : List UInt8) : Nat := l.foldl (fun a c => a * 10 + (c.toNat - 48)) 0
def isD (c : UInt8) : Bool := decide (48 ≤ c.toNat ∧ c.toNat ≤ 57)
def canD (l : List UInt8) : Bool := l.all isD && (match l with
  | [] => false
  | [_] => true
  | c :: _ => decide (c.toNat ≠ 48))
theorem isD_rng {c : UInt8} (h : isD c = true) : 48 ≤ c.toNat ∧ c.toNat ≤ 57 := of_decide_eq_true h
theorem foldl_dec (l : List UInt8) : ∀ a : Nat, l.foldl (fun a c => a * 10 + (c.toNat - 48)) a = a * 10 ^ l.length + decV l := by
  induction l with
  | nil => intro a; simp [decV]
  | cons c l ih =>
    intro a
    have e0 : decV (c :: l) = l.foldl (fun a c => a * 10 + (c.toNat - 48)) (0 * 10 + (c.toNat - 48)) := rfl
    rw [List.foldl_cons, ih, e0, ih, List.length_cons, Nat.pow_succ, Nat.add_mul, Nat.mul_assoc, Nat.mul_comm 10 (10 ^ l.length), Nat.zero_mul, Nat.zero_add, Nat.add_assoc]
theorem decV_append (l m : List UInt8) : decV (l ++ m) = decV l * 10 ^ m.length + decV m := by
  have : decV (l ++ m) = m.foldl (fun a c => a * 10 + (c.toNat - 48)) (decV l) := by unfold decV; rw [List.foldl_append]
  rw [this, foldl_dec]
theorem decV_cons (c : UInt8) (l : List UInt8) : decV (c :: l) = (c.toNat - 48) * 10 ^ l.length + decV l := by
  have := decV_append [c] l
  rw [show [c] ++ l = c :: l from rfl] at this
  rw [this]
  congr 2
  show 0 * 10 + (c.toNat - 48) = _
  omega
theorem decV_nil : decV [] = 0 := rfl
theorem decV_one (c : UInt8) : decV [c] = c.toNat - 48 := by
  show 0 * 10 + (c.toNat - 48) = _
  omega
theorem decV_lt : ∀ {l : List UInt8}, l.all isD = true → decV l < 10 ^ l.length
  | [], _ => by rw [decV_nil]; decide
  | c :: l, h => by
    rw [List.all_cons, Bool.and_eq_true] at h
    have ih := decV_lt h.2
    have := isD_rng h.1
    rw [decV_cons, List.length_cons, Nat.pow_succ]
    have hm : (c.toNat - 48) * 10 ^ l.length ≤ 9 * 10 ^ l.length := Nat.mul_le_mul_right _ (by omega)
    omega
theorem d48 : ∀ k : Fin 10, (UInt8.ofNat (48 + k.val)).toNat = 48 + k.val := by decide
theorem d48' {k : Nat} (h : k < 10) : (UInt8.ofNat (48 + k)).toNat = 48 + k := d48 ⟨k, h⟩
theorem isD_48 {k : Nat} (h : k < 10) : isD (UInt8.ofNat (48 + k)) = true := by
  unfold isD
  rw [d48' h]
  exact decide_eq_true (by omega)
theorem dec_small {n : Nat} (h : n < 10) : Lib.decDigits n = [UInt8.ofNat (48 + n)] := by rw [Lib.decDigits, dif_pos h]
theorem dec_big {n : Nat} (h : ¬ n < 10) : Lib.decDigits n = Lib.decDigits (n / 10) ++ [UInt8.ofNat (48 + n % 10)] := by rw [Lib.decDigits, dif_neg h]
theorem dec_all (n : Nat) : (Lib.decDigits n).all isD = true := by
  induction n using Nat.strongRecOn with
  | _ n ih =>
    by_cases h : n < 10
    · rw [dec_small h, List.all_cons, isD_48 h]
      rfl
    · rw [dec_big h, List.all_append, ih (n / 10) (by omega), List.all_cons, isD_48 (Nat.mod_lt _ (by decide))]
      rfl
theorem dec_val (n : Nat) : decV (Lib.decDigits n) = n := by
  induction n using Nat.strongRecOn with
  | _ n ih =>
    by_cases h : n < 10
    · rw [dec_small h, decV_one, d48' h]
      omega
    · rw [dec_big h, decV_append, ih (n / 10) (by omega), decV_one, d48' (Nat.mod_lt _ (by decide))]
      show n / 10 * 10 ^ 1 + _ = _
      omega
theorem dec_first {n : Nat} (h0 : n ≠ 0) : ∃ c l, Lib.decDigits n = c :: l ∧ c.toNat ≠ 48 := by
  induction n using Nat.strongRecOn with
  | _ n ih =>
    by_cases h : n < 10
    · refine ⟨_, [], dec_small h, ?_⟩
      rw [d48' h]
      omega
    · obtain ⟨c, l, e, hc⟩ := ih (n / 10) (by omega) (by omega)
      exact ⟨c, l ++ [UInt8.ofNat (48 + n % 10)], by rw [dec_big h, e]; rfl, hc⟩
theorem canD_of {c : UInt8} {l : List UInt8} (h : (c :: l).all isD = true) (k : l = [] ∨ c.toNat ≠ 48) : canD (c :: l) = true := by
  unfold canD
  rw [h, Bool.true_and]
  cases l with
  | nil => rfl
  | cons d l =>
    rcases k with k | k
    · cases k
    · exact decide_eq_true k
theorem canD_cons {l : List UInt8} (h : canD l = true) : ∃ c m, l = c :: m ∧ l.all isD = true ∧ (m = [] ∨ c.toNat ≠ 48) := by
  unfold canD at h
  rw [Bool.and_eq_true] at h
  obtain ⟨h1, h2⟩ := h
  match l, h2 with
  | [], h2 => cases h2
  | [c], _ => exact ⟨c, [], rfl, h1, .inl rfl⟩
  | c :: d :: l, h2 => exact ⟨c, d :: l, rfl, h1, .inr (of_decide_eq_true h2)⟩
theorem dec_can (n : Nat) : canD (Lib.decDigits n) = true := by
  by_cases h0 : n = 0
  · subst h0
    rw [dec_small (by decide)]
    decide
  · obtain ⟨c, l, e, hc⟩ := dec_first h0
    have := dec_all n
    rw [e] at this ⊢
    exact canD_of this (.inr hc)
theorem decV_pos {c : UInt8} {l : List UInt8} (h : isD c = true) (hc : c.toNat ≠ 48) : decV (c :: l) ≠ 0 := by
  have := isD_rng h
  rw [decV_cons]
  have h1 : 1 * 10 ^ l.length ≤ (c.toNat - 48) * 10 ^ l.length := Nat.mul_le_mul_right _ (by omega)
  have h2 : 0 < 10 ^ l.length := Nat.pow_pos (by decide)
  omega
theorem u8_back {c : UInt8} (h : isD c = true) : UInt8.ofNat (48 + (c.toNat - 48)) = c := by
  have := isD_rng h
  rw [show 48 + (c.toNat - 48) = c.toNat by omega, UInt8.ofNat_toNat]
theorem dec_back : ∀ (k : Nat) {l : List UInt8}, l.length = k → canD l = true → Lib.decDigits (decV l) = l
  | 0, l, hl, h => by
    obtain ⟨c, m, rfl, _⟩ := canD_cons h
    cases hl
  | k + 1, l, hl, h => by
    obtain ⟨c, m, rfl, ha, hc⟩ := canD_cons h
    rcases List.eq_nil_or_concat m with rfl | ⟨m', d, rfl⟩
    · rw [List.all_cons, Bool.and_eq_true] at ha
      have := isD_rng ha.1
      rw [decV_one, dec_small (by omega), u8_back ha.1]
    · have hd : c.toNat ≠ 48 := by
        rcases hc with hc | hc
        · simp at hc
        · exact hc
      rw [List.concat_eq_append] at ha hl ⊢
      have e : c :: (m' ++ [d]) = (c :: m') ++ [d] := rfl
      rw [e] at ha ⊢
      rw [List.all_append, Bool.and_eq_true, List.all_cons (a := d), Bool.and_eq_true] at ha
      obtain ⟨a1, a2, _⟩ := ha
      have a1' := a1
      rw [List.all_cons, Bool.and_eq_true] at a1'
      have hp := decV_pos (l := m') a1'.1 hd
      have hr := isD_rng a2
      have ih := dec_back k (l := c :: m') (by simpa using hl) (canD_of a1 (.inr hd))
      have ev : decV ((c :: m') ++ [d]) = decV (c :: m') * 10 + (d.toNat - 48) := by
        rw [decV_append, decV_one]
        rfl
      rw [ev, dec_big (by omega), show (decV (c :: m') * 10 + (d.toNat - 48)) / 10 = decV (c :: m') by omega, show (decV (c :: m') * 10 + (d.toNat - 48)) % 10 = d.toNat - 48 by omega, ih, u8_back a2]
theorem dec_back' {l : List UInt8} (h : canD l = true) : Lib.decDigits (decV l) = l := dec_back l.length rfl h
theorem dec_len : ∀ (k n : Nat), n < 10 ^ (k + 1) → (Lib.decDigits n).length ≤ k + 1
  | 0, n, h => by
    rw [dec_small (by simpa using h)]
    exact Nat.le_refl _
  | k + 1, n, h => by
    by_cases h0 : n < 10
    · rw [dec_small h0]
      show 1 ≤ _
      omega
    · have := dec_len k (n / 10) (by rw [Nat.pow_succ] at h; omega)
      rw [dec_big h0, List.length_append, List.length_singleton]
      omega
theorem dec_pos (n : Nat) : 0 < (Lib.decDigits n).length := by
  by_cases h0 : n < 10
  · rw [dec_small h0]
    exact Nat.zero_lt_one
  · rw [dec_big h0, List.length_append, List.length_singleton]
    omega
def pad9 (r : Nat) : List UInt8 := List.replicate (9 - (Lib.decDigits r).length) 48 ++ Lib.decDigits r
theorem decV_zeros : ∀ (k : Nat) (l : List UInt8), decV (List.replicate k 48 ++ l) = decV l
  | 0, l => rfl
  | k + 1, l => by
    rw [List.replicate_succ, List.cons_append, decV_cons, decV_zeros k l]
    show (48 - 48) * _ + _ = _
    omega
theorem pad9_len {r : Nat} (h : r < 1000000000) : (pad9 r).length = 9 := by
  have := dec_len 8 r (by simpa using h)
  unfold pad9
  rw [List.length_append, List.length_replicate]
  omega
theorem pad9_val (r : Nat) : decV (pad9 r) = r := by
  unfold pad9
  rw [decV_zeros, dec_val]
theorem pad9_all (r : Nat) : (pad9 r).all isD = true := by
  unfold pad9
  rw [List.all_append, dec_all, Bool.and_true, List.all_eq_true]
  intro x hx
  rw [(List.mem_replicate.1 hx).2]
  decide
theorem dec_split {q r : Nat} (h0 : q ≠ 0) (hr : r < 1000000000) : Lib.decDigits (q * 1000000000 + r) = Lib.decDigits q ++ pad9 r := by
  obtain ⟨c, l, e, hc⟩ := dec_first h0
  have ha : (Lib.decDigits q ++ pad9 r).all isD = true := by rw [List.all_append, dec_all, pad9_all]; rfl
  have hcan : canD (Lib.decDigits q ++ pad9 r) = true := by
    rw [e] at ha ⊢
    exact canD_of ha (.inr hc)
  have hv : decV (Lib.decDigits q ++ pad9 r) = q * 1000000000 + r := by
    rw [decV_append, dec_val, pad9_val, pad9_len hr]
  rw [← hv, dec_back' hcan]
theorem parse_M : ∀ (l : List UInt8) (acc : Nat), l.all isD = true → (acc + 1) * 10 ^ l.length ≤ 1000000000 → Lib.parseUintM (2 ^ 32 - 1) acc l = .ok (l.foldl (fun a c => a * 10 + (c.toNat - 48)) acc)
  | [], acc, _, _ => rfl
  | c :: l, acc, h, hb => by
    rw [List.all_cons, Bool.and_eq_true] at h
    have hr := isD_rng h.1
    have hp : 0 < 10 ^ l.length := Nat.pow_pos (by decide)
    rw [List.length_cons, Nat.pow_succ, Nat.mul_comm (10 ^ l.length) 10, ← Nat.mul_assoc] at hb
    have h1 : (acc + 1) * 10 * 1 ≤ (acc + 1) * 10 * 10 ^ l.length := Nat.mul_le_mul_left _ hp
    unfold Lib.parseUintM
    rw [if_pos hr, if_neg (by omega), if_neg (by omega)]
    refine parse_M l _ h.2 (Nat.le_trans (Nat.mul_le_mul_right _ ?_) hb)
    omega
theorem parse_9 {l : List UInt8} (h : l.all isD = true) (h0 : l ≠ []) (h9 : l.length ≤ 9) : Lib.parseUintB 32 l = .ok (decV l) := by
  unfold Lib.parseUintB
  rw [if_neg h0, parse_M l 0 h ?_]
  · rfl
  · have : 10 ^ l.length ≤ 10 ^ 9 := Nat.pow_le_pow_right (by decide) h9
    omega
theorem dw_nil {p : UInt8 → Bool} : ∀ {l : List UInt8}, l.dropWhile p = [] ↔ l.all p = true
  | [] => by simp
  | c :: l => by
    rw [List.dropWhile_cons, List.all_cons]
    cases hc : p c with
    | true => rw [if_pos rfl, dw_nil, Bool.true_and]
    | false => simp
theorem dw_head {p : UInt8 → Bool} {x : UInt8} {r : List UInt8} : ∀ {l : List UInt8}, l.dropWhile p = x :: r → p x = false
  | [], h => by simp at h
  | c :: l, h => by
    rw [List.dropWhile_cons] at h
    cases hc : p c with
    | true => rw [hc, if_pos rfl] at h; exact dw_head h
    | false => rw [hc] at h; simp only [Bool.false_eq_true, if_false, List.cons.injEq] at h; rw [← h.1]; exact hc
def digs10 : List UInt8 := [48, 49, 50, 51, 52, 53, 54, 55, 56, 57]
theorem digs_all : ∀ k : Fin 256, digs10.contains (UInt8.ofNat k.val) = isD (UInt8.ofNat k.val) := by decide +kernel
theorem digs_is (c : UInt8) : digs10.contains c = isD c := by
  have := digs_all ⟨c.toNat, c.toNat_lt⟩
  rwa [UInt8.ofNat_toNat] at this
theorem trim_digs (l : List UInt8) : Lib.trimS l digs10 = [] ↔ l.all isD = true := by
  have e : (fun c => digs10.contains c) = isD := funext digs_is
  unfold Lib.trimS Lib.trimLeftS Lib.trimRightS
  rw [e, dw_nil]
  constructor
  · intro h
    cases hd : l.reverse.dropWhile isD with
    | nil => rw [dw_nil, List.all_reverse] at hd; exact hd
    | cons x r =>
      have h1 := dw_head hd
      rw [hd, List.all_reverse, List.all_cons, h1] at h
      cases h
  · intro h
    rw [show l.reverse.dropWhile isD = [] from dw_nil.2 (by rw [List.all_reverse]; exact h)]
    rfl
end Go.Proofs.YtemlaompalbgiaaGreatDoor
namespace Go.Proofs.YtemlaompalbgiaaGreatDoor
open Go Go.RowKit
theorem name_pow10 : (Tryz.prog).globalNamed "internal/strconv.uint64pow10" = some 1 := by kernel_rfl
theorem mem_pow10 : (1, IntKind.u64, Lib.pow10Tab) ∈ globs := by
  unfold globs
  exact List.mem_append_right _ List.mem_cons_self
theorem tab_of {Z : Nat → Prop} {w : World} (h : Glob Z w) : Lib.TabIs Tryz.prog w "internal/strconv.uint64pow10" .u64 Lib.pow10Tab := by
  obtain ⟨_, t, z, h2⟩ := h _ mem_pow10
  unfold Lib.TabIs World.var?
  rw [name_pow10]
  show (match w.heap[1]? with
    | some (.cells cs _ _) => some cs
    | _ => none) = _
  rw [h2]
def dcB (n : Nat) : ByteArray := ⟨(Lib.decDigits n).toArray⟩
theorem dcB_size (n : Nat) : (dcB n).size = (Lib.decDigits n).length := by simp [dcB, ByteArray.size]
theorem dec_len64 {n : Nat} (h : n < 18446744073709551616) : (Lib.decDigits n).length ≤ 20 := dec_len 19 n (Nat.lt_of_lt_of_le h (by decide))
def sp_fmtU : Spec := { q := .un, ps := [.it .u64, .it .i64], rs := [.st], fresh := true, pre := fun _ x => some (@Eq Int x.2.1 10), post := fun _ x => ((), (dcB (Int.toNat x.1), ())) }
theorem fo_fmtU : FnOk Tryz.prog 198 sp_fmtU := by
  refine ⟨callFunc_enter Tryz.func198 (by kernel_rfl) rfl, fun Z w gv vs y x hZ hv hp _ _ => ?_⟩
  obtain ⟨n, b, u⟩ := x
  match vs, hv with
  | [v1, v2], ⟨h1, h2, _⟩ =>
    have hp : (b : Int) = 10 := hp
    subst hp
    obtain ⟨rfl, q0, q1⟩ := rv_int h1
    obtain ⟨rfl, _, _⟩ := rv_int h2
    have q0 : (0 : Int) ≤ n := q0
    have q1 : (n : Int) ≤ 18446744073709551615 := q1
    obtain ⟨k, rfl⟩ : ∃ k : Nat, n = (k : Int) := ⟨Int.toNat n, (Int.toNat_of_nonneg q0).symm⟩
    have q1 : k ≤ 18446744073709551615 := Int.ofNat_le.1 q1
    refine (fmtU_any k (by omega) w (tab_of hZ.gl)).mono fun e w' ⟨e1, e2⟩ => ?_
    subst e1
    exact told_new (S := sp_fmtU) (r := (dcB k, ())) (us := [_]) (bs := []) rfl rfl (.inl ⟨_, rfl, rfl⟩) hZ ⟨[], [], rfl, rq_str (base := w.heap.size) (x := dcB k) (by rw [dcB_size]; exact Nat.le_trans (dec_len64 (by omega)) (by decide)), rfl⟩ List.nodup_nil (fun g hg => by simp at hg) e2
def rpB (s : ByteArray) (n : Nat) : ByteArray := ⟨(Lib.repeatL s.data.toList n).toArray⟩
theorem rpB_size (s : ByteArray) (n : Nat) : (rpB s n).size = n * s.size := by
  show (Lib.repeatL s.data.toList n).toArray.size = _
  rw [List.size_toArray, Lib.repeatL_length]
  rfl
def sp_sRep : Spec := { q := .un, ps := [.st, .it .i64], rs := [.st], fresh := true, pre := fun _ x => some (@LE.le Int _ 0 x.2.1 ∧ @LE.le Int _ x.2.1 1000 ∧ ByteArray.size x.1 ≤ 1000), post := fun _ x => ((), (rpB x.1 (Int.toNat x.2.1), ())) }
theorem fo_sRep : FnOk Tryz.prog 199 sp_sRep := by
  refine ⟨callFunc_enter Tryz.func199 (by kernel_rfl) rfl, fun Z w gv vs y x hZ hv hp _ _ => ?_⟩
  obtain ⟨s, n, u⟩ := x
  match vs, hv with
  | [v1, v2], ⟨h1, h2, _⟩ =>
    obtain ⟨p0, p1, p2⟩ : (0 : Int) ≤ (n : Int) ∧ (n : Int) ≤ 1000 ∧ ByteArray.size s ≤ 1000 := hp
    obtain ⟨rfl, _⟩ := rv_str h1
    obtain ⟨rfl, _, _⟩ := rv_int h2
    obtain ⟨k, rfl⟩ : ∃ k : Nat, n = (k : Int) := ⟨Int.toNat n, (Int.toNat_of_nonneg p0).symm⟩
    have hk : k ≤ 1000 := Int.ofNat_le.1 p1
    have hm : s.size * k ≤ 1000 * 1000 := Nat.mul_le_mul p2 hk
    refine (Sh.strings_Repeat s k w (by omega) (Nat.le_trans hm (by decide))).mono fun e w' ⟨e1, e2⟩ => ?_
    subst e1
    exact told_new (S := sp_sRep) (r := (rpB s k, ())) (us := [_]) (bs := []) rfl rfl (.inl ⟨_, rfl, rfl⟩) hZ ⟨[], [], rfl, rq_str (base := w.heap.size) (x := rpB s k) (by rw [rpB_size, Nat.mul_comm]; exact Nat.le_trans hm (by decide)), rfl⟩ List.nodup_nil (fun g hg => by simp at hg) e2
def jnB (l : List ByteArray) (p : ByteArray) : ByteArray := ⟨(Lib.join (l.map (·.data.toList)) p.data.toList).toArray⟩
theorem jnB_size (l : List ByteArray) (p : ByteArray) : (jnB l p).size = (Lib.join (l.map (·.data.toList)) p.data.toList).length := by simp [jnB, ByteArray.size]
def sp_sJoin : Spec := { q := .un, ps := [.sl .st, .st], rs := [.st], fresh := true, pre := fun _ x => some (List.length x.1 ≤ 140737488355328 ∧ (jnB x.1 x.2.1).size ≤ 140737488355328), post := fun _ x => ((), (jnB x.1 x.2.1, ())) }
theorem fo_sJoin : FnOk Tryz.prog 191 sp_sJoin := by
  refine ⟨callFunc_enter Tryz.func191 (by kernel_rfl) rfl, fun Z w gv vs y x hZ hv hp _ _ => ?_⟩
  obtain ⟨l, p, u⟩ := x
  match vs, hv with
  | [v1, v2], ⟨h1, h2, _⟩ =>
    obtain ⟨p1, p2⟩ : List.length l ≤ 140737488355328 ∧ (jnB l p).size ≤ 140737488355328 := hp
    obtain ⟨rfl, s2⟩ := rv_str h2
    unfold RV at h1
    rw [if_neg (by simp [Ty.agg]), RT] at h1
    obtain ⟨A, c, e1, h3, h4, h5, h6⟩ := h1
    rw [List.singleton_inj] at e1
    subst e1
    have fin : Calls Tryz.prog 191 #[.slice A l.length c, .string p] w fun e w' => e = .returned (.string (jnB l p)) ∧ Ext w w' := by
      rcases Nat.eq_zero_or_pos l.length with h0 | h0
      · have hl : l = [] := List.eq_nil_of_length_eq_zero h0
        subst hl
        refine (Sh.strings_Join_none A c p w).mono fun e w' ⟨e1, e2⟩ => ?_
        subst e1 e2
        exact ⟨rfl, Ext.refl _⟩
      · obtain ⟨g, o, us, rfl, z1, _, _⟩ := h6 0 h0
        refine (Sh.strings_Join g o c l p w (fun j x hj => ?_) (hZ.lt g z1) p1 h3 (by rw [← jnB_size]; exact p2)).mono fun e w' ⟨e1, e2⟩ => ⟨e1, e2⟩
        have hjl := (List.getElem?_eq_some_iff.1 hj).1
        obtain ⟨g', o', us', e2, _, k2, k3⟩ := h6 j hjl
        cases e2
        rw [RT] at k2
        obtain ⟨k2, _⟩ := k2
        subst k2
        have := k3 0 _ rfl
        have e4 : o + (j * Ty.st.size + 0) = o + j := by show o + (j * 1 + 0) = _; omega
        rw [e4] at this
        rw [this]
        rw [List.getElem?_eq_getElem hjl] at hj
        cases hj
        rfl
    refine fin.mono fun e w' ⟨e1, e2⟩ => ?_
    subst e1
    exact told_new (S := sp_sJoin) (r := (jnB l p, ())) (us := [_]) (bs := []) rfl rfl (.inl ⟨_, rfl, rfl⟩) hZ ⟨[], [], rfl, rq_str (base := w.heap.size) (x := jnB l p) (Nat.le_trans p2 (by decide)), rfl⟩ List.nodup_nil (fun g hg => by simp at hg) e2
def trB (s : ByteArray) : ByteArray := ⟨(Lib.trimS s.data.toList digs10).toArray⟩
theorem dw_le (p : UInt8 → Bool) : ∀ l : List UInt8, (l.dropWhile p).length ≤ l.length
  | [] => Nat.le_refl _
  | c :: l => by
    rw [List.dropWhile_cons]
    split
    · exact Nat.le_trans (dw_le p l) (Nat.le_succ _)
    · exact Nat.le_refl _
theorem trB_size (s : ByteArray) : (trB s).size ≤ s.size := by
  show (Lib.trimS s.data.toList digs10).toArray.size ≤ s.data.size
  rw [List.size_toArray]
  unfold Lib.trimS Lib.trimLeftS Lib.trimRightS
  refine Nat.le_trans (dw_le _ _) ?_
  rw [List.length_reverse]
  refine Nat.le_trans (dw_le _ _) ?_
  rw [List.length_reverse]
  exact Nat.le_refl _
def sp_sTrim : Spec := { q := .un, ps := [.st, .st], rs := [.st], fresh := true, pre := fun _ x => some (x.2.1 = dig10), post := fun _ x => ((), (trB x.1, ())) }
theorem fo_sTrim : FnOk Tryz.prog 206 sp_sTrim := by
  refine ⟨callFunc_enter Tryz.func206 (by kernel_rfl) rfl, fun Z w gv vs y x hZ hv hp _ _ => ?_⟩
  obtain ⟨s, p, u⟩ := x
  match vs, hv with
  | [v1, v2], ⟨h1, h2, _⟩ =>
    have hp : p = dig10 := hp
    subst hp
    obtain ⟨rfl, s1⟩ := rv_str h1
    obtain ⟨rfl, s2⟩ := rv_str h2
    refine (Sh.strings_Trim_set s dig10 w s1 (by decide) (fun j b hb => (show ∀ b ∈ dig10.data.toList, b.toNat < 128 by decide) b (List.mem_of_getElem? hb))).mono fun e w' ⟨e1, e2⟩ => ?_
    subst e1
    exact told_new (S := sp_sTrim) (r := (trB s, ())) (us := [_]) (bs := []) rfl rfl (.inl ⟨_, rfl, rfl⟩) hZ ⟨[], [], rfl, rq_str (base := w.heap.size) (x := trB s) (Nat.le_trans (trB_size s) s1), rfl⟩ List.nodup_nil (fun g hg => by simp at hg) e2
def sp_aCheck : Spec := { q := .un, ps := [tW32], rs := [.it .i64], fresh := true, pre := fun _ x => some (nrm x.1 ∧ x.1.length ≤ 2048), post := fun _ x => ((), (0, ())) }
theorem fo_aCheck : FnOk Tryz.prog 138 sp_aCheck := by
  refine ⟨callFunc_enter Tryz.func138 (by kernel_rfl) rfl, fun Z w gv vs y x hZ hv hp _ _ => ?_⟩
  obtain ⟨xs, u⟩ := x
  match vs, hv with
  | [u], ⟨h1, _⟩ =>
    obtain ⟨p1, p2⟩ : nrm xs ∧ xs.length ≤ 2048 := hp
    obtain ⟨n, rfl⟩ := nrm_ex p1
    obtain ⟨A, c, rfl, k1, _⟩ := rv_wd h1
    refine (check_any A _ c w k1).mono fun e w' ⟨e1, e2⟩ => ?_
    subst e1 e2
    rw [chk_wd n (by omega)]
    exact told_new (S := sp_aCheck) (r := ((0 : Int), ())) (us := [_]) (bs := []) rfl rfl (.inl ⟨_, rfl, rfl⟩) hZ ⟨[], [], rfl, rq_err (base := w.heap.size) Er.zero, rfl⟩ List.nodup_nil (fun g hg => by simp at hg) (Ext.refl _)
theorem rev_ok : RevOk Tryz.prog 200 := by
  refine ⟨callFunc_enter Tryz.func200 (by kernel_rfl) rfl, fun g c xs w h hm => ?_⟩
  have cells : ∀ i, i < xs.length → w.cell? ⟨g, 0 + i, none⟩ = some (.string (xs.getD i ByteArray.empty)) := fun i hi => by
    rw [Nat.zero_add]
    have e0 : (⟨g, i, none⟩ : Addr) = (⟨g, 0, none⟩ : Addr).add i := by unfold Addr.add; split <;> simp_all
    rw [World.ownsRow.cellAt h i (by simpa using hi)]
    rw [List.getElem?_map, List.getElem?_eq_getElem hi, List.getD_eq_getElem?_getD, List.getElem?_eq_getElem hi]
    rfl
  refine (Sh.slices_Reverse_string_cells g 0 xs.length c (fun i => xs.getD i ByteArray.empty) w hm cells (fun j _ => by rw [Nat.zero_add]; exact World.ownsRow.frozenAt h j)).mono ?_
  rintro e w' ⟨rfl, q, rfl⟩
  have h' : (w.drewN q).ownsRow 0 9 1 (.slice (some ⟨g, 0, none⟩) xs.length c) xs.length (xs.map Value.string) := h
  have e1 : (Lib.strsOf (fun i => xs.getD i ByteArray.empty) xs.length).reverse.map encStr = xs.reverse.map Value.string := by
    rw [List.map_reverse, List.map_reverse]
    congr 1
    refine List.ext_getElem? fun i => ?_
    unfold Lib.strsOf
    rw [List.getElem?_map, List.getElem?_map, List.getElem?_map]
    by_cases hi : i < xs.length
    · rw [List.getElem?_range hi, List.getElem?_eq_getElem hi]
      show some (encStr (xs.getD i ByteArray.empty).data.toList) = some (Value.string xs[i])
      rw [List.getD_eq_getElem?_getD, List.getElem?_eq_getElem hi]
      unfold encStr
      rfl
    · rw [List.getElem?_eq_none (by simpa using hi), List.getElem?_eq_none (by omega)]
      rfl
  rw [e1]
  have hl : (xs.reverse.map Value.string).length = xs.length := by simp
  obtain ⟨k1, k2⟩ := own_cells (xs.reverse.map Value.string) 0 _ (w.drewN q) h' (by rw [hl]; omega)
  refine ⟨rfl, ?_, grown_trans ((Ext.refl w).drewN q |>.by_ _) k2⟩
  rw [List.take_zero, List.nil_append, Nat.zero_add, hl, List.drop_of_length_le (by simp), List.append_nil] at k1
  exact k1
def smallF_ : RowF := { ks := [.u32], pre := fun l z => nrm l ∧ l.length ≤ 8192 ∧ z = [1000000000], f := fun l _ => (wd (toN l / 1000000000), ((toN l % 1000000000 : Nat) : Int)), k := some .u32 }
theorem row_small : RowOk Tryz.prog 197 smallF_ := by
  refine ⟨callFunc_enter Tryz.func197 (by kernel_rfl) rfl, fun base A c l zs w hb h hw hl hp => ?_⟩
  obtain ⟨p1, p2, p3⟩ : nrm l ∧ l.length ≤ 8192 ∧ zs = [1000000000] := hp
  subst p3
  obtain ⟨n, rfl⟩ := nrm_ex p1
  refine (small_any A n 1000000000 c base w h (by omega) (by omega) (by omega) (n / 1000000000) (n % 1000000000) rfl rfl).mono fun e w' ⟨e1, e2, e3⟩ => ?_
  subst e1
  have m := Nat.mod_lt n (show 1000000000 > 0 by decide)
  refine ⟨A, c, ?_, ?_, ?_, fun a ha => .inl (by rw [ha]; rfl), e3, fun k hk => ?_⟩
  · show Ending.returned (.tuple #[.slice A (wd (n / 1000000000)).length c, .int .u32 ((n % 1000000000 : Nat) : Int)]) = Ending.returned (.tuple #[.slice A (wd (toN (wd n) / 1000000000)).length c, .int .u32 ((toN (wd n) % 1000000000 : Nat) : Int)])
    rw [toN_wd]
  · show Own w' base A c (wd (toN (wd n) / 1000000000))
    rw [toN_wd]
    exact e2
  · exact wf_wd _
  · cases hk
    show IntKind.u32.min ≤ ((toN (wd n) % 1000000000 : Nat) : Int) ∧ ((toN (wd n) % 1000000000 : Nat) : Int) ≤ IntKind.u32.max
    rw [toN_wd]
    exact ⟨Int.le_trans (by decide) (Int.natCast_nonneg _), Int.le_trans (show ((n % 1000000000 : Nat) : Int) ≤ 1000000000 by omega) (by decide)⟩
def growF_ : RowF := { ks := [.u32, .u32], pre := fun l z => nrm l ∧ l.length ≤ 8192 ∧ ∃ x : Int, z = [1000000000, x] ∧ 0 ≤ x ∧ x < 4294967296, f := fun l z => (wd (toN l * 1000000000 + (z.getD 1 0).toNat), 0), k := none }
theorem row_grow : RowOk Tryz.prog 208 growF_ := by
  refine ⟨callFunc_enter Tryz.func208 (by kernel_rfl) rfl, fun base A c l zs w hb h hw hl hp => ?_⟩
  obtain ⟨p1, p2, x, p3, p4, p5⟩ : nrm l ∧ l.length ≤ 8192 ∧ ∃ x : Int, zs = [1000000000, x] ∧ 0 ≤ x ∧ x < 4294967296 := hp
  subst p3
  obtain ⟨n, rfl⟩ := nrm_ex p1
  obtain ⟨k, rfl⟩ : ∃ k : Nat, x = (k : Int) := ⟨x.toNat, (Int.toNat_of_nonneg p4).symm⟩
  refine (grow_any A n 1000000000 k c base w h hb (by omega) (by omega) (by omega) p2).mono fun e w' ⟨A', c', e1, e2, e3, e4⟩ => ?_
  subst e1
  have ev : wd (toN (wd n) * 1000000000 + ([1000000000, (k : Int)].getD 1 0).toNat) = wd (n * 1000000000 + k) := by
    rw [toN_wd]
    rfl
  refine ⟨A', c', ?_, ?_, wf_wd _, e3, e4, fun k hk => by cases hk⟩
  · show Ending.returned (.slice A' (wd (n * 1000000000 + k)).length c') = Ending.returned (.slice A' (wd (toN (wd n) * 1000000000 + ([1000000000, (k : Int)].getD 1 0).toNat)).length c')
    rw [ev]
  · show Own w' base A' c' (wd (toN (wd n) * 1000000000 + ([1000000000, (k : Int)].getD 1 0).toNat))
    rw [ev]
    exact e2
def toldF_ : RowF := { ks := [], pre := fun l _ => nrm l ∧ l.length ≤ 8192, f := fun l _ => (l, 0), k := some .i64 }
theorem row_told : RowOk Tryz.prog 209 toldF_ := by
  refine ⟨callFunc_enter Tryz.func209 (by kernel_rfl) rfl, fun base A c l zs w hb h hw hl hp => ?_⟩
  obtain ⟨p1, p2⟩ : nrm l ∧ l.length ≤ 8192 := hp
  obtain rfl : zs = [] := List.eq_nil_of_length_eq_zero hl
  obtain ⟨n, rfl⟩ := nrm_ex p1
  refine (told_ok A (wd n) c base _ w h rfl (wf_wd n) n (val_wd n) p2).mono fun e w' ⟨e1, e2, e3⟩ => ?_
  subst e1 e3
  exact ⟨A, c, rfl, e2, wf_wd n, fun a ha => .inl (by rw [ha]; rfl), World.grownBy.refl w _, fun k hk => by cases hk; exact ⟨show IntKind.i64.min ≤ 0 by decide, show (0 : Int) ≤ IntKind.i64.max by decide⟩⟩
def p_pu : Prim := fun xs _ n => match xs with
  | [.c (.sc (.string s)), .c (.sc (.int .i64 b)), .c (.sc (.int .i64 z))] => some (some (s.data.toList.all isD = true ∧ 0 < s.size ∧ s.size ≤ 9 ∧ b = 10 ∧ z = 32), .g Nat (decV s.data.toList) fun r => ⟨.tu [(false, [.sc (.int .u64 (r : Int))]), (false, [.bad])], [], 0⟩)
  | _ => none
theorem pr_pu : PrimOk Tryz.prog 207 p_pu := by
  refine ⟨callFunc_enter Tryz.func207 (by kernel_rfl) rfl, fun gp Z0 w0 N D c T O O' a w xs vs n cd G S hO hl hv h hfr hc => ?_⟩
  unfold p_pu at h
  split at h
  · rename_i s b z
    cases h
    obtain ⟨q1, q2, q3, rfl, rfl⟩ : s.data.toList.all isD = true ∧ 0 < s.size ∧ s.size ≤ 9 ∧ b = 10 ∧ z = 32 := hc
    match vs, hl with
    | ⟨[v0, v1, v2]⟩, _ =>
      obtain ⟨rfl, _⟩ := hv 0 v0 _ rfl rfl
      obtain ⟨rfl, _⟩ := hv 1 v1 _ rfl rfl
      obtain ⟨rfl, _⟩ := hv 2 v2 _ rfl rfl
      have hln : s.data.toList.length = s.size := by simp
      have hlt := decV_lt q1
      have h9 : 10 ^ s.data.toList.length ≤ 10 ^ 9 := Nat.pow_le_pow_right (by decide) (by omega)
      have hp := parse_9 q1 (fun e => by rw [e] at hln; simp at hln; omega) (by omega)
      refine (Sh.strconv_ParseUint_10_at32_ok s (by omega) _ hp w).mono fun e w' ⟨e1, e2⟩ => ?_
      subst e1
      have hx : Ext w w' := bw_ext e2
      have st : Stay c.Z w w' := fun k hz => Below.block hx k (S.zl k hz)
      refine ⟨_, c, rfl, fun d hd => ?_⟩
      refine S.step hd (Cf.Le.refl c) st ⟨_, rfl, rfl, fun i v p e1 e2 => ?_⟩ (fun k o q1 _ q3 f b q4 q5 => Below.block hx b ((S.obj k o q1).lt q3 f b q4 q5)) (fun _ _ h => by cases h) (fun _ _ _ _ h => by cases h) (fun _ _ _ _ _ _ _ h => by cases h) (fun k hk => ⟨Nat.lt_of_lt_of_le (S.zl k hk) (Below.size hx), S.zz k hk, fun i o e h1 _ h2 h3 => fun hh => S.zo i o e k h1 h2 h3 hh hk⟩) (fun i e h => .inl (S.dom i e h)) (grown_ext S.gr hx) (fun _ _ _ _ h => by cases h)
      match i, e1, e2 with
      | 0, e1, e2 =>
        cases e1
        cases e2
        unfold RP
        rw [if_neg (by simp)]
        exact ⟨_, rfl, rfl, show IntKind.u64.min ≤ ((decV s.data.toList : Nat) : Int) from Int.le_trans (by decide) (Int.natCast_nonneg _), show ((decV s.data.toList : Nat) : Int) ≤ IntKind.u64.max from Int.le_trans (show ((decV s.data.toList : Nat) : Int) ≤ 1000000000 by omega) (by decide)⟩
      | 1, e1, e2 =>
        cases e1
        cases e2
        unfold RP
        rw [if_neg (by simp)]
        exact ⟨_, rfl, rfl⟩
      | i + 2, e1, _ => simp at e1
  · cases h
def sp_clone : Spec := { q := .un, ps := [tW32], rs := [tW32], fresh := true, pre := fun _ x => some (x.1.length ≤ 35184372088832), post := fun _ x => ((), (x.1, ())) }
theorem fo_clone : FnOk Tryz.prog 196 sp_clone := by
  refine ⟨callFunc_enter Tryz.func196 (by kernel_rfl) rfl, fun Z w gv vs y x hZ hv hp _ _ => ?_⟩
  obtain ⟨xs, u⟩ := x
  match vs, hv with
  | [v], ⟨h1, _⟩ =>
    obtain ⟨A, c, rfl, k1, kw⟩ := rv_wd h1
    refine (clone_any A xs c w k1 hp).mono fun e w' ⟨A', c', e1, e2, e3⟩ => ?_
    subst e1
    exact told_new (S := sp_clone) (r := (xs, ())) (us := [.slice A' xs.length c']) (bs := blkA A') rfl rfl (.inl ⟨_, rfl, rfl⟩) hZ ⟨_, [], (List.append_nil _).symm, rq_own e2 kw, rfl⟩ (blkA1_nodup A') (blkA1_base e2) e3
def tysT : List (Nat × (Ty × Nat)) := (93, (.sl .st, 9)) :: tysS
theorem tysT_ok : tyB Tryz.prog tysT tysT = true := by kernel_rfl
def jnP (P : List ByteArray) : List UInt8 := (P.reverse.map (·.data.toList)).flatten
def priI (N m : Nat) (P : List ByteArray) : Prop := m ≤ N ∧ ((m ≠ 0 ∧ (jnP P).length = 9 * P.length ∧ Lib.decDigits N = Lib.decDigits m ++ jnP P) ∨ (m = 0 ∧ P ≠ [] ∧ P.length ≤ 3000 ∧ Lib.decDigits N = jnP P))
theorem jnP_add (P : List ByteArray) (s : ByteArray) : jnP (P ++ [s]) = s.data.toList ++ jnP P := by
  unfold jnP
  rw [List.reverse_append]
  rfl
theorem join_none : ∀ l : List (List UInt8), Lib.join l [] = l.flatten
  | [] => rfl
  | x :: r => by
    rw [Lib.join_cons]
    unfold Lib.joinTail
    rw [show (fun y : List UInt8 => [] ++ y) = id from rfl, List.map_id]
    rfl
theorem jn_rev (P : List ByteArray) : jnB P.reverse (⟨#[]⟩ : ByteArray) = ⟨(jnP P).toArray⟩ := by
  unfold jnB jnP
  rw [show (⟨#[]⟩ : ByteArray).data.toList = [] from rfl, join_none]
theorem dec_words : ∀ (k N : Nat), (wd N).length ≤ k + 1 → (Lib.decDigits N).length ≤ 10 * (k + 1) := fun k N h => by
  have h1 := wd_lt_pw N
  have h2 : N < 4294967296 ^ (k + 1) := by
    have h3 := pw_mono h
    have h4 : pw (k + 1) = ((4294967296 ^ (k + 1) : Nat) : Int) := by unfold pw; rw [Int.natCast_pow]; rfl
    omega
  have h5 : 4294967296 ^ (k + 1) ≤ (10 ^ 10) ^ (k + 1) := Nat.pow_le_pow_left (by decide) _
  rw [← Nat.pow_mul] at h5
  exact dec_len (10 * (k + 1) - 1) N (by rw [show 10 * (k + 1) - 1 + 1 = 10 * (k + 1) by omega]; omega)
theorem priI_start {N : Nat} (h : N ≠ 0) : priI N N [] := ⟨Nat.le_refl _, .inl ⟨h, rfl, (List.append_nil _).symm⟩⟩
theorem rep_48 : ∀ k, Lib.repeatL [48] k = List.replicate k 48
  | 0 => rfl
  | k + 1 => by
    rw [Lib.repeatL, rep_48 k]
    rfl
theorem ba_app (a b : ByteArray) : (a ++ b).data.toList = a.data.toList ++ b.data.toList := by
  rw [ByteArray.data_append, Array.toList_append]
theorem dcB_list (n : Nat) : (dcB n).data.toList = Lib.decDigits n := rfl
theorem pad_piece (r : Nat) : (rpB (⟨#[48]⟩ : ByteArray) (9 - (dcB r).size) ++ dcB r).data.toList = pad9 r := by
  rw [ba_app, dcB_list]
  unfold pad9
  rw [dcB_size]
  congr 1
  exact rep_48 _
theorem dc_9 {r : Nat} (h : r < 1000000000) : 1 ≤ (dcB r).size ∧ (dcB r).size ≤ 9 := by
  rw [dcB_size]
  exact ⟨dec_pos r, dec_len 8 r (by simpa using h)⟩
theorem lenW_pos {n : Nat} (h : decide (lenM 0 (Ty.it IntKind.u32) (wd n) > (0 : Int)) = true) : n ≠ 0 := fun e => by
  have h := of_decide_eq_true h
  rw [e, wd_zero] at h
  exact absurd h (by decide)
theorem lenW_zero {n : Nat} (h : decide (lenM 0 (Ty.it IntKind.u32) (wd n) > (0 : Int)) = false) : n = 0 := by
  have h := of_decide_eq_false h
  have h : ¬ ((wd n).length : Int) > 0 := h
  exact wd_len_zero.1 (by omega)
theorem small_f (m : Nat) : smallF_.f (wd m) [1000000000] = (wd (m / 1000000000), ((m % 1000000000 : Nat) : Int)) := by
  show (wd (toN (wd m) / 1000000000), ((toN (wd m) % 1000000000 : Nat) : Int)) = _
  rw [toN_wd]
theorem wrapU {n : Nat} (h : n < 18446744073709551616) : IntKind.u64.wrap (n : Int) = n := by
  rw [IntKind.wrap_u64]
  omega
theorem sub9 {s : Nat} (h : 1 ≤ s ∧ s ≤ 9) : ((-9223372036854775808 : Int) ≤ 9 - (s : Int) ∧ 9 - (s : Int) ≤ 9223372036854775807) ∧ ((0 : Int) ≤ 9 - (s : Int) ∧ 9 - (s : Int) ≤ 1000 ∧ 1 ≤ 1000) ∧ (9 - (s : Int)).toNat = 9 - s := by omega
noncomputable def sp_aPrintG : Spec := { q := .un, ps := [tW32], rs := [.st, .it .i64], fresh := true, pre := fun _ x => some (nrm x.1 ∧ x.1.length ≤ 2048), post := fun _ x => ((), (dcB (toN x.1), 0, ())) }
noncomputable def iv_aPrintG (y : El sp_aPrintG.q) (x : Els sp_aPrintG.ps) : Nat → Option Inv := fun k => if k = 0 then some { X := Nat × List ByteArray, tm := fun _ => [(5, .c (.ow 1)), (6, .c (.ow 2))], ob := fun s => [(1, .ty 9 .st s.2 0), (2, .ty 91 (.it .u32) (wd s.1) 0)], n := 3, I := fun s => priI (toN x.1) s.1 s.2, μ := fun s => s.1 } else none
noncomputable abbrev c_aPrintG : Cfg := { cfgS (Tryz.f121).ntmps false [(138, sp_aCheck.prim), (196, sp_clone.prim), (197, p_row smallF_), (198, sp_fmtU.prim), (199, sp_sRep.prim), (200, p_rev), (191, sp_sJoin.prim)] with ty := tysT }
def F_aPrintG (y : El sp_aPrintG.q) (x : Els sp_aPrintG.ps) : Prop :=
  (x.1 = wd (toN x.1) ∧ List.length x.1 ≤ (2048 : Nat)) ∧ ∀ (r : Ro [Ty.it IntKind.i64]), r = ((), (0 : El (Ty.it IntKind.i64)), ()) → ((r.2.1 != (0 : Int)) = true → ((⟨#[]⟩ : ByteArray), r.2) = (dcB (toN x.1), (0 : El (Ty.it IntKind.i64)), ())) ∧ ((r.2.1 != (0 : Int)) = false → (((x.1.length : Int) == (0 : Int)) = true → ((⟨#[(48 : UInt8)]⟩ : ByteArray), (0 : Int), ()) = (dcB (toN x.1), (0 : El (Ty.it IntKind.i64)), ())) ∧ (((x.1.length : Int) == (0 : Int)) = false → List.length x.1 ≤ (35184372088832 : Nat) ∧ ∀ (r : Ro [tW32]), r = ((), x) → (∃ (x_1 : Nat × List ByteArray), x_1.2 = [] ∧ wd x_1.1 = r.2.1 ∧ x_1.1 ≤ toN x.1 ∧ (x_1.1 ≠ (0 : Nat) ∧ (jnP x_1.2).length = (9 : Nat) * x_1.2.length ∧ Lib.decDigits (toN x.1) = Lib.decDigits x_1.1 ++ jnP x_1.2 ∨ x_1.1 = (0 : Nat) ∧ x_1.2 ≠ [] ∧ x_1.2.length ≤ (3000 : Nat) ∧ Lib.decDigits (toN x.1) = jnP x_1.2)) ∧ ∀ (x_1 : Nat × List ByteArray), x_1.1 ≤ toN x.1 ∧ (x_1.1 ≠ (0 : Nat) ∧ (jnP x_1.2).length = (9 : Nat) * x_1.2.length ∧ Lib.decDigits (toN x.1) = Lib.decDigits x_1.1 ++ jnP x_1.2 ∨ x_1.1 = (0 : Nat) ∧ x_1.2 ≠ [] ∧ x_1.2.length ≤ (3000 : Nat) ∧ Lib.decDigits (toN x.1) = jnP x_1.2) → (decide (lenM (0 : Nat) (Ty.it IntKind.u32) (wd x_1.1) > (0 : Int)) = true → (wd x_1.1 = wd (toN (wd x_1.1)) ∧ (wd x_1.1).length ≤ (8192 : Nat) ∧ [(1000000000 : Int)] = [(1000000000 : Int)]) ∧ ∀ (r : List Int × Int), r = smallF_.f (wd x_1.1) [(1000000000 : Int)] → (10 : Int) = (10 : Int) ∧ ∀ (r_1 : Ro [Ty.st]), r_1 = ((), dcB (IntKind.u64.wrap r.2).toNat, ()) → (decide (lenM (0 : Nat) (Ty.it IntKind.u32) r.1 > (0 : Int)) = true → ((-9223372036854775808 : Int) ≤ (9 : Int) - (↑(ByteArray.size r_1.2.1) : Int) ∧ (9 : Int) - (↑(ByteArray.size r_1.2.1) : Int) ≤ (9223372036854775807 : Int)) ∧ ((0 : Int) ≤ (9 : Int) - (↑(ByteArray.size r_1.2.1) : Int) ∧ (9 : Int) - (↑(ByteArray.size r_1.2.1) : Int) ≤ (1000 : Int) ∧ (⟨#[(48 : UInt8)]⟩ : ByteArray).size ≤ (1000 : Nat)) ∧ ∀ (r_2 : Ro [Ty.st]), r_2 = ((), rpB (⟨#[(48 : UInt8)]⟩ : ByteArray) ((9 : Int) - (↑(ByteArray.size r_1.2.1) : Int)).toNat, ()) → ByteArray.size r_2.2.1 + ByteArray.size r_1.2.1 ≤ (9223372036854775807 : Nat) ∧ x_1.2.length + [r_2.2.1 ++ r_1.2.1].length ≤ (1073741824 : Nat) ∧ ∃ (x' : Nat × List ByteArray), x'.2 = x_1.2 ++ [r_2.2.1 ++ r_1.2.1] ∧ wd x'.1 = r.1 ∧ (x'.1 ≤ toN x.1 ∧ (x'.1 ≠ (0 : Nat) ∧ (jnP x'.2).length = (9 : Nat) * x'.2.length ∧ Lib.decDigits (toN x.1) = Lib.decDigits x'.1 ++ jnP x'.2 ∨ x'.1 = (0 : Nat) ∧ x'.2 ≠ [] ∧ x'.2.length ≤ (3000 : Nat) ∧ Lib.decDigits (toN x.1) = jnP x'.2)) ∧ x'.1 < x_1.1) ∧ (decide (lenM (0 : Nat) (Ty.it IntKind.u32) r.1 > (0 : Int)) = false → x_1.2.length + [r_1.2.1].length ≤ (1073741824 : Nat) ∧ ∃ (x' : Nat × List ByteArray), x'.2 = x_1.2 ++ [r_1.2.1] ∧ wd x'.1 = r.1 ∧ (x'.1 ≤ toN x.1 ∧ (x'.1 ≠ (0 : Nat) ∧ (jnP x'.2).length = (9 : Nat) * x'.2.length ∧ Lib.decDigits (toN x.1) = Lib.decDigits x'.1 ++ jnP x'.2 ∨ x'.1 = (0 : Nat) ∧ x'.2 ≠ [] ∧ x'.2.length ≤ (3000 : Nat) ∧ Lib.decDigits (toN x.1) = jnP x'.2)) ∧ x'.1 < x_1.1)) ∧ (decide (lenM (0 : Nat) (Ty.it IntKind.u32) (wd x_1.1) > (0 : Int)) = false → x_1.2 ≠ [] ∧ (x_1.2.reverse.length ≤ (140737488355328 : Nat) ∧ (jnB x_1.2.reverse (⟨#[]⟩ : ByteArray)).size ≤ (140737488355328 : Nat)) ∧ ∀ (r : Ro [Ty.st]), r = ((), jnB x_1.2.reverse (⟨#[]⟩ : ByteArray), ()) → (r.2.1, (0 : Int), ()) = (dcB (toN x.1), (0 : El (Ty.it IntKind.i64)), ()))))
theorem w_aPrintG (y : El sp_aPrintG.q) (x : Els sp_aPrintG.ps) : aW c_aPrintG (iv_aPrintG y x) Tryz.f121 sp_aPrintG y x = F_aPrintG y x := by kernel_rfl
theorem m_aPrintG (y : El (.un)) (x : Els [tW32]) (h2 : wfE (.un) y) (h3 : wfEs [tW32] x) (h4 : nrm x.1 ∧ x.1.length ≤ 2048) : F_aPrintG y x := by
  unfold F_aPrintG
  obtain ⟨n0, n1⟩ : nrm x.1 ∧ x.1.length ≤ 2048 := h4
  obtain ⟨N, hN⟩ : ∃ N, N = toN x.1 := ⟨_, rfl⟩
  have hw : x.1 = wd N := by rw [hN]; exact n0
  have hd : (Lib.decDigits N).length ≤ 20480 := dec_words 2047 N (by rw [← hw]; exact n1)
  rw [← hN]
  refine ⟨⟨hw, n1⟩, ?_⟩
  rintro _ rfl
  refine ⟨fun h => Bool.noConfusion (show false = true from h), fun _ => ⟨fun h => ?_, fun h => ⟨Nat.le_trans n1 (by decide), ?_⟩⟩⟩
  · have h : ((x.1.length : Nat) : Int) = 0 := eqT h
    rw [hw] at h
    have h0 : N = 0 := wd_len_zero.1 (by omega)
    rw [h0]
    refine congrArg (fun b => (b, (0 : Int), ())) ?_
    unfold dcB
    rw [dec_small (by decide)]
    rfl
  rintro _ rfl
  have hn0 : N ≠ 0 := fun e => by
    have h : ((x.1.length : Nat) : Int) ≠ 0 := eqF h
    rw [hw, e, wd_zero] at h
    exact h rfl
  refine ⟨⟨(N, []), rfl, hw.symm, priI_start hn0⟩, ?_⟩
  rintro ⟨m, P⟩ ⟨hm, hI⟩
  dsimp only at hm hI ⊢
  have hP : 9 * P.length ≤ 20480 ∨ P.length ≤ 3000 := by
    rcases hI with ⟨_, h1, h2⟩ | ⟨_, _, h1, _⟩
    · have := congrArg List.length h2
      rw [List.length_append, h1] at this
      omega
    · exact .inr h1
  refine ⟨fun hp => ?_, fun hp => ?_⟩
  · have m0 := lenW_pos hp
    obtain ⟨_, i1, i2⟩ : m ≠ 0 ∧ (jnP P).length = 9 * P.length ∧ Lib.decDigits N = Lib.decDigits m ++ jnP P := by
      rcases hI with h | ⟨h, _⟩
      · exact h
      · exact absurd h m0
    have wl : (wd m).length ≤ 8192 := by
      have := wd_len_mono hm
      rw [← hw] at this
      omega
    have rl := Nat.mod_lt m (show 1000000000 > 0 by decide)
    have em := Nat.div_add_mod m 1000000000
    refine ⟨⟨nrm_wd m, wl, rfl⟩, ?_⟩
    intro r hr
    obtain rfl := hr.trans (small_f m)
    refine ⟨rfl, ?_⟩
    intro r hr
    dsimp only at hr
    rw [wrapU (by omega), Int.toNat_natCast] at hr
    subst hr
    obtain ⟨s1, s2, s3⟩ := sub9 (dc_9 rl)
    refine ⟨fun hq => ⟨s1, s2, ?_⟩, fun hq => ⟨?_, ?_⟩⟩
    · have q0 := lenW_pos hq
      intro r hr
      dsimp only at hr
      rw [s3] at hr
      subst hr
      have hs := congrArg List.length (pad_piece (m % 1000000000))
      rw [pad9_len rl] at hs
      refine ⟨?_, ?_, (m / 1000000000, P ++ [rpB (⟨#[48]⟩ : ByteArray) (9 - (dcB (m % 1000000000)).size) ++ dcB (m % 1000000000)]), rfl, rfl, ⟨by dsimp only; omega, .inl ⟨q0, ?_, ?_⟩⟩, by dsimp only; omega⟩
      · have e : (rpB (⟨#[48]⟩ : ByteArray) (9 - (dcB (m % 1000000000)).size)).size + (dcB (m % 1000000000)).size = 9 := by
          rw [← ByteArray.size_append]
          exact hs
        exact Nat.le_trans (Nat.le_of_eq e) (by decide)
      · show P.length + 1 ≤ 1073741824
        omega
      · rw [jnP_add, List.length_append, hs, i1, List.length_append, List.length_singleton]
        omega
      · rw [jnP_add, pad_piece, ← List.append_assoc, ← dec_split q0 rl, show m / 1000000000 * 1000000000 + m % 1000000000 = m by omega]
        exact i2
    · show P.length + 1 ≤ 1073741824
      omega
    · have q0 := lenW_zero hq
      have e0 : m % 1000000000 = m := by omega
      refine ⟨(0, P ++ [dcB (m % 1000000000)]), rfl, by dsimp only; rw [q0], ⟨Nat.zero_le _, .inr ⟨rfl, by simp, ?_, ?_⟩⟩, Nat.pos_of_ne_zero m0⟩
      · rw [List.length_append, List.length_singleton]
        have := congrArg List.length i2
        have := dec_pos m
        rw [List.length_append, i1] at *
        omega
      · rw [jnP_add, e0]
        exact i2
  · have m0 := lenW_zero hp
    obtain ⟨_, i0, i1, i2⟩ : m = 0 ∧ P ≠ [] ∧ P.length ≤ 3000 ∧ Lib.decDigits N = jnP P := by
      rcases hI with ⟨h, _⟩ | h
      · exact absurd m0 h
      · exact h
    refine ⟨i0, ⟨?_, ?_⟩, ?_⟩
    · rw [List.length_reverse]
      omega
    · rw [jn_rev, ← i2]
      show (Lib.decDigits N).toArray.size ≤ _
      rw [List.size_toArray]
      omega
    · rintro _ rfl
      rw [jn_rev, ← i2]
      rfl
theorem fo_aPrintG : FnOk Tryz.prog 121 sp_aPrintG := fnOk_of (C := c_aPrintG) iv_aPrintG Tryz.func121 rfl (by kernel_rfl) tysT_ok (prims_cons (spec_prim fo_aCheck) (prims_cons (spec_prim fo_clone) (prims_cons (row_prim row_small) (prims_cons (spec_prim fo_fmtU) (prims_cons (spec_prim fo_sRep) (prims_cons (rev_prim rev_ok) (prims_cons (spec_prim fo_sJoin) prims_nil))))))) mixed_ (Nat.le_refl _) rfl fun y x h1 h2 h3 h4 =>
  Eq.mpr (w_aPrintG y x) (m_aPrintG y x h2 h3 h4)
end Go.Proofs.YtemlaompalbgiaaGreatDoor
