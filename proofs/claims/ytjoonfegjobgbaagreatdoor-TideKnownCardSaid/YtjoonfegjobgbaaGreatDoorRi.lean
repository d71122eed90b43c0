/- Texts of this claim, joined: A16 A17 A18 A19. -/
import Derived.Test.YtjoonfegjobgbaaGreatDoorRh
set_option linter.unusedVariables false
set_option linter.unusedSimpArgs false
set_option maxRecDepth 100000
namespace Go.Proofs.YtjoonfegjobgbaaGreatDoor
open Go Go.RowKit
abbrev PR := Oper × Rec
abbrev StF := (Nat → Option AV) × Store
def apS (s : StF) (p : PR) : StF := (upT s.1 p.1.dst p.2.v, upO s.2 p.2.ob)
def StepOk (C : Cfg) (ops : Array Oper) (o : Oper) (s : StF) (n : Nat) (r : Rec) (m : Nat) : Prop :=
  dstOk C.N o.dst = true ∧
  ((gd ops o s.1 = some false ∧ r = ⟨.c .ud, [], []⟩ ∧ m = n) ∨
   (gd ops o s.1 = some true ∧ ∃ cd G, opA C o (ev s.1) s.2 n = some (cd, G) ∧ holds cd ∧ r.ob = G.ef.ob ∧ r.rd = rds o (ev s.1) s.2 ∧ m = n + G.ef.k ∧
     (r.v = G.ef.v ∨ (G.ef.v = .c (.sc (.bool true)) ∧ r.v = .c .tt) ∨ (G.ef.v = .c (.sc (.bool false)) ∧ r.v = .c .ff))))
def Tr (C : Cfg) (ops : Array Oper) : List Oper → StF → Nat → List Rec → Nat → Prop
  | [], _, n, [], n' => n' = n
  | o :: os, s, n, r :: rs, n' => ∃ m, StepOk C ops o s n r m ∧ Tr C ops os (apS s (o, r)) m rs n'
  | _, _, _, _, _ => False
def runS : List PR → StF → StF
  | [], s => s
  | p :: ps, s => runS ps (apS s p)
theorem rg_tr {C : Cfg} {ops : Array Oper} {K : TM → OB → Nat → List Rec → Prop} : ∀ {rest : List Oper} {i : Nat} {tm : TM} {ob : OB} {n : Nat} {log : List Rec}, rg C ops K rest i tm ob n log →
    ∃ recs n' tm' ob', Tr C ops rest (look tm, look ob) n recs n' ∧ recs.length = rest.length ∧ runS (rest.zip recs) (look tm, look ob) = (look tm', look ob') ∧ K tm' ob' n' (recs.reverse ++ log)
  | [], i, tm, ob, n, log, h => ⟨[], n, tm, ob, rfl, rfl, rfl, h⟩
  | o :: rest, i, tm, ob, n, log, h => by
    unfold rg at h
    cases hd : dstOk C.N o.dst with
    | false => rw [hd] at h; exact h.elim
    | true =>
      rw [hd] at h
      simp only [Bool.not_true, cond_false] at h
      have fin : ∀ (r : Rec) (m : Nat), StepOk C ops o (look tm, look ob) n r m → rg C ops K rest (i + 1) (putT tm o.dst r.v) (r.ob ++ ob) m (r :: log) →
          ∃ recs n' tm' ob', Tr C ops (o :: rest) (look tm, look ob) n recs n' ∧ recs.length = (o :: rest).length ∧ runS ((o :: rest).zip recs) (look tm, look ob) = (look tm', look ob') ∧ K tm' ob' n' (recs.reverse ++ log) := fun r m h1 h2 => by
        obtain ⟨recs, n', tm', ob', k1, k2, k3, k4⟩ := rg_tr h2
        have e : apS (look tm, look ob) (o, r) = (look (putT tm o.dst r.v), look (r.ob ++ ob)) := by
          unfold apS; rw [look_upT, look_upO]
        refine ⟨r :: recs, n', tm', ob', ⟨m, h1, by rw [e]; exact k1⟩, by simp [k2], ?_, by simpa using k4⟩
        show runS (rest.zip recs) (apS (look tm, look ob) (o, r)) = _
        rw [e]
        exact k3
      split at h
      · exact h.elim
      · rename_i hg
        exact fin ⟨.c .ud, [], []⟩ n ⟨hd, .inl ⟨hg, rfl, rfl⟩⟩ h
      · rename_i hg
        split at h
        · exact h.elim
        · rename_i cd G hA
          have hc : holds cd ∧ onG G fun E => fE E fun E => fN (n + E.k) fun m => fNs (rds o (ev (look tm)) (look ob)) fun rd => match hangs ops i o with
              | true => brB E.v fun v => rg C ops K rest (i + 1) (putT tm o.dst v) (E.ob ++ ob) m (⟨v, E.ob, rd⟩ :: log)
              | false => rg C ops K rest (i + 1) (putT tm o.dst E.v) (E.ob ++ ob) m (⟨E.v, E.ob, rd⟩ :: log) := by
            cases cd with
            | none => exact ⟨trivial, h⟩
            | some p => exact h
          obtain ⟨hc, h⟩ := hc
          have hE : (match hangs ops i o with
              | true => brB G.ef.v fun v => rg C ops K rest (i + 1) (putT tm o.dst v) (G.ef.ob ++ ob) (n + G.ef.k) (⟨v, G.ef.ob, rds o (ev (look tm)) (look ob)⟩ :: log)
              | false => rg C ops K rest (i + 1) (putT tm o.dst G.ef.v) (G.ef.ob ++ ob) (n + G.ef.k) (⟨G.ef.v, G.ef.ob, rds o (ev (look tm)) (look ob)⟩ :: log)) := by
            cases G with
            | e E => simp only [onG, fE_eq, fN_eq, fNs_eq] at h; exact h
            | g R val k => have := h val rfl; simp only [fE_eq, fN_eq, fNs_eq] at this; exact this
          have mk : ∀ v, (v = G.ef.v ∨ (G.ef.v = .c (.sc (.bool true)) ∧ v = .c .tt) ∨ (G.ef.v = .c (.sc (.bool false)) ∧ v = .c .ff)) → StepOk C ops o (look tm, look ob) n ⟨v, G.ef.ob, rds o (ev (look tm)) (look ob)⟩ (n + G.ef.k) := fun v hv =>
            ⟨hd, .inr ⟨hg, cd, G, hA, hc, rfl, rfl, rfl, hv⟩⟩
          split at hE
          · unfold brB at hE
            split at hE
            · rename_i b hb
              cases b with
              | true => exact fin _ _ (mk (.c .tt) (.inr (.inl ⟨hb, rfl⟩))) (hE.1 rfl)
              | false => exact fin _ _ (mk (.c .ff) (.inr (.inr ⟨hb, rfl⟩))) (hE.2 rfl)
            · exact fin _ _ (mk G.ef.v (.inl rfl)) hE
          · exact fin _ _ (mk G.ef.v (.inl rfl)) hE
def agr (s s' : StF) (k : Nat) : Prop := if k % 2 = 0 then s.1 (k / 2) = s'.1 (k / 2) else s.2 (k / 2) = s'.2 (k / 2)
theorem agr.refl (s : StF) (k : Nat) : agr s s k := by unfold agr; split <;> rfl
theorem agr.symm {s s' : StF} {k : Nat} (h : agr s s' k) : agr s' s k := by unfold agr at *; split <;> simp_all
theorem agr.trans {s s' s'' : StF} {k : Nat} (h : agr s s' k) (h' : agr s' s'' k) : agr s s'' k := by unfold agr at *; split <;> simp_all
theorem agr_all {s s' : StF} (h : ∀ k, agr s s' k) : s = s' := by
  have h1 : s.1 = s'.1 := funext fun t => by have := h (2 * t); unfold agr at this; rw [if_pos (by omega)] at this; simpa using this
  have h2 : s.2 = s'.2 := funext fun t => by have := h (2 * t + 1); unfold agr at this; rw [if_neg (by omega)] at this; rw [show (2 * t + 1) / 2 = t by omega] at this; exact this
  exact Prod.ext h1 h2
theorem agr_tmp {s s' : StF} {t : Nat} (h : agr s s' (2 * t)) : s.1 t = s'.1 t := by unfold agr at h; rw [if_pos (by omega)] at h; simpa using h
theorem agr_ob {s s' : StF} {t : Nat} (h : agr s s' (2 * t + 1)) : s.2 t = s'.2 t := by unfold agr at h; rw [if_neg (by omega)] at h; rw [show (2 * t + 1) / 2 = t by omega] at h; exact h
theorem wr_dst {o : Oper} {r : Rec} {t : Nat} : 2 * t ∈ wrK o r ↔ o.dst = some t := by
  unfold wrK
  rw [List.mem_append]
  constructor
  · rintro (h | h)
    · cases hd : o.dst with
      | none => rw [hd] at h; simp at h
      | some d => rw [hd] at h; simp at h; rw [show t = d by omega]
    · obtain ⟨p, _, hp⟩ := List.mem_map.1 h; omega
  · intro h; rw [h]; simp
theorem wr_ob {o : Oper} {r : Rec} {i : Nat} : 2 * i + 1 ∈ wrK o r ↔ ∃ x, (i, x) ∈ r.ob := by
  unfold wrK
  rw [List.mem_append]
  constructor
  · rintro (h | h)
    · split at h
      · simp at h; omega
      · simp at h
    · obtain ⟨p, h1, hp⟩ := List.mem_map.1 h
      have : p.1 = i := by omega
      exact ⟨p.2, by rw [← this]; exact h1⟩
  · rintro ⟨x, h⟩
    exact .inr (List.mem_map.2 ⟨(i, x), h, rfl⟩)
theorem look_none {α : Type} : ∀ {l : List (Nat × α)} {i : Nat}, look l i = none ↔ ∀ x, (i, x) ∉ l
  | [], i => by simp [look]
  | (k, v) :: l, i => by
    unfold look
    cases hk : Nat.beq k i with
    | true =>
      have := Nat.eq_of_beq_eq_true hk
      subst this
      constructor
      · intro h; cases h
      · intro h; exact absurd (List.mem_cons_self) (h v)
    | false =>
      have hne : k ≠ i := fun e => by subst e; rw [Nat.beq_refl] at hk; cases hk
      simp only [cond_false]
      rw [look_none]
      constructor
      · intro h x hx
        rcases List.mem_cons.1 hx with hx | hx
        · cases hx; exact hne rfl
        · exact h x hx
      · intro h x hx; exact h x (List.mem_cons_of_mem _ hx)
theorem ap_key (s : StF) (p : PR) (k : Nat) : (k ∉ wrK p.1 p.2 → agr (apS s p) s k) ∧ (k ∈ wrK p.1 p.2 → ∀ s', agr (apS s p) (apS s' p) k) := by
  rcases Nat.mod_two_eq_zero_or_one k with hk | hk
  · obtain ⟨t, rfl⟩ : ∃ t, k = 2 * t := ⟨k / 2, by omega⟩
    rw [wr_dst]
    constructor
    · intro h
      unfold agr apS
      rw [if_pos hk]
      simp only [show 2 * t / 2 = t by omega]
      unfold upT
      cases hd : p.1.dst with
      | none => rfl
      | some d =>
        simp only []
        cases hb : Nat.beq d t with
        | true => exact absurd (by rw [hd, Nat.eq_of_beq_eq_true hb]) h
        | false => rfl
    · intro h s'
      unfold agr apS
      rw [if_pos hk]
      simp only [show 2 * t / 2 = t by omega]
      unfold upT
      rw [h]
      simp [Nat.beq_refl]
  · obtain ⟨t, rfl⟩ : ∃ t, k = 2 * t + 1 := ⟨k / 2, by omega⟩
    rw [wr_ob]
    constructor
    · intro h
      unfold agr apS
      rw [if_neg (by omega)]
      simp only [show (2 * t + 1) / 2 = t by omega]
      unfold upO
      rw [look_none.2 (fun x hx => h ⟨x, hx⟩)]
    · intro h s'
      unfold agr apS
      rw [if_neg (by omega)]
      simp only [show (2 * t + 1) / 2 = t by omega]
      unfold upO
      cases hl : look p.2.ob t with
      | none => obtain ⟨x, hx⟩ := h; exact absurd hx (look_none.1 hl x)
      | some o => rfl
theorem ap_agr {s s' : StF} {p : PR} {k : Nat} (h : agr s s' k) : agr (apS s p) (apS s' p) k := by
  by_cases hk : k ∈ wrK p.1 p.2
  · exact (ap_key s p k).2 hk s'
  · exact ((ap_key s p k).1 hk).trans (h.trans ((ap_key s' p k).1 hk).symm)
def pickS (d : Nat → Bool) : List PR → Nat → StF → StF
  | [], _, s => s
  | p :: ps, i, s => pickS d ps (i + 1) (if d i = true then apS s p else s)
theorem pick_agr {d d' : Nat → Bool} {k : Nat} : ∀ {ps : List PR} {i : Nat} {s s' : StF}, agr s s' k → (∀ (j : Nat) (p : PR), ps[j]? = some p → d (i + j) ≠ d' (i + j) → k ∉ wrK p.1 p.2) → agr (pickS d ps i s) (pickS d' ps i s') k
  | [], _, _, _, h, _ => h
  | p :: ps, i, s, s', h, hd => by
    unfold pickS
    refine pick_agr ?_ (fun j q hj hne => hd (j + 1) q (by simpa using hj) (by rw [show i + (j + 1) = i + 1 + j by omega]; exact hne))
    have h0 := hd 0 p rfl
    rw [Nat.add_zero] at h0
    by_cases e : d i = d' i
    · rw [e]
      split
      · exact ap_agr h
      · exact h
    · have hk := h0 e
      split <;> split
      · exact ap_agr h
      · exact ((ap_key s p k).1 hk).trans h
      · exact h.trans ((ap_key s' p k).1 hk).symm
      · exact h
theorem pick_none {d : Nat → Bool} {k : Nat} : ∀ {ps : List PR} {i : Nat} {s : StF}, (∀ (j : Nat) (p : PR), ps[j]? = some p → d (i + j) = true → k ∉ wrK p.1 p.2) → agr (pickS d ps i s) s k
  | [], _, s, _ => agr.refl s k
  | p :: ps, i, s, h => by
    unfold pickS
    refine (pick_none (fun j q hj hd => h (j + 1) q (by simpa using hj) (by rw [show i + (j + 1) = i + 1 + j by omega]; exact hd))).trans ?_
    split
    · rename_i hd; exact (ap_key s p k).1 (h 0 p rfl (by simpa using hd))
    · exact agr.refl s k
theorem pick_append (d : Nat → Bool) : ∀ (ps qs : List PR) (i : Nat) (s : StF), pickS d (ps ++ qs) i s = pickS d qs (i + ps.length) (pickS d ps i s)
  | [], qs, i, s => rfl
  | p :: ps, qs, i, s => by
    rw [List.cons_append]
    show pickS d (ps ++ qs) (i + 1) _ = pickS d qs (i + (ps.length + 1)) (pickS d ps (i + 1) _)
    rw [pick_append d ps qs (i + 1), show i + 1 + ps.length = i + (ps.length + 1) by omega]
theorem pick_all (ps : List PR) : ∀ (i : Nat) (s : StF) {d : Nat → Bool}, (∀ j, j < ps.length → d (i + j) = true) → pickS d ps i s = runS ps s := by
  induction ps with
  | nil => intro i s d _; rfl
  | cons p ps ih =>
    intro i s d h
    unfold pickS runS
    rw [if_pos (by simpa using h 0 (by simp)), ih (i + 1) (apS s p) (fun j hj => by rw [show i + 1 + j = i + (j + 1) by omega]; exact h (j + 1) (by simpa using hj))]
theorem pick_more {d : Nat → Bool} {ps : List PR} {i : Nat} {p : PR} (hp : ps[i]? = some p) (hd : d i = false) (s : StF) (hw : ∀ (j : Nat) (q : PR), ps[j]? = some q → i < j → d j = true → ∀ k ∈ wrK p.1 p.2, k ∉ wrK q.1 q.2) (k : Nat) :
    agr (apS (pickS d ps 0 s) p) (pickS (fun j => if j = i then true else d j) ps 0 s) k := by
  by_cases hk : k ∈ wrK p.1 p.2
  · have hi := (List.getElem?_eq_some_iff.1 hp).1
    have hps : ps = ps.take i ++ (p :: ps.drop (i + 1)) := by
      rw [← (List.getElem?_eq_some_iff.1 hp).2, ← List.drop_eq_getElem_cons hi, List.take_append_drop]
    have e : pickS (fun j => if j = i then true else d j) ps 0 s = pickS (fun j => if j = i then true else d j) (ps.drop (i + 1)) (i + 1) (apS (pickS (fun j => if j = i then true else d j) (ps.take i) 0 s) p) := by
      conv => lhs; rw [hps]
      rw [pick_append]
      have hl : (ps.take i).length = i := by rw [List.length_take]; omega
      rw [hl, Nat.zero_add]
      show pickS _ _ (i + 1) _ = _
      rw [if_pos (by simp)]
    rw [e]
    refine ((ap_key _ p k).2 hk _).trans (agr.symm (pick_none (fun j q hj hdj => ?_)))
    rw [List.getElem?_drop] at hj
    simp only [show ¬ (i + 1 + j = i) by omega, if_false] at hdj
    exact hw _ q hj (by omega) hdj k hk
  · refine ((ap_key _ p k).1 hk).trans (pick_agr (agr.refl s k) (fun j q hj hne => ?_))
    rw [Nat.zero_add] at hne
    by_cases e : j = i
    · subst e; rw [hp] at hj; cases hj; exact hk
    · rw [if_neg e] at hne; exact absurd rfl hne
theorem disj_not {l m : List Nat} (h : disj l m = true) {k : Nat} (hk : k ∈ l) : k ∉ m := fun hm => by
  have := List.all_eq_true.1 h k hk
  simp only [Bool.not_eq_true', List.contains_eq_mem, decide_eq_false_iff_not] at this
  exact this hm
structure OrdOk (ops : Array Oper) (rest : List Oper) (rs : List Rec) (i : Nat) (done : List (Nat × List Nat × List Nat)) (an : List (List Nat)) : Prop where
  lt : ∀ (m : Nat) (o : Oper), rest[m]? = some o → ∀ e ∈ o.after.toList, Region.binds .any e = true → e.on < i + m
  from_ : ∀ (m : Nat) (o : Oper), rest[m]? = some o → ∀ x ∈ an.getD (i + m) [], ∃ e ∈ o.after.toList, Region.binds .any e = true ∧ (x = e.on ∨ x ∈ an.getD e.on [])
  old : ∀ (m : Nat) (o : Oper) (r : Rec), rest[m]? = some o → rs[m]? = some r → ∀ p ∈ done, p.1 ∈ an.getD (i + m) [] ∨ (disj (wrK o r) p.2.1 = true ∧ disj (wrK o r) p.2.2 = true ∧ disj (rdK ops o r) p.2.1 = true)
  two : ∀ (j m : Nat) (o o' : Oper) (r r' : Rec), j < m → rest[j]? = some o' → rs[j]? = some r' → rest[m]? = some o → rs[m]? = some r → (i + j) ∈ an.getD (i + m) [] ∨ (disj (wrK o r) (wrK o' r') = true ∧ disj (wrK o r) (rdK ops o' r') = true ∧ disj (rdK ops o r) (wrK o' r') = true)
theorem ancs_mem {o : Oper} {an : List (List Nat)} {x : Nat} (h : x ∈ ancs o an) : ∃ e ∈ o.after.toList, Region.binds .any e = true ∧ (x = e.on ∨ x ∈ an.getD e.on []) := by
  unfold ancs at h
  obtain ⟨e, h1, h2⟩ := List.mem_flatMap.1 (dedup_mem h)
  cases hb : Region.binds .any e with
  | false => rw [hb] at h2; simp at h2
  | true =>
    rw [hb] at h2
    exact ⟨e, h1, hb, List.mem_cons.1 h2⟩
theorem ordF_sound {ops : Array Oper} : ∀ {rest : List Oper} {rs : List Rec} {i : Nat} {done : List (Nat × List Nat × List Nat)} {an : List (List Nat)}, ordF ops rest rs i done an = true → an.length = i →
    ∃ bs : List (List Nat), (∀ j, j < i → bs.getD j [] = an.getD j []) ∧ OrdOk ops rest rs i done bs
  | [], [], i, done, an, _, hl => ⟨an, fun _ _ => rfl, ⟨fun m o h => by simp at h, fun m o h => by simp at h, fun m o r h => by simp at h, fun j m o o' r r' _ h => by simp at h⟩⟩
  | [], _ :: _, _, _, _, h, _ => by simp [ordF] at h
  | _ :: _, [], _, _, _, h, _ => by simp [ordF] at h
  | o :: rest, r :: rs, i, done, an, h, hl => by
    simp only [ordF, fLB_eq, Bool.and_eq_true] at h
    obtain ⟨⟨h1, h2⟩, h3⟩ := h
    obtain ⟨bs, k1, k2⟩ := ordF_sound h3 (by simp [hl])
    have hi : bs.getD i [] = ancs o an := by
      rw [k1 i (by omega), List.getD_eq_getElem?_getD, List.getElem?_append_right (by omega), hl]; simp
    have hj : ∀ j, j < i → bs.getD j [] = an.getD j [] := fun j hj => by
      rw [k1 j (by omega), List.getD_eq_getElem?_getD, List.getElem?_append_left (by omega), ← List.getD_eq_getElem?_getD]
    have hlt : ∀ e ∈ o.after.toList, Region.binds .any e = true → e.on < i := fun e he hb => by
      have := List.all_eq_true.1 h1 e he
      rw [hb] at this
      simpa [Nat.blt, Nat.lt_iff_add_one_le] using this
    refine ⟨bs, hj, ⟨fun m p hp => ?_, fun m p hp => ?_, fun m p q hp hq => ?_, fun j m p p' q q' hjm hp' hq' hp hq => ?_⟩⟩
    · cases m with
      | zero => cases hp; simpa using hlt
      | succ m => intro e he hb; have := k2.lt m p (by simpa using hp) e he hb; omega
    · cases m with
      | zero =>
        cases hp
        intro x hx
        rw [Nat.add_zero, hi] at hx
        obtain ⟨e, e1, e2, e3⟩ := ancs_mem hx
        refine ⟨e, e1, e2, e3.imp id (fun h => ?_)⟩
        rw [hj e.on (hlt e e1 e2)]
        exact h
      | succ m =>
        intro x hx
        rw [show i + (m + 1) = i + 1 + m by omega] at hx
        exact k2.from_ m p (by simpa using hp) x hx
    · cases m with
      | zero =>
        cases hp
        cases hq
        intro d hd
        rw [Nat.add_zero, hi]
        have := List.all_eq_true.1 h2 d hd
        simp only [Bool.or_eq_true, Bool.and_eq_true, List.contains_eq_mem, decide_eq_true_eq] at this
        exact this.imp id (fun h => ⟨h.1.1, h.1.2, h.2⟩)
      | succ m =>
        intro d hd
        rw [show i + (m + 1) = i + 1 + m by omega]
        exact k2.old m p q (by simpa using hp) (by simpa using hq) d (List.mem_cons_of_mem _ hd)
    · cases m with
      | zero => omega
      | succ m =>
        rw [show i + (m + 1) = i + 1 + m by omega]
        cases j with
        | zero =>
          cases hp'
          cases hq'
          exact k2.old m p q (by simpa using hp) (by simpa using hq) _ List.mem_cons_self
        | succ j =>
          rw [show i + (j + 1) = i + 1 + j by omega]
          exact k2.two j m p p' q q' (by omega) (by simpa using hp') (by simpa using hq') (by simpa using hp) (by simpa using hq)
theorem StepOk.le {C : Cfg} {ops : Array Oper} {o : Oper} {s : StF} {n m : Nat} {r : Rec} (h : StepOk C ops o s n r m) : n ≤ m := by
  rcases h.2 with ⟨_, _, rfl⟩ | ⟨_, cd, G, _, _, _, _, rfl, _⟩ <;> omega
theorem Tr.steps {C : Cfg} {ops : Array Oper} : ∀ {rest : List Oper} {s : StF} {n : Nat} {recs : List Rec} {n' : Nat}, Tr C ops rest s n recs n' →
    ∃ F : Nat → Nat, F 0 = n ∧ F rest.length = n' ∧ (∀ (j : Nat) (o : Oper) (r : Rec), rest[j]? = some o → recs[j]? = some r → StepOk C ops o (runS ((rest.zip recs).take j) s) (F j) r (F (j + 1)))
  | [], s, n, [], n', h => ⟨fun _ => n, rfl, h.symm, fun j o r h => by simp at h⟩
  | [], _, _, _ :: _, _, h => h.elim
  | _ :: _, _, _, [], _, h => h.elim
  | o :: rest, s, n, r :: recs, n', ⟨m, h1, h2⟩ => by
    obtain ⟨F, k1, k2, k3⟩ := h2.steps
    refine ⟨fun j => match j with | 0 => n | j + 1 => F j, rfl, k2, fun j p q hp hq => ?_⟩
    cases j with
    | zero => cases hp; cases hq; show StepOk C ops o s n r (F 0); rw [k1]; exact h1
    | succ j => exact k3 j p q (by simpa using hp) (by simpa using hq)
theorem Tr.len {C : Cfg} {ops : Array Oper} : ∀ {rest : List Oper} {s : StF} {n : Nat} {recs : List Rec} {n' : Nat}, Tr C ops rest s n recs n' → recs.length = rest.length
  | [], _, _, [], _, _ => rfl
  | [], _, _, _ :: _, _, h => h.elim
  | _ :: _, _, _, [], _, h => h.elim
  | _ :: rest, _, _, _ :: recs, _, ⟨_, _, h⟩ => by simp [h.len]
section
variable {P : Program} {C : Cfg} {gp : Option Nat} {Z0 : Nat → Prop} {w0 : Base} {w w' : World} {D D' : Nat → Prop} {c c' : Cf} {T : Nat → Option AV} {O O' : Store} {a : Act} {o : Oper}
theorem gd_wanted {N : Nat} (S : Sim gp Z0 w0 N D c T O a.tmps w) {ops : Array Oper} {b : Bool} (h : gd ops o T = some b) : Region.wanted o (yielded ops a.tmps) = b := by
  unfold gd at h
  unfold Region.wanted
  cases hg : o.guard with
  | none => rw [hg] at h; cases h; rfl
  | some jw =>
    obtain ⟨j, want⟩ := jw
    rw [hg] at h
    simp only [] at h ⊢
    unfold yielded
    cases hd : (ops[j]?).bind (·.dst) with
    | none => rw [hd] at h; cases h; rfl
    | some t =>
      rw [hd] at h
      simp only [] at h
      split at h <;> cases h
      · rename_i ht
        obtain ⟨u, h1, h2⟩ := S.tmp t _ ht
        have : u = .bool true := h2
        subst this
        simp only [Option.bind, h1]
        cases b <;> rfl
      · rename_i ht
        obtain ⟨u, h1, h2⟩ := S.tmp t _ ht
        have : u = .bool false := h2
        subst this
        simp only [Option.bind, h1]
        cases want <;> rfl
      · rename_i ht
        obtain ⟨u, h1, h2⟩ := S.tmp t _ ht
        have : u = undef := h2
        subst this
        simp only [Option.bind, h1]
        rfl
theorem Sim.refine_ {N : Nat} {b : Bool} (S : Sim gp Z0 w0 N D c (upT T o.dst (.c (.sc (.bool b)))) O a.tmps w) {x : AV} (hx : ∀ u, RA c w u (.c (.sc (.bool b))) → RA c w u x) : Sim gp Z0 w0 N D c (upT T o.dst x) O a.tmps w :=
  ⟨fun t v h => by
    unfold upT at h
    cases hd : o.dst with
    | none => rw [hd] at h; exact S.tmp t v (by unfold upT; rw [hd]; exact h)
    | some d =>
      rw [hd] at h
      simp only [] at h
      cases hb : Nat.beq d t with
      | true =>
        rw [hb] at h
        cases h
        obtain ⟨u, h1, h2⟩ := S.tmp t _ (show upT T o.dst (.c (.sc (.bool b))) t = some _ by unfold upT; rw [hd]; simp only [hb]; rfl)
        exact ⟨u, h1, hx u h2⟩
      | false =>
        rw [hb] at h
        exact S.tmp t v (by unfold upT; rw [hd]; simp only [hb]; exact h), S.obj, S.inj, S.zo, S.zl, S.bs, S.dom, S.gr, S.zz, S.sz, S.gpv, S.z0, S.zg⟩
theorem step_wp (hT : tyB P C.ty C.ty = true) (hP : ∀ f p, look C.pr f = some p → PrimOk P f p) {ops : Array Oper} {s s1 : StF} {n m : Nat} {r : Rec} (h : StepOk C ops o s1 n r m) (S : Sim gp Z0 w0 C.N D c s.1 s.2 a.tmps w) (ha : ∀ k ∈ rdK ops o r, agr s s1 k) (hn : ∀ i, n ≤ i → i < m → ¬ D i)
    {i : Nat} (hi : ops[i]? = some o) {Q : Exit → Act → World → Prop} {K : Act → World → Prop} (hK : ∀ v w' c', Sim gp Z0 w0 C.N (fun j => D j ∨ n ≤ j ∧ j < m) c' (apS s (o, r)).1 (apS s (o, r)).2 (a.put o.dst v).tmps w' → K (a.put o.dst v) w') : wpOp P ops Q i K a w := by
  obtain ⟨hd, h⟩ := h
  have hg : gd ops o s.1 = gd ops o s1.1 := by
    unfold gd
    cases hgd : o.guard with
    | none => rfl
    | some jw =>
      obtain ⟨j, want⟩ := jw
      simp only []
      cases hdj : (ops[j]?).bind (·.dst) with
      | none => rfl
      | some t =>
        simp only []
        have : s.1 t = s1.1 t := agr_tmp (ha _ (by
          unfold rdK
          rw [hgd]
          simp only [hdj, Option.toList, List.map_cons, List.map_nil]
          exact List.mem_append.2 (.inl (List.mem_append.2 (.inr (by simp))))))
        rw [this]
  unfold wpOp
  simp only [hi]
  rcases h with ⟨h1, rfl, rfl⟩ | ⟨h1, cd, G, h2, h3, h4, h5, rfl, h6⟩
  · rw [← hg] at h1
    rw [gd_wanted S h1]
    simp only [Bool.false_eq_true, if_false]
    exact hK undef w c ((S.value hd (show RA c w undef (.c .ud) from rfl)).dom_mono (fun i h => .inl h))
  · rw [← hg] at h1
    rw [gd_wanted S h1]
    simp only [if_true]
    have he : ∀ x ∈ o.op.operands.toList, ev s.1 x = ev s1.1 x := fun x hx => by
      cases x with
      | tmp t =>
        exact agr_tmp (ha _ (by
          unfold rdK
          exact List.mem_append.2 (.inl (List.mem_append.2 (.inl (List.mem_filterMap.2 ⟨.tmp t, hx, rfl⟩))))))
      | _ => rfl
    have ho : ∀ j ∈ rds o (ev s1.1) s1.2, s1.2 j = s.2 j := fun j hj => (agr_ob (ha _ (by
      unfold rdK
      rw [h5]
      exact List.mem_append.2 (.inr (List.mem_map.2 ⟨j, hj, rfl⟩))))).symm
    rw [opA_congr (fun x hx => (he x hx).symm) ho] at h2
    have := op_sound hT hP S (O' := fun j => bif (rds o (ev s.1) s.2).contains j then s.2 j else none) (fun j x hx => by
      cases hc : (rds o (ev s.1) s.2).contains j with
      | true => rw [hc] at hx; exact hx
      | false => rw [hc] at hx; cases hx) hd hn h2 h3
    refine .inl (this K Q (fun v w' c' S' => ?_))
    refine hK v w' c' ?_
    rw [← h4] at S'
    rcases h6 with h6 | ⟨h6, h7⟩ | ⟨h6, h7⟩
    · rw [← h6] at S'; exact S'
    · rw [h6] at S'
      show Sim _ _ _ _ _ _ (upT s.1 o.dst r.v) _ _ _
      rw [h7]
      exact S'.refine_ (fun u hu => hu.1)
    · rw [h6] at S'
      show Sim _ _ _ _ _ _ (upT s.1 o.dst r.v) _ _ _
      rw [h7]
      exact S'.refine_ (fun u hu => hu.1)
end
def leftA (l : Array Bool) : Nat := l.toList.count false
theorem leftA_set {l : Array Bool} {i : Nat} (h : l.getD i true = false) : leftA (l.setIfInBounds i true) + 1 = leftA l := by
  have hi : i < l.size := by
    rcases Nat.lt_or_ge i l.size with h' | h'
    · exact h'
    · simp [Array.getElem?_eq_none h'] at h
  have hv : l.toList[i]'(by simpa using hi) = false := by simpa [hi] using h
  unfold leftA
  rw [Array.toList_setIfInBounds, List.count_set (by simpa using hi)]
  have h1 : (l.toList[i]'(by simpa using hi) == false) = true := by rw [hv]; rfl
  have h2 : 0 < l.toList.count false := List.count_pos_iff.2 (hv ▸ List.getElem_mem (by simpa using hi))
  rw [hv]
  show l.toList.count false - (if (false == false) = true then 1 else 0) + (if (true == false) = true then 1 else 0) + 1 = l.toList.count false
  rw [if_pos (show (false == false) = true from rfl), if_neg (show ¬ (true == false) = true by decide)]
  omega
theorem readyA_nil {md : Region.Mode} {ops : Array Oper} {l : Array Bool} (h : leftA l = 0) : Region.ready md ops l = [] := by
  rw [List.eq_nil_iff_forall_not_mem]
  intro i hi
  have h1 := leftA_set (mem_ready.1 hi).1
  omega
theorem wpAnyA {P : Program} {ops : Array Oper} {Q : Exit → Act → World → Prop} {md : Region.Mode} (J : Array Bool → Act → World → Prop) (hstep : ∀ l a w, J l a w → ∀ i, i ∈ Region.ready md ops l → wpOp P ops Q i (J (l.setIfInBounds i true)) a w) (hend : ∀ l a w, J l a w → Region.ready md ops l = [] → Q .normal a w) :
    ∀ (fuel : Nat) (l : Array Bool) (a : Act) (w : World), leftA l ≤ fuel → J l a w → wpAny P md ops Q fuel l a w
  | 0, l, a, w, hl, h => ⟨readyA_nil (by omega), hend l a w h (readyA_nil (by omega))⟩
  | fuel + 1, l, a, w, hl, h => ⟨hend l a w h, fun i hi => wpOp_mono (fun a' w' h' => wpAnyA J hstep hend fuel _ a' w' (by have := leftA_set (mem_ready.1 hi).1; omega) h') (hstep l a w h i hi)⟩
section
variable {P : Program} {C : Cfg} {gp : Option Nat} {Z0 : Nat → Prop} {w0 : Base} {w w' : World} {D D' : Nat → Prop} {c c' : Cf} {T : Nat → Option AV} {O O' : Store} {a : Act} {o : Oper}
theorem put_defers (a : Act) (d : Option Tmp) (v : Value) : (a.put d v).defers = a.defers := by cases d <;> rfl
theorem plain_ops (hT : tyB P C.ty C.ty = true) (hP : ∀ f p, look C.pr f = some p → PrimOk P f p) {ops : Array Oper} {Q : Exit → Act → World → Prop} {n' : Nat} {s' : StF} : ∀ {rest : List Oper} {i : Nat} {s : StF} {n : Nat} {recs : List Rec} {a : Act} {w : World} {c : Cf}, (∀ j, rest[j]? = ops[i + j]?) →
    Tr C ops rest s n recs n' → runS (rest.zip recs) s = s' → Sim gp Z0 w0 C.N (fun j => j < n) c s.1 s.2 a.tmps w → (∀ a' w' c', Sim gp Z0 w0 C.N (fun j => j < n') c' s'.1 s'.2 a'.tmps w' → a'.defers = a.defers → Q .normal a' w') → wpOps P ops Q (List.range' i rest.length) a w
  | [], i, s, n, [], a, w, c, _, h, hs, S, hQ => by
    cases h
    cases hs
    exact hQ a w c S rfl
  | [], _, _, _, _ :: _, _, _, _, _, h, _, _, _ => h.elim
  | _ :: _, _, _, _, [], _, _, _, _, h, _, _, _ => h.elim
  | o :: rest, i, s, n, r :: recs, a, w, c, hi, ⟨m, h1, h2⟩, hs, S, hQ => by
    have hi0 : ops[i]? = some o := by have := hi 0; simpa using this.symm
    show wpOps P ops Q (List.range' i (rest.length + 1)) a w
    rw [List.range'_succ, wpOps_cons]
    refine step_wp hT hP h1 S (fun k _ => agr.refl s k) (fun j hj _ => by omega) hi0 (fun v w' c' S' => ?_)
    have hle := h1.le
    refine plain_ops hT hP (fun j => by rw [show i + 1 + j = i + (j + 1) by omega, ← hi (j + 1)]; simp) h2 hs (S'.dom_mono (fun j hj => by rcases hj with hj | hj <;> omega)) (fun a' w'' c'' S'' hd => hQ a' w'' c'' S'' (hd.trans (put_defers a o.dst v)))
theorem set_getD {l : Array Bool} {i j : Nat} (hi : i < l.size) : (l.setIfInBounds i true).getD j false = if j = i then true else l.getD j false := by
  by_cases h : j = i
  · subst h; simp [hi]
  · rw [if_neg h]; simp [Array.getElem?_setIfInBounds_ne (fun e => h e.symm)]
theorem any_ops (hT : tyB P C.ty C.ty = true) (hP : ∀ f p, look C.pr f = some p → PrimOk P f p) {ops : Array Oper} {Q : Exit → Act → World → Prop} {n n' : Nat} {s : StF} {recs : List Rec} (h : Tr C ops ops.toList s n recs n') (ho : ordF ops ops.toList recs 0 [] [] = true)
    (S : Sim gp Z0 w0 C.N (fun j => j < n) c s.1 s.2 a.tmps w) (hQ : ∀ a' w' c', Sim gp Z0 w0 C.N (fun j => j < n') c' (runS (ops.toList.zip recs) s).1 (runS (ops.toList.zip recs) s).2 a'.tmps w' → a'.defers = a.defers → Q .normal a' w') :
    wpAny P .any ops Q ops.size (Array.replicate ops.size false) a w := by
  obtain ⟨bs, _, OK⟩ := ordF_sound ho rfl
  obtain ⟨F, f0, fn, fs⟩ := h.steps
  have hlen := h.len
  let ps := ops.toList.zip recs
  have hps : ps.length = ops.size := by simp [ps, hlen]
  have at_ : ∀ (i : Nat) (o : Oper), ops[i]? = some o → ∃ r, recs[i]? = some r ∧ ps[i]? = some (o, r) ∧ ops.toList[i]? = some o := fun i o hi => by
    have hi' : i < ops.size := (Array.getElem?_eq_some_iff.1 hi).1
    have hr : i < recs.length := by rw [hlen]; simpa using hi'
    refine ⟨recs[i], List.getElem?_eq_getElem hr, ?_, by simpa using hi⟩
    rw [List.getElem?_zip_eq_some]
    exact ⟨by simpa using hi, List.getElem?_eq_getElem hr⟩
  have of_ : ∀ (i : Nat) (p : PR), ps[i]? = some p → ops.toList[i]? = some p.1 ∧ recs[i]? = some p.2 := fun i p hp => List.getElem?_zip_eq_some.1 hp
  have Fmono : ∀ i j, i ≤ j → j ≤ ops.size → F i ≤ F j := by
    intro i j hij hj
    induction j with
    | zero => rw [Nat.le_zero.1 hij]; exact Nat.le_refl _
    | succ j ih =>
      by_cases e : i = j + 1
      · rw [e]; exact Nat.le_refl _
      · have hj' : j < ops.size := by omega
        obtain ⟨r, r1, r2, r3⟩ := at_ j ops[j] (by simp [hj'])
        exact Nat.le_trans (ih (by omega) (by omega)) (fs j _ r r3 r1).le
  let J : Array Bool → Act → World → Prop := fun l a' w' => l.size = ops.size ∧ a'.defers = a.defers ∧ (∀ i, l.getD i false = true → ∀ x ∈ bs.getD i [], l.getD x false = true) ∧
    ∃ c', Sim gp Z0 w0 C.N (fun j => j < n ∨ ∃ i, i < ops.size ∧ l.getD i false = true ∧ F i ≤ j ∧ j < F (i + 1)) c' (pickS (fun j => l.getD j false) ps 0 s).1 (pickS (fun j => l.getD j false) ps 0 s).2 a'.tmps w'
  refine wpAnyA J ?_ ?_ _ _ a w ?_ ?_
  · -- a step
    rintro l a1 w1 ⟨hl, hdf, hcl, c1, S1⟩ i hi
    obtain ⟨hli, o, hoi, haf⟩ := mem_ready.1 hi
    have hi' : i < ops.size := (Array.getElem?_eq_some_iff.1 hoi).1
    obtain ⟨r, r1, r2, r3⟩ := at_ i o hoi
    have hdi : l.getD i false = false := by
      have : i < l.size := by omega
      simpa [this] using hli
    have hanc : ∀ x ∈ bs.getD i [], l.getD x false = true := fun x hx => by
      have := OK.from_ i o (by simpa using r3) x (by simpa using hx)
      obtain ⟨e, e1, e2, e3⟩ := this
      have hd := haf e (by simpa using e1) e2
      rcases e3 with rfl | e3
      · exact hd
      · exact hcl e.on hd x e3
    have later : ∀ (j : Nat) (q : PR), ps[j]? = some q → i < j → l.getD j false = true → disj (wrK q.1 q.2) (wrK o r) = true ∧ disj (wrK q.1 q.2) (rdK ops o r) = true ∧ disj (rdK ops q.1 q.2) (wrK o r) = true := fun j q hq hij hdj => by
      obtain ⟨q1, q2⟩ := of_ j q hq
      rcases OK.two i j q.1 o q.2 r hij (by simpa using r3) r1 q1 q2 with h | h
      · have := hcl j hdj i (by simpa using h)
        rw [hdi] at this; cases this
      · exact h
    have earlier : ∀ (j : Nat) (q : PR), ps[j]? = some q → j < i → l.getD j false = false → disj (wrK o r) (wrK q.1 q.2) = true ∧ disj (wrK o r) (rdK ops q.1 q.2) = true ∧ disj (rdK ops o r) (wrK q.1 q.2) = true := fun j q hq hij hdj => by
      obtain ⟨q1, q2⟩ := of_ j q hq
      rcases OK.two j i o q.1 r q.2 hij q1 q2 (by simpa using r3) r1 with h | h
      · have := hanc j (by simpa using h)
        rw [hdj] at this; cases this
      · exact h
    have hst := fs i o r r3 r1
    have hpre : runS (ps.take i) s = pickS (fun j => decide (j < i)) ps 0 s := by
      have e1 : ps = ps.take i ++ ps.drop i := (List.take_append_drop i ps).symm
      have hl1 : (ps.take i).length = i := by rw [List.length_take]; omega
      conv => rhs; rw [e1]
      rw [pick_append, hl1, Nat.zero_add, pick_all (ps.take i) 0 s (fun j hj => by simp; omega)]
      exact (agr_all (fun k => pick_none (fun j q _ hd => by simp at hd; omega))).symm
    have hag : ∀ k ∈ rdK ops o r, agr (pickS (fun j => l.getD j false) ps 0 s) (runS (ps.take i) s) k := fun k hk => by
      rw [hpre]
      refine pick_agr (agr.refl s k) (fun j q hq hne => ?_)
      rw [Nat.zero_add] at hne
      rcases Nat.lt_trichotomy j i with hji | hji | hji
      · have hd : l.getD j false = false := by
          cases hx : l.getD j false with
          | true => rw [hx] at hne; simp [hji] at hne
          | false => rfl
        exact disj_not (earlier j q hq hji hd).2.2 hk
      · subst hji; rw [hdi] at hne; simp at hne
      · have hd : l.getD j false = true := by
          cases hx : l.getD j false with
          | true => rfl
          | false => rw [hx] at hne; simp [Nat.not_lt.2 (Nat.le_of_lt hji)] at hne
        exact fun hw => disj_not (later j q hq hji hd).2.1 hw hk
    refine step_wp hT hP hst S1 hag (fun id h1 h2 h3 => ?_) hoi (fun v w2 c2 S2 => ?_)
    · -- the numbers are free
      rcases h3 with h3 | ⟨j, hj, hdj, hj1, hj2⟩
      · have := Fmono 0 i (Nat.zero_le _) (by omega); omega
      · rcases Nat.lt_trichotomy j i with hji | hji | hji
        · have := Fmono (j + 1) i hji (by omega); omega
        · subst hji; rw [hdi] at hdj; cases hdj
        · have := Fmono (i + 1) j hji (by omega); omega
    · have hsz : i < l.size := by omega
      refine ⟨by simpa using hl, by rw [put_defers]; exact hdf, fun j hj x hx => ?_, c2, ?_⟩
      · rw [set_getD hsz] at hj ⊢
        split
        · rfl
        · by_cases hji : j = i
          · subst hji; exact hanc x hx
          · rw [if_neg hji] at hj; exact hcl j hj x hx
      · have e : apS (pickS (fun j => l.getD j false) ps 0 s) (o, r) = pickS (fun j => (l.setIfInBounds i true).getD j false) ps 0 s := by
          have := agr_all (pick_more (d := fun j => l.getD j false) r2 hdi s (fun j q hq hij hdj k hk hw => disj_not (later j q hq hij hdj).1 hw hk))
          rw [this]
          congr 1
          funext j
          rw [set_getD hsz]
        rw [← e]
        refine S2.dom_mono (fun id hid => ?_)
        rcases hid with (hid | ⟨j, hj, hdj, hj1, hj2⟩) | hid
        · exact .inl hid
        · exact .inr ⟨j, hj, by rw [set_getD hsz]; split; rfl; exact hdj, hj1, hj2⟩
        · exact .inr ⟨i, hi', by rw [set_getD hsz, if_pos rfl], hid.1, hid.2⟩
  · -- the end
    rintro l a1 w1 ⟨hl, hdf, hcl, c1, S1⟩ hr
    have hall : ∀ j, j < ops.size → l.getD j false = true := by
      intro j
      induction j using Nat.strongRecOn with
      | _ j ih =>
        intro hj
        cases hd : l.getD j false with
        | true => rfl
        | false =>
          exfalso
          have : j ∈ Region.ready .any ops l := by
            rw [mem_ready]
            have hjl : j < l.size := by omega
            refine ⟨by simpa [hjl] using hd, ops[j], by simp [hj], fun e he hb => ?_⟩
            have := OK.lt j ops[j] (by simp [hj]) e (by simpa using he) hb
            exact ih e.on (by omega) (by omega)
          rw [hr] at this
          cases this
    have e : pickS (fun j => l.getD j false) ps 0 s = runS ps s := pick_all ps 0 s (fun j hj => by rw [Nat.zero_add]; exact hall j (by omega))
    rw [e] at S1
    refine hQ a1 w1 c1 (S1.dom_mono (fun id hid => ?_)) hdf
    rcases hid with hid | ⟨j, hj, _, _, h2⟩
    · have h1 := Fmono 0 ops.size (Nat.zero_le _) (Nat.le_refl _)
      have h3 : F ops.size = n' := by simpa using fn
      omega
    · have h1 := Fmono (j + 1) ops.size (by omega) (Nat.le_refl _)
      have h3 : F ops.size = n' := by simpa using fn
      omega
  · unfold leftA
    simp
  · have rep : ∀ i, (Array.replicate ops.size false).getD i false = false := fun i => by
      by_cases h : i < ops.size <;> simp [h]
    refine ⟨by simp, rfl, fun i hi => (by rw [rep] at hi; cases hi), c, ?_⟩
    have e : pickS (fun j => (Array.replicate ops.size false).getD j false) ps 0 s = s := agr_all (fun k => pick_none (fun j q _ hd => (by rw [rep] at hd; cases hd)))
    rw [e]
    exact S.dom_mono (fun j hj => .inl hj)
end
def allT (ps : List Prop) : Prop := ∀ p ∈ ps, p
theorem allP_iff : ∀ {ps : List Prop} {X : Prop}, allP ps X → allT ps ∧ X
  | [], X, h => ⟨fun p hp => by simp at hp, h⟩
  | p :: ps, X, h => by
    obtain ⟨h1, h2⟩ := h
    obtain ⟨h3, h4⟩ := allP_iff h2
    exact ⟨fun q hq => by rcases List.mem_cons.1 hq with rfl | hq; exact h1; exact h3 q hq, h4⟩
abbrev MP := List (Nat × Option Nat)
def MOk (c c' : Cf) (M : MP) : Prop := ∀ p ∈ M, (∀ j, p.2 = some j → c'.m p.1 = c.m j) ∧ (p.2 = none → c'.m p.1 = some ⟨none, 0, 0, []⟩)
theorem MOk.left {c c' : Cf} {M N : MP} (h : MOk c c' (M ++ N)) : MOk c c' M := fun p hp => h p (List.mem_append.2 (.inl hp))
theorem MOk.right {c c' : Cf} {M N : MP} (h : MOk c c' (M ++ N)) : MOk c c' N := fun p hp => h p (List.mem_append.2 (.inr hp))
theorem allT.left {a b : List Prop} (h : allT (a ++ b)) : allT a := fun p hp => h p (List.mem_append.2 (.inl hp))
theorem allT.right {a b : List Prop} (h : allT (a ++ b)) : allT b := fun p hp => h p (List.mem_append.2 (.inr hp))
theorem allT.one {p : Prop} (h : allT [p]) : p := h p (by simp)
section
variable {c c' : Cf} {w : World} {O : Store}
theorem mC_sound (hz : c'.Z = c.Z) (hO : ∀ i o, O i = some o → ObOk c w i o) {x' x : Ce} {M : MP} {ps : List Prop} (h : mC O x' x = some (M, ps)) (hM : MOk c c' M) (hp : allT ps) {v : Value} (hv : RC c w v x) : RC c' w v x' := by
  unfold mC at h
  split at h
  · cases h
  · rename_i y hy; cases h; exact RC.one (fun e => hy e) hv
  · cases h; exact hv
  · cases h; exact hv
  · cases h; exact hv
  · cases h; exact ⟨by rw [show v = _ from hv, hp.one], trivial⟩
  · cases h; exact ⟨by rw [show v = _ from hv, hp.one], trivial⟩
  · cases h; exact ⟨by rw [hv.1, hp.one], trivial⟩
  · split at h <;> cases h
    rename_i hk
    subst hk
    have := hp.one
    subst this
    exact hv
  · cases h; have := hp.one; subst this; exact hv
  · cases h; exact hv
  · cases h; exact hv
  · cases h; exact hv
  · cases h
    have := hp.one
    subst this
    rw [show v = _ from hv]
    exact RT.sl_nil _ _ _
  · cases h
    have := hp.one
    subst this
    exact hv
  · rename_i t l u m
    obtain ⟨m', hc, e⟩ := map_some h
    cases e
    obtain ⟨rfl, rfl⟩ := cast_eq hc
    have := hp.one
    subst this
    show RT c'.Z w _ _ _
    rw [hz]
    exact hv
  · rename_i t l u m
    obtain ⟨m', hc, e⟩ := map_some h
    cases e
    obtain ⟨rfl, rfl⟩ := cast_eq hc
    have := hp.one
    subst this
    show RT c'.Z w _ _ _
    rw [hz]
    have := RT.unE (.lt u) m [v] hv
    rw [unE_lt, ← unL_eq] at this
    exact this
  · rename_i t l u m
    obtain ⟨m', hc, e⟩ := map_some h
    cases e
    obtain ⟨rfl, rfl⟩ := cast_eq hc
    have := hp.one
    subst this
    show RT c'.Z w _ _ _
    rw [hz]
    have := RT.unE (.lf u) m [v] hv
    rw [unL_eq]
    exact this
  · rename_i t l u m
    obtain ⟨m', hc, e⟩ := map_some h
    cases e
    obtain ⟨rfl, rfl⟩ := cast_eq hc
    have := hp.one
    subst this
    show RT c'.Z w _ _ _
    rw [hz]
    exact hv
  · rename_i t l u m
    obtain ⟨m', hc, e⟩ := map_some h
    cases e
    obtain ⟨rfl, rfl⟩ := cast_eq hc
    have := hp.one
    subst this
    show RT c'.Z w _ _ _
    rw [hz]
    exact hv
  · rename_i t l j
    split at h
    · rename_i u m k hj
      obtain ⟨m', hc, e⟩ := map_some h
      cases e
      have := hp.one
      subst this
      obtain ⟨en, k1, rfl⟩ := hv
      obtain ⟨e', q1, q2, q3⟩ := hO j _ hj
      rw [k1] at q1; cases q1
      show RT c'.Z w _ _ _
      rw [hz]
      exact RowV.ow ⟨q2, q3⟩ hc
    · cases h
  · rename_i i j
    cases h
    obtain ⟨e, k1, k2⟩ := hv
    exact ⟨e, by rw [(hM (i, some j) (by simp)).1 j rfl]; exact k1, k2⟩
  · rename_i i
    cases h
    exact ⟨⟨none, 0, 0, []⟩, (hM (i, none) (by simp)).2 rfl, hv⟩
  · rename_i i o j o'
    cases hb : Nat.beq o o' with
    | false => rw [hb] at h; cases h
    | true =>
      rw [hb] at h
      cases h
      have := Nat.eq_of_beq_eq_true hb
      subst this
      obtain ⟨e, g, k1, k2, k3⟩ := hv
      exact ⟨e, g, by rw [(hM (i, some j) (by simp)).1 j rfl]; exact k1, k2, k3⟩
  · rename_i f l g m
    cases hb : (Nat.beq f g && Nat.beq l.length m.length) with
    | false => rw [hb] at h; cases h
    | true =>
      rw [hb] at h
      cases h
      simp only [Bool.and_eq_true] at hb
      have h1 := Nat.eq_of_beq_eq_true hb.1
      have h2 := Nat.eq_of_beq_eq_true hb.2
      subst h1
      obtain ⟨vs, k1, k2, k3⟩ := hv
      refine ⟨vs, k1, by rw [k2, h2], fun k i hk => ?_⟩
      have hkm : k < m.length := by rw [← h2]; exact (List.getElem?_eq_some_iff.1 hk).1
      obtain ⟨e, g', q1, q2, q3⟩ := k3 k m[k] (List.getElem?_eq_getElem hkm)
      refine ⟨e, g', ?_, q2, q3⟩
      rw [(hM (i, some m[k]) (List.mem_of_getElem? (i := k) (by rw [List.getElem?_zip_eq_some]; exact ⟨hk, by simp [hkm]⟩))).1 _ rfl]
      exact q1
  · cases h
theorem mCs_sound (hz : c'.Z = c.Z) (hO : ∀ i o, O i = some o → ObOk c w i o) : ∀ {xs ys : List Ce} {M : MP} {ps : List Prop}, mCs O xs ys = some (M, ps) → MOk c c' M → allT ps → ∀ {vs : List Value}, RL c w vs ys → RL c' w vs xs
  | [], [], _, _, h, _, _, vs, hv => by
    have : vs = [] := List.eq_nil_of_length_eq_zero hv.1
    subst this
    exact RL.nil
  | x :: xs, y :: ys, M, ps, h, hM, hp, vs, hv => by
    unfold mCs at h
    split at h
    · rename_i l p m q h1 h2
      cases h
      match vs, hv with
      | [], hv => have := hv.1; simp at this
      | v :: vs, hv =>
        refine RL.cons (mC_sound hz hO h1 hM.left hp.left (hv.2 0 v y rfl rfl)) (mCs_sound hz hO h2 hM.right hp.right ⟨by have := hv.1; simpa using this, fun i u z e1 e2 => hv.2 (i + 1) u z (by simpa using e1) (by simpa using e2)⟩)
    · cases h
  | [], _ :: _, _, _, h, _, _, _, _ => by simp [mCs] at h
  | _ :: _, [], _, _, h, _, _, _, _ => by simp [mCs] at h
theorem mCs_len : ∀ {xs ys : List Ce} {M : MP} {ps : List Prop}, mCs O xs ys = some (M, ps) → xs.length = ys.length
  | [], [], _, _, _ => rfl
  | x :: xs, y :: ys, M, ps, h => by
    unfold mCs at h
    split at h
    · rename_i l p m q h1 h2; cases h; simp [mCs_len h2]
    · cases h
  | [], _ :: _, _, _, h => by simp [mCs] at h
  | _ :: _, [], _, _, h => by simp [mCs] at h
theorem mTu_sound (hz : c'.Z = c.Z) (hO : ∀ i o, O i = some o → ObOk c w i o) : ∀ {xs ys : List (Bool × List Ce)} {M : MP} {ps : List Prop}, mTu O xs ys = some (M, ps) → MOk c c' M → allT ps → xs.length = ys.length ∧ ∀ {vs : List Value}, vs.length = ys.length → (∀ (i : Nat) (v : Value) (p : Bool × List Ce), vs[i]? = some v → ys[i]? = some p → RP c w v p) → ∀ (i : Nat) (v : Value) (p : Bool × List Ce), vs[i]? = some v → xs[i]? = some p → RP c' w v p
  | [], [], _, _, _, _, _ => ⟨rfl, fun _ _ i v p _ h => by simp at h⟩
  | (a, x) :: xs, (b, y) :: ys, M, ps, h, hM, hp => by
    unfold mTu at h
    split at h
    · rename_i l p m q h1 h2
      cases h
      cases hab : (a == b) with
      | false => rw [hab] at h1; cases h1
      | true =>
        rw [hab] at h1
        have hab' : a = b := by simpa using hab
        subst hab'
        obtain ⟨k1, k2⟩ := mTu_sound hz hO h2 hM.right hp.right
        refine ⟨by simp [k1], fun {vs} hl hv i v p e1 e2 => ?_⟩
        match vs, hl with
        | u :: vs, hl =>
          cases i with
          | zero =>
            cases e1
            cases e2
            have hr := hv 0 v (a, y) rfl rfl
            unfold RP at hr ⊢
            cases a with
            | true =>
              simp only [if_true] at hr ⊢
              obtain ⟨us, r1, r2⟩ := hr
              exact ⟨us, r1, mCs_sound hz hO h1 hM.left hp.left r2⟩
            | false =>
              simp only [Bool.false_eq_true, if_false] at hr ⊢
              obtain ⟨z, rfl, r2⟩ := hr
              have hl := mCs_len h1
              match x, hl with
              | [x1], _ =>
                unfold mCs at h1
                split at h1
                · rename_i l' p' m' q' g1 g2
                  cases h1
                  exact ⟨x1, rfl, mC_sound hz hO g1 hM.left.left hp.left.left r2⟩
                · cases h1
          | succ i => exact k2 (by simpa using hl) (fun j u' p' f1 f2 => hv (j + 1) u' p' (by simpa using f1) (by simpa using f2)) i v p (by simpa using e1) (by simpa using e2)
    · cases h
  | [], _ :: _, _, _, h, _, _ => by simp [mTu] at h
  | _ :: _, [], _, _, h, _, _ => by simp [mTu] at h
theorem mA_sound (hz : c'.Z = c.Z) (hO : ∀ i o, O i = some o → ObOk c w i o) {x y : AV} {M : MP} {ps : List Prop} (h : mA O x y = some (M, ps)) (hM : MOk c c' M) (hp : allT ps) {v : Value} (hv : RA c w v y) : RA c' w v x := by
  unfold mA at h
  split at h
  · exact mC_sound hz hO h hM hp hv
  · obtain ⟨vs, h1, h2⟩ := hv
    exact ⟨vs, h1, mCs_sound hz hO h hM hp h2⟩
  · obtain ⟨vs, h1, h2, h3⟩ := hv
    obtain ⟨k1, k2⟩ := mTu_sound hz hO h hM hp
    refine ⟨vs, h1, by rw [h2, k1], fun i v p e1 e2 => ?_⟩
    exact k2 (vs := vs.toList) (by simpa using h2) (fun j u q f1 f2 => h3 j u q (by simpa using f1) f2) i v p (by simpa using e1) e2
  · cases h
theorem mEs_sound (hz : c'.Z = c.Z) (hO : ∀ i o, O i = some o → ObOk c w i o) : ∀ {xs ys : List (List Ce)} {M : MP} {ps : List Prop}, mEs O xs ys = some (M, ps) → MOk c c' M → allT ps → xs.length = ys.length ∧ ∀ (j : Nat) (x y : List Ce), xs[j]? = some x → ys[j]? = some y → x.length = y.length ∧ ∀ {vs : List Value}, RL c w vs y → RL c' w vs x
  | [], [], _, _, _, _, _ => ⟨rfl, fun j x y h => by simp at h⟩
  | x :: xs, y :: ys, M, ps, h, hM, hp => by
    unfold mEs at h
    split at h
    · rename_i l p m q h1 h2
      cases h
      obtain ⟨k1, k2⟩ := mEs_sound hz hO h2 hM.right hp.right
      refine ⟨by simp [k1], fun j x' y' e1 e2 => ?_⟩
      cases j with
      | zero => cases e1; cases e2; exact ⟨mCs_len h1, fun hv => mCs_sound hz hO h1 hM.left hp.left hv⟩
      | succ j => exact k2 j x' y' (by simpa using e1) (by simpa using e2)
    · cases h
  | [], _ :: _, _, _, h, _, _ => by simp [mEs] at h
  | _ :: _, [], _, _, h, _, _ => by simp [mEs] at h
theorem cond_none0 {b : Bool} {α : Type} {x : Option α} {y : α} (h : (bif b then x else none) = some y) : b = true ∧ x = some y := by
  cases b with
  | true => exact ⟨rfl, h⟩
  | false => cases h
theorem mO_sound (hz : c'.Z = c.Z) (hO : ∀ i o, O i = some o → ObOk c w i o) {i' j : Nat} {o' o : Ob} {M : MP} {ps : List Prop} (h : mO O o' (some o) = some (M, ps)) (hM : MOk c c' M) (hp : allT ps) (hj : c'.m i' = c.m j) (hk : ObOk c w j o) : ObOk c' w i' o' ∧ o.live = true ∧ o'.live = true := by
  unfold mO at h
  split at h
  · rename_i xs ys he
    cases he
    obtain ⟨e, g, vs, et, k1, k2, k0, k3, k4⟩ := hk
    exact ⟨⟨e, g, vs, et, by rw [hj]; exact k1, k2, k0, k3, mCs_sound hz hO h hM hp k4⟩, rfl, rfl⟩
  · rename_i e t l k e' u m k' he
    cases he
    obtain ⟨hb, hh⟩ := cond_none0 h
    clear h
    simp only [Bool.and_eq_true] at hb
    have := Nat.eq_of_beq_eq_true hb.1
    subst this
    have := Nat.eq_of_beq_eq_true hb.2
    subst this
    obtain ⟨m', h1, h2⟩ := map_some hh
    cases h2
    obtain ⟨rfl, rfl⟩ := cast_eq h1
    have e1 := hp.one
    subst e1
    obtain ⟨en, k1, k0, k2, k3⟩ := hk
    refine ⟨⟨en, by rw [hj]; exact k1, k0, k2, k3.imp id ?_⟩, rfl, rfl⟩
    rintro ⟨g, vs, b1, b2, b3, b4, b5, b6, b7⟩
    exact ⟨g, vs, b1, b2, b3, b4, b5, by rw [hz]; exact b6, b7⟩
  · rename_i e t l k e' u m k' he
    cases he
    obtain ⟨hb, hh⟩ := cond_none0 h
    clear h
    simp only [Bool.and_eq_true] at hb
    have := Nat.eq_of_beq_eq_true hb.1
    subst this
    have := Nat.eq_of_beq_eq_true hb.2
    subst this
    obtain ⟨m', h1, h2⟩ := map_some hh
    cases h2
    obtain ⟨rfl, rfl⟩ := cast_eq h1
    have e1 := hp.one
    subst e1
    obtain ⟨en, k1, k2⟩ := hk
    exact ⟨⟨en, by rw [hj]; exact k1, k2⟩, rfl, rfl⟩
  · rename_i he; cases he
  · rename_i he; cases he
  · rename_i e t es e' u fs he
    cases he
    cases hb : Nat.beq e e' with
    | false => rw [hb] at h; cases h
    | true =>
      rw [hb] at h
      have := Nat.eq_of_beq_eq_true hb
      subst this
      simp only [cond_true] at h
      split at h
      · rename_i htu
        subst htu
        obtain ⟨en, g, vs, k1, k0, k2, k3, k4, k5, k6, k7, k8⟩ := hk
        obtain ⟨q1, q2⟩ := mEs_sound hz hO h hM hp
        refine ⟨⟨en, g, vs, by rw [hj]; exact k1, k0, by rw [q1]; exact k2, by rw [q1]; exact k3, by rw [q1]; exact k4, k5, k6, by rw [q1]; exact k7, fun n cs hn => ?_⟩, rfl, rfl⟩
        have hn' : n < fs.length := by rw [← q1]; exact (List.getElem?_eq_some_iff.1 hn).1
        obtain ⟨r1, r2⟩ := q2 n cs fs[n] hn (List.getElem?_eq_getElem hn')
        obtain ⟨s1, s2⟩ := k8 n fs[n] (List.getElem?_eq_getElem hn')
        exact ⟨by rw [r1]; exact s1, r2 s2⟩
      · cases h
  · cases h
theorem mO_none {i' : Nat} {o' : Ob} {M : MP} {ps : List Prop} (h : mO O o' none = some (M, ps)) (hp : allT ps) (hj : c'.m i' = some ⟨none, 0, 0, []⟩) : ObOk c' w i' o' ∧ True := by
  unfold mO at h
  split at h
  · rename_i he; cases he
  · rename_i he; cases he
  · rename_i he; cases he
  · cases h
    have e1 := hp.one
    subst e1
    exact ⟨⟨_, hj, rfl, rfl, .inl ⟨rfl, rfl, rfl, rfl⟩⟩, trivial⟩
  · rename_i e t l _
    obtain ⟨hb, h⟩ := cond_none0 h
    simp only [Bool.and_eq_true] at hb
    cases h
    have e1 := hp.one
    subst e1
    exact ⟨⟨_, hj, List.nodup_nil, hb.1, Nat.eq_of_beq_eq_true hb.2, .inl ⟨rfl, rfl, rfl, rfl, rfl, rfl⟩⟩, trivial⟩
  · rename_i he; cases he
  · cases h
theorem conM_look : ∀ {M : MP}, conM M = true → ∀ p ∈ M, look M p.1 = some p.2
  | (i, j) :: M, h, p, hp => by
    simp only [conM, Bool.and_eq_true] at h
    unfold look
    rcases List.mem_cons.1 hp with rfl | hp
    · simp [Nat.beq_refl]
    · have := List.all_eq_true.1 h.1 p hp
      cases hb : Nat.beq i p.1 with
      | true =>
        have e := Nat.eq_of_beq_eq_true hb
        rw [e, Nat.beq_refl] at this
        simp only [cond_true, beq_iff_eq] at this
        simp only [cond_true, this]
      | false => exact conM_look h.2 p hp
theorem conM_aux : ∀ {M : MP}, conM M = true → ∀ p ∈ M, ∀ q ∈ M, ∀ a, p.2 = some a → q.2 = some a → p.1 = q.1
  | (i, j) :: M, h, p, hp, q, hq, a, h1, h2 => by
    simp only [conM, Bool.and_eq_true] at h
    have one : ∀ r ∈ M, r.2 = some a → j = some a → r.1 = i := fun r hr hr2 hj => by
      have := List.all_eq_true.1 h.1 r hr
      cases hb : Nat.beq r.1 i with
      | true => exact Nat.eq_of_beq_eq_true hb
      | false => rw [hb, hr2, hj] at this; simp [Nat.beq_refl] at this
    rcases List.mem_cons.1 hp with rfl | hp <;> rcases List.mem_cons.1 hq with rfl | hq
    · rfl
    · exact (one q hq h2 h1).symm
    · exact one p hp h1 h2
    · exact conM_aux h.2 p hp q hq a h1 h2
theorem conM_inj : ∀ {M : MP}, conM M = true → ∀ i j a, look M i = some (some a) → look M j = some (some a) → i = j := by
  intro M h i j a h1 h2
  exact conM_aux h _ (look_mem h1) _ (look_mem h2) a rfl rfl
theorem mTM_sound {T : Nat → Option AV} : ∀ {tm : TM} {M : MP} {ps : List Prop}, mTM T O tm = some (M, ps) → ∀ t v, (t, v) ∈ tm → ∃ u N qs, T t = some u ∧ mA O v u = some (N, qs) ∧ (∀ p ∈ N, p ∈ M) ∧ (∀ p ∈ qs, p ∈ ps)
  | [], _, _, _, t, v, h => by simp at h
  | (t', v') :: tm, M, ps, h, t, v, hm => by
    unfold mTM at h
    split at h
    · rename_i u hu
      split at h
      · rename_i l p m q h1 h2
        cases h
        rcases List.mem_cons.1 hm with hm | hm
        · cases hm
          exact ⟨u, l, p, hu, h1, fun x hx => List.mem_append.2 (.inl hx), fun x hx => List.mem_append.2 (.inl hx)⟩
        · obtain ⟨u', N, qs, k1, k2, k3, k4⟩ := mTM_sound h2 t v hm
          exact ⟨u', N, qs, k1, k2, fun x hx => List.mem_append.2 (.inr (k3 x hx)), fun x hx => List.mem_append.2 (.inr (k4 x hx))⟩
      · cases h
    · cases h
theorem look_left {α : Type} {l m : List (Nat × α)} {i : Nat} {x : α} (h : look l i = some x) : look (l ++ m) i = some x := by
  rw [look_append, h]
theorem mOB_sound : ∀ {ob : OB} {M : MP} {ps : List Prop} {M' : MP} {ps' : List Prop}, mOB O ob M ps = some (M', ps') → (∀ p ∈ M, p ∈ M') ∧ (∀ p ∈ ps, p ∈ ps') ∧ (∀ i x, look M i = some x → look M' i = some x) ∧
    ∀ i o, (i, o) ∈ ob → ∃ tg N qs, look M' i = some tg ∧ (∀ p ∈ N, p ∈ M') ∧ (∀ p ∈ qs, p ∈ ps') ∧ ((∃ j x, tg = some j ∧ O j = some x ∧ mO O o (some x) = some (N, qs)) ∨ (tg = none ∧ mO O o none = some (N, qs)))
  | [], M, ps, M', ps', h => by
    cases h
    exact ⟨fun p h => h, fun p h => h, fun i x h => h, fun i o h => by simp at h⟩
  | (i, o) :: ob, M, ps, M', ps', h => by
    unfold mOB at h
    split at h
    · rename_i j hl
      split at h
      · rename_i x hx
        split at h
        · rename_i l p hm
          obtain ⟨k1, k2, k3, k4⟩ := mOB_sound h
          refine ⟨fun q hq => k1 q (List.mem_append.2 (.inl hq)), fun q hq => k2 q (List.mem_append.2 (.inl hq)), fun a b hab => k3 a b (look_left hab), fun a b hab => ?_⟩
          rcases List.mem_cons.1 hab with hab | hab
          · cases hab
            exact ⟨some j, l, p, k3 _ _ (look_left hl), fun q hq => k1 q (List.mem_append.2 (.inr hq)), fun q hq => k2 q (List.mem_append.2 (.inr hq)), .inl ⟨j, x, rfl, hx, hm⟩⟩
          · exact k4 a b hab
        · cases h
      · cases h
    · rename_i hl
      split at h
      · rename_i l p hm
        obtain ⟨k1, k2, k3, k4⟩ := mOB_sound h
        refine ⟨fun q hq => k1 q (List.mem_append.2 (.inl hq)), fun q hq => k2 q (List.mem_append.2 (.inl hq)), fun a b hab => k3 a b (look_left hab), fun a b hab => ?_⟩
        rcases List.mem_cons.1 hab with hab | hab
        · cases hab
          exact ⟨none, l, p, k3 _ _ (look_left hl), fun q hq => k1 q (List.mem_append.2 (.inr hq)), fun q hq => k2 q (List.mem_append.2 (.inr hq)), .inr ⟨rfl, hm⟩⟩
        · exact k4 a b hab
      · cases h
    · cases h
end
end Go.Proofs.YtjoonfegjobgbaaGreatDoor
