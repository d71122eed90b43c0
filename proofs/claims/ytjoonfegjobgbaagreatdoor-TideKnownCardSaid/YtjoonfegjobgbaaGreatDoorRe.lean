/- Texts of this claim, joined: A9 A10 A11. -/
import Derived.Laws.Tables
import Derived.Test.YtjoonfegjobgbaaGreatDoorRd
set_option linter.unusedVariables false
set_option linter.unusedSimpArgs false
set_option maxRecDepth 100000
namespace Go.Proofs.YtjoonfegjobgbaaGreatDoor
open Go Go.RowKit
theorem isT_look {tb : Tbl} {t : Nat} {y : Ty} (h : isT tb t y = true) : ∃ e, look tb t = some (y, e) := by
  unfold isT at h
  split at h
  · rename_i u e k
    exact ⟨e, by rw [k]; simpa using h⟩
  · cases h
theorem fsB_fld {tb : Tbl} : ∀ {y : Ty} {o0 : Nat} {fs : List Field} {n o : Nat} {u : Ty}, fsB tb y o0 fs = true → y.fld n = some (o, u) → ∃ f, fs[n]? = some f ∧ f.offset = o0 + o ∧ isT tb f.type u = true
  | .pr a b, o0, f :: fs, n, o, u, h, k => by
    simp only [fsB, Bool.and_eq_true] at h
    cases n with
    | zero =>
      simp only [Ty.fld] at k
      cases k
      exact ⟨f, rfl, by rw [Nat.eq_of_beq_eq_true h.1.1]; rfl, h.1.2⟩
    | succ n =>
      simp only [Ty.fld] at k
      cases hb : b.fld n with
      | none => rw [hb] at k; cases k
      | some p =>
        rw [hb] at k
        cases k
        obtain ⟨f', k1, k2, k3⟩ := fsB_fld h.2 hb
        exact ⟨f', by simpa using k1, by omega, k3⟩
  | .pr _ _, _, [], _, _, _, h, _ => by simp [fsB] at h
  | .un, _, _, _, _, _, _, k => by simp [Ty.fld] at k
  | .bo, _, _, _, _, _, _, k => by simp [Ty.fld] at k
  | .it _, _, _, _, _, _, _, k => by simp [Ty.fld] at k
  | .st, _, _, _, _, _, _, k => by simp [Ty.fld] at k
  | .sl _, _, _, _, _, _, _, k => by simp [Ty.fld] at k
  | .pt _, _, _, _, _, _, _, k => by simp [Ty.fld] at k
  | .fn, _, _, _, _, _, _, k => by simp [Ty.fld] at k
  | .lt _, _, _, _, _, _, _, k => by simp [Ty.fld] at k
  | .lf _, _, _, _, _, _, _, k => by simp [Ty.fld] at k
  | .oq, _, _, _, _, _, _, k => by simp [Ty.fld] at k
section
variable {P : Program} {C : Cfg} {gp : Option Nat} {Z0 : Nat → Prop} {w0 : Base} {w w' : World} {D : Nat → Prop} {c : Cf} {T : Nat → Option AV} {O : Store} {a : Act} {o : Oper}
theorem tyOk_of (hT : tyB P C.ty C.ty = true) {t : Nat} {y : Ty} (h : C.t t = some y) : ∃ e, look C.ty t = some (y, e) ∧ TyOk P C.ty t y e := by
  unfold Cfg.t at h
  cases hl : look C.ty t with
  | none => rw [hl] at h; cases h
  | some p =>
    obtain ⟨y', e⟩ := p
    rw [hl] at h
    cases h
    exact ⟨e, rfl, tyB_sound hT hl⟩
theorem elOk_of (hT : tyB P C.ty C.ty = true) {t e : Nat} {y : Ty} (h : C.el t = some (e, y)) : P.underlying t = some (.slice e) ∧ ∃ e', TyOk P C.ty e y e' := by
  unfold Cfg.el at h
  split at h <;> cases h
  rename_i hl
  obtain ⟨d, h1, h2⟩ := (tyB_sound hT hl).und
  unfold dscB at h2
  split at h2 <;> first
    | (cases h2; done)
    | (rename_i e2; cases e2; done)
    | skip
  all_goals
    rename_i e2
    cases e2
    simp only [Bool.and_eq_true] at h2
    obtain ⟨e3, h4⟩ := isT_look h2.2
    rw [Nat.eq_of_beq_eq_true h2.1] at h1
    exact ⟨h1, e3, tyB_sound hT h4⟩
theorem fld_of (hT : tyB P C.ty C.ty = true) {t f o : Nat} {y u : Ty} (h : C.t t = some y) (k : y.fld f = some (o, u)) : ∃ fs fd e, P.underlying t = some (.struct fs) ∧ fs[f]? = some fd ∧ fd.offset = o ∧ TyOk P C.ty fd.type u e := by
  obtain ⟨e, h1, h2⟩ := tyOk_of hT h
  obtain ⟨d, k1, k2⟩ := h2.und
  cases y with
  | pr a b =>
    unfold dscB at k2
    split at k2 <;> first
      | (cases k2; done)
      | (rename_i e2; cases e2; done)
      | skip
    all_goals
      rename_i e2
      cases e2
      obtain ⟨fd, q1, q2, q3⟩ := fsB_fld k2 k
      obtain ⟨e3, q4⟩ := isT_look q3
      exact ⟨_, fd, e3, k1, by simpa using q1, by omega, tyB_sound hT q4⟩
  | _ => simp [Ty.fld] at k
theorem run_und {t : Nat} {d : TypeDesc} (h : P.underlying t = some d) (w : World) : (underlying t).run P w = .ok d w := run_underlying h w
theorem op_fieldAddr (S : Sim gp Z0 w0 C.N D c T O a.tmps w) (hT : tyB P C.ty C.ty = true) (hd : dstOk C.N o.dst = true) {n t f of : Nat} {y u : Ty} {x : Operand} (ho : o.op = .fieldAddr t x f) (hy : C.t t = some y) (hf : y.fld f = some (of, u)) (hu : u.size ≠ 0) {v : AV} {g off : Nat} (hx : a.eval x = .pointer (some ⟨g, off, none⟩))
    (hv : RA c w (.pointer (some ⟨g, off + of, none⟩)) v) : Done P gp Z0 w0 C.N D T O o a w { v } n := by
  obtain ⟨fs, fd, e, h1, h2, h3, h4⟩ := fld_of hT hy hf
  refine Done.value S hd (v := .pointer (some ⟨g, off + of, none⟩)) ?_ hv
  unfold execOp
  rw [ho]
  refine op_value_of ?_
  simp only [Instr.fieldAt, Sem.run_bind, run_und h1, Result.andThen, h2, Instr.sureAddr, hx, Sem.run_pure, fieldPlace, h4.run_size w]
  rw [if_neg hu, h3]
  show Result.ok (Value.pointer (some (Addr.add ⟨g, off, none⟩ of))) w = _
  rw [add_plain]
theorem op_field (S : Sim gp Z0 w0 C.N D c T O a.tmps w) (hT : tyB P C.ty C.ty = true) (hd : dstOk C.N o.dst = true) {n t f of : Nat} {y u : Ty} {x : Operand} (ho : o.op = .field t x f) (hy : C.t t = some y) (hf : y.fld f = some (of, u)) {cs ds : List Ce} {v : AV} (hx : ev T x = some (.ag cs)) (hs : subC cs of u.size = some ds) (hv : mkA u.agg ds = some v) : Done P gp Z0 w0 C.N D T O o a w { v } n := by
  obtain ⟨fs, fd, e, h1, h2, h3, h4⟩ := fld_of hT hy hf
  obtain ⟨vs, k1, k2⟩ := S.ev hx
  obtain ⟨k3, k4⟩ := k2.sub hs
  refine Done.value S hd (v := mkV u.agg ((vs.toList.drop of).take u.size)) ?_ (RA.mkA k3 hv)
  unfold execOp
  rw [ho]
  refine op_value_of ?_
  simp only [Instr.field, Sem.run_bind, run_und h1, Result.andThen, h2, k1, asAgg, Sem.run_pure, part, h4.run_agg w, h4.run_size w]
  cases ha : u.agg with
  | true =>
    simp only [if_true, mkV, cond, Sem.run_bind, h4.run_size w, Result.andThen]
    show Result.ok (Value.agg (vs.extract fd.offset (fd.offset + u.size))) w = _
    congr 2
    apply Array.toList_inj.1
    rw [h3]
    simp [List.drop_take]
  | false =>
    have h5 : u.size = 1 := by cases u <;> first | rfl | cases ha
    have h6 : of < vs.size := by rw [← Array.length_toList]; omega
    simp only [Bool.false_eq_true, if_false, mkV, cond, h3, h5]
    rw [Array.getElem?_eq_getElem h6]
    have h7 : vs.toList[of]? = some vs[of] := by simp [h6]
    have h8 : ((vs.toList.drop of).take 1).headD undef = vs[of] := by
      rw [List.drop_eq_getElem_cons (by simpa using h6)]
      simp
    rw [h8]
    rfl
theorem op_indexAddr (S : Sim gp Z0 w0 C.N D c T O a.tmps w) (hT : tyB P C.ty C.ty = true) (hd : dstOk C.N o.dst = true) {n t e : Nat} {y : Ty} {x i : Operand} (ho : o.op = .indexAddr t x i) (hy : C.el t = some (e, y)) {g off len cp : Nat} {j : Int} {k : IntKind} (hx : a.eval x = .slice (some ⟨g, off, none⟩) len cp) (hi : a.eval i = .int k j) (h0 : 0 ≤ j ∧ j < len) {v : AV}
    (hv : RA c w (.pointer (some ⟨g, off + j.toNat * y.size, none⟩)) v) : Done P gp Z0 w0 C.N D T O o a w { v } n := by
  obtain ⟨h1, e', h2⟩ := elOk_of hT hy
  refine Done.value S hd (v := .pointer (some ⟨g, off + j.toNat * y.size, none⟩)) ?_ hv
  unfold execOp
  rw [ho]
  refine op_value_of ?_
  simp only [Instr.indexAt, hi, asIntOf, hx, Sem.run_bind, Sem.run_pure, run_und h1, Result.andThen]
  rw [if_pos h0]
  simp only [Sem.run_bind, h2.run_size w, Result.andThen]
  show Result.ok (Value.pointer (some (Addr.add ⟨g, off, none⟩ (j.toNat * y.size)))) w = _
  rw [add_plain]
theorem op_sub (S : Sim gp Z0 w0 C.N D c T O a.tmps w) (hT : tyB P C.ty C.ty = true) (hd : dstOk C.N o.dst = true) {n t e : Nat} {y : Ty} {x : Operand} {lo hi : Option Operand} (ho : o.op = .slice t x lo hi none) (hy : C.el t = some (e, y)) {l : List (El y)} (hx : ev T x = some (.c (.sl y l))) {p q : Int} (hp : optInt (ev T) 0 lo = some p) (hq : optInt (ev T) l.length hi = some q)
    (hc : 0 ≤ p ∧ p ≤ q ∧ q ≤ l.length) : Done P gp Z0 w0 C.N D T O o a w { v := .c (.sl y ((l.drop p.toNat).take (q.toNat - p.toNat))) } n := by
  obtain ⟨h1, e', h2⟩ := elOk_of hT hy
  have hr : RT c.Z w (.sl y) l [a.eval x] := S.ev hx
  rw [RT] at hr
  obtain ⟨A, cp, k1, k2, k3, k4, k5⟩ := hr
  simp at k1
  have hlo : (lo.map a.eval = none ∧ p = 0) ∨ ∃ k, lo.map a.eval = some (.int k p) := by
    rcases optInt_sound S hp with ⟨rfl, rfl⟩ | ⟨z, k, rfl, hz⟩
    · exact .inl ⟨rfl, rfl⟩
    · exact .inr ⟨k, by simp [hz]⟩
  have hhi : (hi.map a.eval = none ∧ q = l.length) ∨ ∃ k, hi.map a.eval = some (.int k q) := by
    rcases optInt_sound S hq with ⟨rfl, rfl⟩ | ⟨z, k, rfl, hz⟩
    · exact .inl ⟨rfl, rfl⟩
    · exact .inr ⟨k, by simp [hz]⟩
  have hb := sliceBounds_run (P := P) true l.length cp hlo hhi ⟨hc.1, hc.2.1, by omega⟩ w
  have hlen : (((l.drop p.toNat).take (q.toNat - p.toNat))).length = q.toNat - p.toNat := by rw [List.length_take, List.length_drop]; omega
  refine Done.value S hd (v := .slice (if cp = p.toNat then A else A.map (·.add (p.toNat * y.size))) (q.toNat - p.toNat) (cp - p.toNat)) ?_ ?_
  · unfold execOp
    rw [ho]
    refine op_value_of ?_
    simp only [Instr.sliceAt, k1, Sem.run_bind, run_und h1, Result.andThen, Instr.slice, Option.map_none, hb, h2.run_size w]
    rfl
  · show RT c.Z w (.sl y) _ [_]
    rw [RT]
    refine ⟨_, cp - p.toNat, by rw [hlen], by omega, by omega, fun hA => ?_, fun j hj => ?_⟩
    · split at hA
      · omega
      · cases A with
        | none => rw [k4 rfl]; omega
        | some _ => cases hA
    · rw [hlen] at hj
      obtain ⟨g, of, us, e1, e2, e3, e4⟩ := k5 (p.toNat + j) (by omega)
      refine ⟨g, of + p.toNat * y.size, us, ?_, e2, ?_, fun i u hu => ?_⟩
      · rw [if_neg (by omega), e1]
        show some (Addr.add ⟨g, of, none⟩ (p.toNat * y.size)) = _
        rw [add_plain]
      · rw [List.getElem_take, List.getElem_drop]; exact e3
      · have := e4 i u hu
        rw [Nat.add_mul] at this
        rw [show of + p.toNat * y.size + (j * y.size + i) = of + (p.toNat * y.size + j * y.size + i) by omega]
        exact this
theorem op_substr (S : Sim gp Z0 w0 C.N D c T O a.tmps w) (hT : tyB P C.ty C.ty = true) (hd : dstOk C.N o.dst = true) {n t : Nat} {x : Operand} {lo hi : Option Operand} (ho : o.op = .slice t x lo hi none) (hy : C.t t = some .st) {s : ByteArray} (hx : ev T x = some (.c (.sc (.string s)))) {p q : Int} (hp : optInt (ev T) 0 lo = some p) (hq : optInt (ev T) s.size hi = some q)
    (hc : 0 ≤ p ∧ p ≤ q ∧ q ≤ s.size) : Done P gp Z0 w0 C.N D T O o a w { v := .c (.sc (.string (s.extract p.toNat q.toNat))) } n := by
  obtain ⟨e, h1, h2⟩ := tyOk_of hT hy
  obtain ⟨d, k1, k2⟩ := h2.und
  have kd : d = .string := by
    unfold dscB at k2
    split at k2 <;> first | rfl | (cases k2; done) | (rename_i e'; cases e')
  subst kd
  obtain ⟨hs1, hs2⟩ : a.eval x = .string s ∧ okv (.string s) := S.ev hx
  have hlo : (lo.map a.eval = none ∧ p = 0) ∨ ∃ k, lo.map a.eval = some (.int k p) := by
    rcases optInt_sound S hp with ⟨rfl, rfl⟩ | ⟨z, k, rfl, hz⟩
    · exact .inl ⟨rfl, rfl⟩
    · exact .inr ⟨k, by simp [hz]⟩
  have hhi : (hi.map a.eval = none ∧ q = s.size) ∨ ∃ k, hi.map a.eval = some (.int k q) := by
    rcases optInt_sound S hq with ⟨rfl, rfl⟩ | ⟨z, k, rfl, hz⟩
    · exact .inl ⟨rfl, rfl⟩
    · exact .inr ⟨k, by simp [hz]⟩
  have hb := sliceBounds_run (P := P) false s.size s.size hlo hhi hc w
  refine Done.value S hd (v := .string (s.extract p.toNat q.toNat)) ?_ ⟨rfl, ?_⟩
  · unfold execOp
    rw [ho]
    refine op_value_of ?_
    simp only [Instr.sliceAt, hs1, Sem.run_bind, run_und k1, Result.andThen, Instr.slice, Option.map_none, hb, Option.isSome_none, Bool.false_eq_true, if_false, Sem.run_pure]
  · show (s.extract p.toNat q.toNat).size ≤ maxI
    have : s.size ≤ maxI := hs2
    rw [ByteArray.size_extract]
    omega
theorem op_index (S : Sim gp Z0 w0 C.N D c T O a.tmps w) (hT : tyB P C.ty C.ty = true) (hd : dstOk C.N o.dst = true) {n t : Nat} {x i : Operand} (ho : o.op = .index t x i) (hy : C.t t = some .st) {s : ByteArray} (hx : ev T x = some (.c (.sc (.string s)))) {j : Int} {k : IntKind} (hi : a.eval i = .int k j) (hc : 0 ≤ j ∧ j < s.size) :
    Done P gp Z0 w0 C.N D T O o a w { v := .c (.sc (.int .u8 ((s.get! j.toNat).toNat : Int))) } n := by
  obtain ⟨e, h1, h2⟩ := tyOk_of hT hy
  obtain ⟨d, k1, k2⟩ := h2.und
  have kd : d = .string := by
    unfold dscB at k2
    split at k2 <;> first | rfl | (cases k2; done) | (rename_i e'; cases e')
  subst kd
  obtain ⟨hs1, hs2⟩ : a.eval x = .string s ∧ okv (.string s) := S.ev hx
  have hj : j.toNat < s.size := by omega
  have hg : s[j.toNat]? = some (s.get! j.toNat) := by
    rw [getElem?_pos s j.toNat hj]
    obtain ⟨d⟩ := s
    have hj' : j.toNat < d.size := hj
    show some d[j.toNat] = some d[j.toNat]!
    rw [getElem!_pos d j.toNat hj']
  refine Done.value S hd (v := .int .u8 ((s.get! j.toNat).toNat : Int)) ?_ ⟨rfl, ?_⟩
  · unfold execOp
    rw [ho]
    refine op_value_of ?_
    simp only [Instr.index, hi, asIntOf, hs1, Sem.run_bind, Sem.run_pure, run_und k1, Result.andThen]
    rw [if_pos hc.1, hg]
    rfl
  · have h3 : IntKind.u8.min = 0 := rfl
    have h4 : IntKind.u8.max = 255 := rfl
    have := (s.get! j.toNat).toNat_lt
    refine ⟨by rw [h3]; omega, by rw [h4]; omega⟩
end
theorem foldl_lay (o : Nat) : ∀ (xs : List Value) (k : Nat) (cs : Array Value), o + k + xs.length ≤ cs.size →
    ((xs.zipIdx k).foldl (fun (cs : Array Value) (p : Value × Nat) => cs.setIfInBounds (o + p.2) p.1) cs).toList = cs.toList.take (o + k) ++ xs ++ cs.toList.drop (o + k + xs.length)
  | [], k, cs, _ => by simp
  | x :: xs, k, cs, h => by
    simp only [List.length_cons] at h
    rw [List.zipIdx_cons, List.foldl_cons, foldl_lay o xs (k + 1) _ (by simp; omega)]
    simp only [Array.toList_setIfInBounds, List.length_cons]
    have hk : o + k < cs.toList.length := by simp; omega
    rw [List.take_set, List.drop_set, if_pos (by omega), ← Nat.add_assoc, List.take_succ_eq_append_getElem hk]
    rw [List.set_append_right _ _ (by rw [List.length_take]; exact Nat.min_le_left _ _)]
    simp only [List.length_take]
    rw [show o + k - min (o + k) cs.toList.length = 0 by omega]
    simp [Nat.add_assoc, Nat.add_comm 1]
section
variable {P : Program} {C : Cfg} {gp : Option Nat} {Z0 : Nat → Prop} {w0 : Base} {w w' : World} {D : Nat → Prop} {c : Cf} {T : Nat → Option AV} {O : Store} {a : Act} {o : Oper}
theorem parts_sound (S : Sim gp Z0 w0 C.N D c T O a.tmps w) {pl pl' : Nat → Option (Nat × Nat)} : ∀ {ps : List (Nat × Operand)} {cs ds : List Ce} {vs : Array Value}, (∀ i x, pl i = some x → pl' i = some x) → RL c w vs.toList cs → parts (ev T) pl ps cs = some ds →
    ∃ us, Instr.fill pl' vs (ps.map fun p => (p.1, a.eval p.2)) = some us ∧ RL c w us.toList ds
  | [], cs, ds, vs, _, h, k => by cases k; exact ⟨vs, rfl, h⟩
  | (i, x) :: rest, cs, ds, vs, hp, h, k => by
    unfold parts at k
    split at k <;> try (cases k; done)
    rename_i off size xs h1 h2
    cases hb : (Nat.beq xs.length size && Nat.ble (off + size) cs.length) with
    | false => rw [hb] at k; cases k
    | true =>
      rw [hb] at k
      simp only [Bool.and_eq_true] at hb
      have hs := Nat.eq_of_beq_eq_true hb.1
      have hl := Nat.le_of_ble_eq_true hb.2
      cases hv : ev T x with
      | none => rw [hv] at h2; cases h2
      | some v =>
        rw [hv] at h2
        have kx := (S.ev hv).cells h2
        have kl := kx.1
        have hc := h.1
        have e1 : (a.eval x).cells.size = size := by rw [← Array.length_toList, kl, hs]
        have e2 : vs.size = cs.length := by rw [← Array.length_toList, hc]
        have e3 : ((a.eval x).cells.zipIdx.foldl (fun (cs : Array Value) (p : Value × Nat) => cs.setIfInBounds (off + p.2) p.1) vs).toList = vs.toList.take off ++ (a.eval x).cells.toList ++ vs.toList.drop (off + (a.eval x).cells.toList.length) := by
          have := foldl_lay off (a.eval x).cells.toList 0 vs (by rw [Array.length_toList]; omega)
          rw [Nat.add_zero] at this
          rw [← this, ← Array.foldl_toList, Array.toList_zipIdx]
        obtain ⟨us, q1, q2⟩ := parts_sound S (vs := (a.eval x).cells.zipIdx.foldl (fun (cs : Array Value) (p : Value × Nat) => cs.setIfInBounds (off + p.2) p.1) vs) hp (by rw [e3]; exact h.over kx off) k
        refine ⟨us, ?_, q2⟩
        rw [List.map_cons, Instr.fill, hp i _ h1]
        simp only []
        rw [if_neg (by simp; omega)]
        exact q1
theorem fs_places (hT : tyB P C.ty C.ty = true) : ∀ {y : Ty} {o0 : Nat} {fs : List Field}, fsB C.ty y o0 fs = true → ∃ pl, fs.mapM (fun f => (P.info? f.type).map fun i => (f.offset, i.size)) = some pl ∧ ∀ n p u, y.fld n = some (p, u) → pl[n]? = some (o0 + p, u.size)
  | .pr a b, o0, f :: fs, h => by
    simp only [fsB, Bool.and_eq_true] at h
    obtain ⟨pl, h1, h2⟩ := fs_places hT h.2
    obtain ⟨e, k1⟩ := isT_look h.1.2
    obtain ⟨i, z, j1, j2, _⟩ := (tyB_sound hT k1).info
    refine ⟨(f.offset, i.size) :: pl, by simp [List.mapM_cons, j1, h1], fun n p u hn => ?_⟩
    cases n with
    | zero => simp only [Ty.fld] at hn; cases hn; simp [Nat.eq_of_beq_eq_true h.1.1, j2]
    | succ n =>
      simp only [Ty.fld] at hn
      cases hb : b.fld n with
      | none => rw [hb] at hn; cases hn
      | some q =>
        rw [hb] at hn
        cases hn
        have := h2 n _ _ hb
        simp only [List.getElem?_cons_succ, this]
        congr 2
        omega
  | .un, o0, [], h => ⟨[], by simp, fun n p u hn => by simp [Ty.fld] at hn⟩
  | .pr _ _, _, [], h => by simp [fsB] at h
  | .un, _, _ :: _, h => by simp [fsB] at h
  | .bo, _, _, h => by simp [fsB] at h
  | .it _, _, _, h => by simp [fsB] at h
  | .st, _, _, h => by simp [fsB] at h
  | .sl _, _, _, h => by simp [fsB] at h
  | .pt _, _, _, h => by simp [fsB] at h
  | .fn, _, _, h => by simp [fsB] at h
  | .lt _, _, _, h => by simp [fsB] at h
  | .lf _, _, _, h => by simp [fsB] at h
  | .oq, _, _, h => by simp [fsB] at h
theorem op_build (S : Sim gp Z0 w0 C.N D c T O a.tmps w) (hT : tyB P C.ty C.ty = true) (hd : dstOk C.N o.dst = true) {n t : Nat} {y : Ty} {ps : Array (Nat × Operand)} (ho : o.op = .build t ps) (hy : C.t t = some y) (ha : y.agg = true) {cs : List Ce} (h : parts (ev T) (fun i => (y.fld i).map fun p => (p.1, p.2.size)) ps.toList (zer y) = some cs) : Done P gp Z0 w0 C.N D T O o a w { v := .ag cs } n := by
  obtain ⟨e, h1, h2⟩ := tyOk_of hT hy
  obtain ⟨d, k1, k2⟩ := h2.und
  obtain ⟨i, z, j1, j2, j3, j4, j5⟩ := h2.info
  have hfs : ∃ fs, d = .struct fs ∧ fsB C.ty y 0 fs.toList = true := by
    cases y with
    | pr a b =>
      unfold dscB at k2
      split at k2 <;> first
        | (cases k2; done)
        | (rename_i e2; cases e2; done)
        | skip
      all_goals
        rename_i e2
        cases e2
        exact ⟨_, rfl, k2⟩
    | un =>
      cases d with
      | struct fs =>
        have k3 : fs.toList.isEmpty = true := k2
        have : fs.toList = [] := by simpa using k3
        exact ⟨_, rfl, by rw [this]; rfl⟩
      | _ => simp [dscB] at k2
    | _ => cases ha
  obtain ⟨fs, rfl, hB⟩ := hfs
  obtain ⟨pl, p1, p2⟩ := fs_places hT hB
  obtain ⟨us, q1, q2⟩ := parts_sound S (pl' := fun i => pl[i]?) (vs := z.cells) (fun i x hx => by
    cases hf : y.fld i with
    | none => rw [hf] at hx; cases hx
    | some q =>
      rw [hf] at hx
      cases hx
      have := p2 i _ _ hf
      simpa using this) (by rw [j5]; exact RL.zero y) h
  refine Done.value S hd (v := .agg us) ?_ ⟨us, rfl, q2⟩
  unfold execOp
  rw [ho]
  refine op_value_of ?_
  refine run_build w t _ us ?_
  unfold Program.built
  simp only [j1, k1, j4, p1]
  rw [← q1]
  simp
theorem zeros_at (cs : List Ce) : ∀ (n i : Nat), i < n * cs.length → (zeros n cs)[i]? = cs[i % cs.length]?
  | 0, i, h => by simp at h
  | n + 1, i, h => by
    unfold zeros
    by_cases hi : i < cs.length
    · rw [List.getElem?_append_left hi, Nat.mod_eq_of_lt hi]
    · rw [List.getElem?_append_right (by omega), zeros_at cs n (i - cs.length) (by rw [Nat.add_mul] at h; omega)]
      congr 1
      rw [Nat.mod_eq_sub_mod (a := i) (by omega)]
theorem zeros_len (cs : List Ce) : ∀ (n : Nat), (zeros n cs).length = n * cs.length
  | 0 => by simp [zeros]
  | n + 1 => by rw [zeros, List.length_append, zeros_len cs n, Nat.add_mul]; omega
theorem zer_len : ∀ t, (zer t).length = t.size
  | .pr a b => by rw [zer, List.length_append, zer_len a, zer_len b]; rfl
  | .bo => rfl
  | .it _ => rfl
  | .st => rfl
  | .sl _ => rfl
  | .pt _ => rfl
  | .fn => rfl
  | .lt _ => rfl
  | .lf _ => rfl
  | .oq => rfl
  | .un => rfl
theorem chunk_at (s : Nat) : ∀ (n : Nat) (cs : List Ce) (j : Nat), (chunk s n cs)[j]? = if j < n then some ((cs.drop (j * s)).take s) else none
  | 0, cs, j => by simp [chunk]
  | n + 1, cs, j => by
    unfold chunk
    cases j with
    | zero => simp
    | succ j =>
      rw [List.getElem?_cons_succ, chunk_at s n]
      simp only [List.drop_drop, Nat.add_lt_add_iff_right, Nat.add_mul, Nat.one_mul]
      rw [Nat.add_comm (j * s) s]
theorem chunk_len (s : Nat) : ∀ (n : Nat) (cs : List Ce), (chunk s n cs).length = n
  | 0, _ => rfl
  | n + 1, cs => by rw [chunk, List.length_cons, chunk_len s n]
theorem toE_none {c : Cf} {w : World} {t : Ty} {cs : List Ce} {vs : List Value} {x : El t} (h : RL c w vs cs) (k : toE (fun _ => none) t cs = some x) : RT c.Z w t x vs := by
  have := toE_sound (O := fun _ => none) (c := c) (w := w) (fun i o h => by cases h) t cs vs x h k
  refine this.zone (fun g hg => ?_)
  rcases hg with hg | ⟨i, o, e, h1, _⟩
  · exact hg
  · cases h1
theorem drop_take_sub {α : Type} (l : List α) (j s : Nat) (i : Nat) : ((l.drop (j * s)).take s)[i]? = if i < s then l[j * s + i]? else none := by
  rw [List.getElem?_take]
  split
  · rw [List.getElem?_drop]
  · rfl
theorem op_buildSlice (S : Sim gp Z0 w0 C.N D c T O a.tmps w) (hT : tyB P C.ty C.ty = true) (hd : dstOk C.N o.dst = true) {n t e len : Nat} (hn : ¬ D n) {y : Ty} {ps : Array (Nat × Operand)} (ho : o.op = .buildSlice t len ps) (hy : C.el t = some (e, y)) {cs : List Ce} (hm : len * y.size ≤ 16777216) (hlen : len ≤ maxI) (h : parts (ev T) (fun i => some (i * y.size, y.size)) ps.toList (zeros len (zer y)) = some cs) {p : Ob}
    (hp : (∃ l, mapO (toE (fun _ => none) y) (chunk y.size len cs) = some l ∧ p = .ty e y l 0) ∨ (p = .ce e y (chunk y.size len cs))) : Done P gp Z0 w0 C.N D T O o a w { v := .c (.ow n), ob := [(n, p)], k := 1 } n := by
  obtain ⟨h1, e', h2⟩ := elOk_of hT hy
  obtain ⟨i, z, j1, j2, j3, j4, j5⟩ := h2.info
  have hz : z.cells.size = y.size := by rw [← Array.length_toList, j5, zeV_len]
  have hz0 : ∀ (q : Nat), q < len * y.size → q % y.size < y.size := fun q hq => Nat.mod_lt _ (Nat.pos_of_ne_zero fun h => by rw [h] at hq; omega)
  have key : ∀ (zz : Array Value), (len * y.size = 0 ∨ zz = z.cells) → RL c w ((Array.range (len * y.size)).map (fun q => zz[q % zz.size]!)).toList (zeros len (zer y)) := by
    intro zz hzz
    refine ⟨by simp [zeros_len, zer_len], fun q v x q1 q2 => ?_⟩
    have hq : q < len * y.size := by
      have := (List.getElem?_eq_some_iff.1 q1).1
      simpa using this
    have hzz' : zz = z.cells := hzz.resolve_left (by omega)
    subst hzz'
    have hq' := hz0 q hq
    rw [zeros_at _ _ _ (by rw [zer_len]; exact hq), zer_len] at q2
    have q3 : v = z.cells[q % y.size]! := by
      simp [hq] at q1
      rw [← q1, hz]
    rw [getElem!_pos z.cells (q % y.size) (by omega)] at q3
    have q4 : (zeV y)[q % y.size]? = some v := by
      rw [← j5, q3]
      simp [show q % y.size < z.cells.size by omega]
    exact (RL.zero y).2 _ v x q4 q2
  obtain ⟨us, q1, q2⟩ := parts_sound S (pl := fun i => some (i * y.size, y.size)) (pl' := fun i => some (i * y.size, y.size)) (vs := (Array.range (len * y.size)).map (fun q => (if len * y.size = 0 then #[] else z.cells)[q % (if len * y.size = 0 then #[] else z.cells).size]!)) (fun i x hx => hx) (key _ (by by_cases h0 : len * y.size = 0; exact .inl h0; exact .inr (if_neg h0))) h
  have hus : us.size = len * y.size := by
    have e1 := q2.1
    rw [Array.length_toList] at e1
    rw [e1]
    have : ∀ {ps : List (Nat × Operand)} {cs ds : List Ce}, parts (ev T) (fun i => some (i * y.size, y.size)) ps cs = some ds → ds.length = cs.length := by
      intro ps
      induction ps with
      | nil => intro cs ds k; cases k; rfl
      | cons p ps ih =>
        intro cs ds k
        obtain ⟨i, x⟩ := p
        unfold parts at k
        split at k <;> try (cases k; done)
        rename_i off size xs k1 k2
        cases hb : (Nat.beq xs.length size && Nat.ble (off + size) cs.length) with
        | false => rw [hb] at k; cases k
        | true =>
          rw [hb] at k
          simp only [Bool.and_eq_true] at hb
          have hs := Nat.eq_of_beq_eq_true hb.1
          have hl := Nat.le_of_ble_eq_true hb.2
          rw [ih k]
          unfold overC
          simp
          omega
    rw [this h, zeros_len, zer_len]
  have hr : (execOp a.eval o).run P w = .ok (.value (.slice (some ⟨w.heap.size, 0, none⟩) len len)) (w.alloc (.cells us e)) := by
    unfold execOp
    rw [ho]
    refine op_value_of ?_
    simp only [Instr.buildSlice, Sem.run_bind, run_und h1, h2.run_size w, Result.andThen]
    rw [if_neg (by omega)]
    have q1' : Instr.fill (fun i => some (i * y.size, y.size)) ((Array.range (len * y.size)).map (fun q => (if len * y.size = 0 then #[] else z.cells)[q % (if len * y.size = 0 then #[] else z.cells).size]!)) (ps.map fun p => (p.1, a.eval p.2)).toList = some us := by
      rw [← q1]; simp
    have hzr : (zeroValue e).run P w = .ok z w := by simp [zeroValue, typeInfo, Go.program, Sem.run, j1, j4]
    by_cases h0 : len * y.size = 0
    · rw [if_pos h0]
      simp only [if_pos h0] at q1'
      simp only [Sem.run_bind, Sem.run_pure, Result.andThen, q1', newRow, newObj]
      rfl
    · rw [if_neg h0]
      simp only [if_neg h0] at q1'
      simp only [Sem.run_bind, Sem.run_pure, Result.andThen, hzr, q1', newRow, newObj]
      rfl
  have st := stay_alloc S (.cells us e)
  have le := add_fresh S hn ⟨some w.heap.size, len, len, []⟩
  have cellAt : ∀ q, (w.alloc (.cells us e)).cell? ⟨w.heap.size, q, none⟩ = us[q]? := fun q => cell_of (heap_alloc_new w _) q
  refine Done.new S hd hn hr ((Ext.refl w).alloc _) (.inr rfl) rfl (e := ⟨some w.heap.size, len, len, []⟩) ⟨_, Cf.add_at _ _ _, rfl⟩ ?_
  rcases hp with ⟨l, k1, rfl⟩ | rfl
  · obtain ⟨m1, m2⟩ := mapO_at k1
    rw [chunk_len] at m1
    refine ⟨_, Cf.add_at _ _ _, rfl, m1, .inr ⟨w.heap.size, us, rfl, heap_alloc_new w _, hus, by simp [m1, mks], hlen, fun j hj => ?_, fun j us hj => by simp [mks] at hj⟩⟩
    obtain ⟨ds, r1, r2⟩ := m2 j _ (List.getElem?_eq_getElem hj)
    rw [chunk_at, if_pos (by omega)] at r1
    cases r1
    have r3 := toE_none (c := c) (w := w) ((q2.drop (j * y.size)).take y.size) r2
    refine ⟨_, by simpa using r3.mono le.Z st, fun i u hu => ?_⟩
    rw [drop_take_sub] at hu
    split at hu
    · rw [Nat.zero_add, cellAt]; simpa using hu
    · cases hu
  · refine ⟨_, w.heap.size, us, Cf.add_at _ _ _, rfl, (chunk_len _ _ _).symm, (chunk_len _ _ _).symm, by rw [chunk_len]; exact hlen, rfl, heap_alloc_new w _, by rw [hus, chunk_len], fun j ds hj => ?_⟩
    rw [chunk_at] at hj
    split at hj
    · cases hj
      refine ⟨?_, ((q2.drop (j * y.size)).take y.size).mono le st⟩
      have := q2.1
      rw [Array.length_toList] at this
      rw [List.length_take, List.length_drop, ← this, hus]
      rename_i hjl
      have : (j + 1) * y.size ≤ len * y.size := Nat.mul_le_mul_right _ hjl
      rw [Nat.add_mul] at this
      omega
    · cases hj
end
structure FL (Z : Nat → Prop) (w : World) (t : Ty) (l : List (El t)) (xs : List Value) : Prop where
  len : xs.length = l.length * t.size
  at_ : ∀ (j : Nat) (h : j < l.length), RT Z w t (l[j]'h) ((xs.drop (j * t.size)).take t.size)
theorem FL.nil (Z : Nat → Prop) (w : World) (t : Ty) : FL Z w t [] [] := ⟨by simp, fun j h => absurd h (Nat.not_lt_zero _)⟩
theorem FL.append {Z : Nat → Prop} {w : World} {t : Ty} {l m : List (El t)} {xs ys : List Value} (h : FL Z w t l xs) (k : FL Z w t m ys) : FL Z w t (l ++ m) (xs ++ ys) := by
  refine ⟨by rw [List.length_append, List.length_append, h.len, k.len, Nat.add_mul], fun j hj => ?_⟩
  by_cases hl : j < l.length
  · rw [List.getElem_append_left hl]
    have h1 : (j + 1) * t.size ≤ l.length * t.size := Nat.mul_le_mul_right _ hl
    rw [Nat.add_mul] at h1
    have := h.len
    rw [List.drop_append_of_le_length (by omega), List.take_append_of_le_length (by rw [List.length_drop]; omega)]
    exact h.at_ j hl
  · rw [List.length_append] at hj
    rw [List.getElem_append_right (by omega)]
    have e : j * t.size = xs.length + (j - l.length) * t.size := by
      rw [h.len, ← Nat.add_mul]; congr 1; omega
    rw [e, List.drop_length_add_append]
    exact k.at_ (j - l.length) (by omega)
theorem FL.mono {Z Z' : Nat → Prop} {w w' : World} (hz : ∀ g, Z g → Z' g) (hs : Stay Z w w') {t : Ty} {l : List (El t)} {xs : List Value} (h : FL Z w t l xs) : FL Z' w' t l xs := ⟨h.len, fun j hj => (h.at_ j hj).mono hz hs⟩
theorem FL.rw {Z : Nat → Prop} {w : World} {t : Ty} {l : List (El t)} {xs : List Value} {g o : Nat} (h : FL Z w t l xs) (hc : ∀ (j : Nat) (u : Value), xs[j]? = some u → w.cell? ⟨g, o + j, none⟩ = some u) : RW Z w t l g o := fun j hj => ⟨_, h.at_ j hj, fun i u hu => by
  rw [drop_take_val] at hu
  split at hu
  · exact hc _ _ hu
  · cases hu⟩
  where
  drop_take_val {α : Type} (l : List α) (j s : Nat) (i : Nat) : ((l.drop (j * s)).take s)[i]? = if i < s then l[j * s + i]? else none := by
    rw [List.getElem?_take]
    split
    · rw [List.getElem?_drop]
    · rfl
theorem RW.fl {Z : Nat → Prop} {w : World} {t : Ty} {g : Nat} : ∀ {l : List (El t)} {o : Nat}, RW Z w t l g o → ∃ xs, FL Z w t l xs ∧ ∀ (j : Nat) (u : Value), xs[j]? = some u → w.cell? ⟨g, o + j, none⟩ = some u
  | [], o, _ => ⟨[], FL.nil _ _ _, fun j u h => by simp at h⟩
  | x :: l, o, h => by
    obtain ⟨us, h1, h2⟩ := h 0 (by simp)
    have h3 : RW Z w t l g (o + t.size) := fun j hj => by
      obtain ⟨vs, k1, k2⟩ := h (j + 1) (by simpa using hj)
      refine ⟨vs, k1, fun i u hu => ?_⟩
      have := k2 i u hu
      rw [Nat.add_mul, Nat.one_mul] at this
      rw [show o + t.size + (j * t.size + i) = o + (j * t.size + t.size + i) by omega]
      exact this
    obtain ⟨xs, k1, k2⟩ := h3.fl
    have hu := h1.len
    refine ⟨us ++ xs, ?_, fun j u hj => ?_⟩
    · have h4 : FL Z w t [x] us := ⟨by simpa using hu, fun j hj => by
        have : j = 0 := by simpa using hj
        subst this
        rw [Nat.zero_mul, List.drop_zero, List.take_of_length_le (by omega)]
        exact h1⟩
      exact h4.append k1
    · by_cases hl : j < us.length
      · rw [List.getElem?_append_left hl] at hj
        have := h2 j u hj
        simpa using this
      · rw [List.getElem?_append_right (by omega)] at hj
        have := k2 _ u hj
        rw [show o + t.size + (j - us.length) = o + j by omega] at this
        exact this
theorem RT.ones {Z : Nat → Prop} {w : World} : ∀ {t : Ty} {x : El t} {vs : List Value}, RT Z w t x vs → ∀ v ∈ vs, v.oneCell' = true
  | .bo, _, _, h, v, hv => by rw [RT] at h; subst h; simp at hv; subst hv; rfl
  | .it _, _, _, h, v, hv => by rw [RT] at h; obtain ⟨rfl, _⟩ := h; simp at hv; subst hv; rfl
  | .st, _, _, h, v, hv => by rw [RT] at h; obtain ⟨rfl, _⟩ := h; simp at hv; subst hv; rfl
  | .sl _, _, _, h, v, hv => by rw [RT] at h; obtain ⟨A, c, rfl, _⟩ := h; simp at hv; subst hv; rfl
  | .pr a b, _, _, h, v, hv => by
    rw [RT] at h
    obtain ⟨us, us', rfl, h1, h2⟩ := h
    rcases List.mem_append.1 hv with hv | hv
    · exact h1.ones v hv
    · exact h2.ones v hv
  | .un, _, _, h, v, hv => by rw [RT] at h; subst h; simp at hv
  | .pt _, _, _, h, _, _ => by rw [RT] at h; exact h.elim
  | .fn, _, _, h, _, _ => by rw [RT] at h; exact h.elim
  | .lt _, _, _, h, v, hv => by rw [RT] at h; obtain ⟨g, o, c, rfl, _⟩ := h; simp at hv; subst hv; rfl
  | .lf _, _, _, h, v, hv => by rw [RT] at h; obtain ⟨g, o, c, rfl, _⟩ := h; simp at hv; subst hv; rfl
  | .oq, _, _, h, v, hv => by rw [RT] at h; obtain ⟨rfl, A, n, c, rfl⟩ := h; simp at hv; subst hv; rfl
theorem FL.ones {Z : Nat → Prop} {w : World} {t : Ty} {l : List (El t)} {xs : List Value} (h : FL Z w t l xs) : ∀ v ∈ xs, v.oneCell' = true := fun v hv => by
  obtain ⟨i, hi, rfl⟩ := List.getElem_of_mem hv
  rcases Nat.eq_zero_or_pos t.size with h0 | h0
  · have := h.len; rw [h0] at this; omega
  · have hj : i / t.size < l.length := by rw [Nat.div_lt_iff_lt_mul h0, ← h.len]; exact hi
    refine (h.at_ (i / t.size) hj).ones _ ?_
    have hm := Nat.mod_lt i h0
    have he := Nat.div_add_mod i t.size
    rw [Nat.mul_comm] at he
    refine List.mem_of_getElem? (i := i % t.size) ?_
    rw [List.getElem?_take, if_pos hm, List.getElem?_drop, he]
    exact List.getElem?_eq_getElem hi
section
variable {P : Program} {C : Cfg} {gp : Option Nat} {Z0 : Nat → Prop} {w0 : Base} {w w' : World} {N : Nat} {D : Nat → Prop} {c : Cf} {T : Nat → Option AV} {O O' : Store} {a : Act} {o : Oper}
def FrzTo (O : Store) (p : Nat × Ob) : Prop := ∃ t l m, ((∃ e, O p.1 = some (.ty e t l m)) ∨ (∃ e, O p.1 = some (.dp e t l m))) ∧ p.2 = .fz t l m
theorem FrzTo.some {O : Store} {p : Nat × Ob} (h : FrzTo O p) : ∃ o, O p.1 = some o ∧ o.live = true ∧ ∀ cs, o ≠ .var cs := by
  obtain ⟨t, l, m, ⟨e, h⟩ | ⟨e, h⟩, _⟩ := h
  · exact ⟨_, h, rfl, fun _ e => by cases e⟩
  · exact ⟨_, h, rfl, fun _ e => by cases e⟩
theorem FrzTo.fz {O : Store} {i : Nat} {o : Ob} (h : FrzTo O (i, o)) : ∃ t l m, o = .fz t l m := let ⟨t, l, m, _, e⟩ := h; ⟨t, l, m, e⟩
theorem Sim.freeze (S : Sim gp Z0 w0 N D c T O a.tmps w) {fz : OB} (h : ∀ i o, look fz i = some o → FrzTo O (i, o)) :
    ∃ c', c.Le c' ∧ c'.m = c.m ∧ Sim gp Z0 w0 N D c' T (upO O fz) a.tmps w := by
  let Z' : Nat → Prop := fun g => c.Z g ∨ ∃ i o e, look fz i = some o ∧ c.m i = some e ∧ e.has g
  have le : c.Le ⟨c.m, Z'⟩ := ⟨fun _ _ x => x, fun _ x => .inl x⟩
  refine ⟨⟨c.m, Z'⟩, le, rfl, ?_⟩
  have T1 := S.step (d := none) (v := .bool true) (av := .c .tt) (ob := fz) (c' := ⟨c.m, Z'⟩) (w' := w) (D' := D) rfl le (Stay.refl _ _) rfl (fun _ _ _ _ _ _ _ _ _ => rfl) (fun i o hi => ?_) (fun i o e g hi hl => ?_) (fun i j o p e f g hi _ hl => ?_) (fun g hg => ?_) S.dom S.gr (fun i cs o h1 h2 => ?_)
  · exact T1
  · obtain ⟨t, l, m, ⟨e, h1⟩ | ⟨e, h1⟩, e0⟩ := h i o hi
    · have e0 : o = .fz t l m := e0
      subst e0
      obtain ⟨en, k1, k0, k2, k3⟩ := S.obj i _ h1
      refine ⟨en, k1, k2, k3.imp id ?_⟩
      rintro ⟨g, vs, b1, b2, b3, b4, b5, b6, b7⟩
      exact ⟨g, b1, .inr ⟨i, _, en, hi, k1, Ent.has_bl b1⟩, b4, b5, b6.zone (fun g hg => .inl hg), b7⟩
    · have e0 : o = .fz t l m := e0
      subst e0
      obtain ⟨en, k1, k2, k3, k4, k5⟩ := S.obj i _ h1
      have r := dpRow (Z' := Z') k3 k5 (fun k hk => .inr ⟨i, _, en, hi, k1, hk⟩)
      exact ⟨en, k1, r.ln, r.r⟩
  · obtain ⟨t, l, m, rfl⟩ := (h i o hi).fz
    cases hl
  · obtain ⟨t, l, m, rfl⟩ := (h i o hi).fz
    cases hl
  · rcases hg with hg | ⟨i, o, e, hi, h1, h2⟩
    · exact ⟨S.zl g hg, S.zz g hg, fun j p f k1 _ k3 k4 k5 => S.zo j p f g k1 k3 k4 k5 hg⟩
    · obtain ⟨o', k1, k2, k3⟩ := (h i o hi).some
      have k1 : O i = some o' := k1
      refine ⟨(S.obj i _ k1).lt k2 e g h1 h2, ?_, fun j p f q1 q2 q3 q4 q5 => ?_⟩
      · rcases S.bs i _ e g k1 k2 h1 h2 with hb | hb
        · exact .inr hb
        · obtain ⟨cs, f, q1, q2, q3⟩ := S.gpv g hb
          exact absurd (Ent.has_bl q3) (S.inj i 0 _ _ e f g k1 q1 k2 rfl (fun e => by subst e; rw [k1] at q1; cases q1; exact k3 _ rfl) h1 q2 h2)
      · refine S.inj i j _ p e f g k1 q1 k2 q3 (fun e => ?_) h1 q4 h2 q5
        subst e
        rw [hi] at q2
        cases q2
  · obtain ⟨o', k1, k2, k3⟩ := (h i o h2).some
    have k1 : O i = some o' := k1
    rw [h1] at k1
    cases k1
    exact absurd rfl (k3 cs)
theorem frzI_sound {O : Store} {i : Nat} {fz : OB} (h : frzI O i = some fz) : ∀ p ∈ fz, FrzTo O p := by
  unfold frzI at h
  split at h <;> cases h
  · rename_i e t l m hi
    intro p hp
    rw [List.mem_singleton] at hp
    subst hp
    exact ⟨t, l, m, .inl ⟨e, hi⟩, rfl⟩
  · rename_i e t l m hi
    intro p hp
    rw [List.mem_singleton] at hp
    subst hp
    exact ⟨t, l, m, .inr ⟨e, hi⟩, rfl⟩
  · intro p hp; cases hp
theorem frzC_sound {O : Store} {x : Ce} {fz : OB} (h : frzC O x = some fz) : ∀ p ∈ fz, FrzTo O p := by
  unfold frzC at h
  split at h
  · exact frzI_sound h
  · exact frzI_sound h
  · cases h; intro p hp; cases hp
theorem frzCs_sound {O : Store} : ∀ {xs : List Ce} {fz : OB}, frzCs O xs = some fz → ∀ p ∈ fz, FrzTo O p
  | [], fz, h => by cases h; intro p hp; simp at hp
  | x :: xs, fz, h => by
    unfold frzCs at h
    split at h <;> cases h
    rename_i l m h1 h2
    intro p hp
    rcases List.mem_append.1 hp with hp | hp
    · exact frzC_sound h1 p hp
    · exact frzCs_sound h2 p hp
theorem frz_sound {O : Store} : ∀ {vs : List AV} {fz : OB}, frz O vs = some fz → ∀ p ∈ fz, FrzTo O p
  | [], fz, h => by cases h; intro p hp; simp at hp
  | x :: xs, fz, h => by
    unfold frz at h
    split at h <;> cases h
    rename_i l m h1 h2
    cases hx : x.cells with
    | none => rw [hx] at h1; cases h1
    | some cs =>
      rw [hx] at h1
      intro p hp
      rcases List.mem_append.1 hp with hp | hp
      · exact frzCs_sound h1 p hp
      · exact frz_sound h2 p hp
theorem fz_look {O O' : Store} (hO : ∀ i o, O' i = some o → O i = some o) {fz : OB} (h : ∀ p ∈ fz, FrzTo O' p) : ∀ i o, look fz i = some o → FrzTo O (i, o) := fun i o hi => by
  obtain ⟨t, l, m, h1, h2⟩ := h _ (look_mem hi)
  exact ⟨t, l, m, h1.imp (fun ⟨e, h⟩ => ⟨e, hO _ _ h⟩) (fun ⟨e, h⟩ => ⟨e, hO _ _ h⟩), h2⟩
theorem onlyFz_zone (hO : ∀ i o, O' i = some o → O i = some o) {fz : OB} (h : ∀ i o, look fz i = some o → FrzTo O (i, o)) (S : Sim gp Z0 w0 N D c T (upO O fz) a.tmps w) :
    (∀ i o, onlyFz O' fz i = some o → ObOk c w i o) ∧ ∀ g, Zall c (onlyFz O' fz) g → c.Z g := by
  have key : ∀ i o, onlyFz O' fz i = some o → upO O fz i = some o ∧ o.live = false := fun i o hi => by
    unfold onlyFz at hi
    unfold upO
    cases hl : look fz i with
    | some p =>
      rw [hl] at hi
      cases hi
      obtain ⟨t, l, m, rfl⟩ := (h i _ hl).fz
      exact ⟨rfl, rfl⟩
    | none =>
      rw [hl] at hi
      simp only [] at hi ⊢
      split at hi <;> cases hi
      rename_i t l sp hp
      exact ⟨hO _ _ hp, rfl⟩
  refine ⟨fun i o hi => S.obj i o (key i o hi).1, fun g hg => ?_⟩
  rcases hg with hg | ⟨i, o, e, h1, h2, _⟩
  · exact hg
  · rw [(key i o h1).2] at h2; cases h2
end
end Go.Proofs.YtjoonfegjobgbaaGreatDoor
