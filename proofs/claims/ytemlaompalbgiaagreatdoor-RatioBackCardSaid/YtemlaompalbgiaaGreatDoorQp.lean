/- Texts of this claim, joined: A32 A33 A29 B19 R14 G21 B26 R2 R3 R15 E1 B11 B13 B14 B15 B16 B17 B18 H0 H1 P10 P11 P12 E2. -/
import Derived.Test.YtemlaompalbgiaaGreatDoorQo
set_option linter.unusedVariables false
set_option linter.unusedSimpArgs false
set_option maxRecDepth 100000
namespace Go.Proofs.YtemlaompalbgiaaGreatDoor
open Go Go.RowKit
structure RowF where
  ks : List IntKind
  pre : List Int → List Int → Prop
  f : List Int → List Int → List Int × Int
  k : Option IntKind
def scOne (k : IntKind) : AV → Option Int
  | .c (.sc (.int k' n)) => if k' = k then some n else none
  | _ => none
def scI : List IntKind → List AV → Option (List Int)
  | [], [] => some []
  | k :: ks, y :: ys => match scOne k y, scI ks ys with
    | some n, some zs => some (n :: zs)
    | _, _ => none
  | _, _ => none
def scV : List IntKind → List Int → List Value
  | k :: ks, n :: ns => .int k n :: scV ks ns
  | _, _ => []
def rowTu (k : Option IntKind) (n : Nat) (r : Int) : AV := match k with
  | none => .c (.ow n)
  | some k => .tu [(false, [.ow n]), (false, [.sc (.int k r)])]
def isTyI (O : Store) (i : Nat) : Bool := match O i with
  | some (.ty _ _ _ _) => true
  | _ => false
def p_row (R : RowF) : Prim := fun xs O n => match xs with
  | .c s :: ys => match frsE O tW32 [s], toR O tW32 [s], scI R.ks ys with
    | some ids, some l, some zs => bif nodupN ids && ids.all (isTyI O) then some (some (R.pre l zs), .g (List Int × Int) (R.f l zs) fun r => ⟨rowTu R.k n r.2, (n, .ty 91 (.it .u32) r.1 0) :: deads ids, 1⟩) else none
    | _, _, _ => none
  | _ => none
def rowVal (k : Option IntKind) (A : Option Addr) (l c : Nat) (r : Int) : Value := match k with
  | none => .slice A l c
  | some k => .tuple #[.slice A l c, .int k r]
def RowOk (P : Program) (f : Nat) (R : RowF) : Prop :=
  (∀ (vs : Array Value) (w : World), (callFunc f vs).run P w = .ok (.enter f vs) w) ∧
  ∀ (base : Nat) (A : Option Addr) (c : Nat) (l zs : List Int) (w : World), base ≤ w.heap.size → Own w base A c l → Wf l → zs.length = R.ks.length → R.pre l zs →
    Calls P f (.slice A l.length c :: scV R.ks zs).toArray w fun e w' => ∃ A' c', e = .returned (rowVal R.k A' (R.f l zs).1.length c' (R.f l zs).2) ∧ Own w' base A' c' (R.f l zs).1 ∧ Wf (R.f l zs).1 ∧ (∀ a, A' = some a → A.map (·.block) = some a.block ∨ w.heap.size ≤ a.block) ∧ w.grownBy w' (A.map (·.block)) ∧ ∀ k, R.k = some k → k.min ≤ (R.f l zs).2 ∧ (R.f l zs).2 ≤ k.max
theorem scOne_sound {c : Cf} {w : World} {k : IntKind} {y : AV} {n : Int} {u : Value} (h : scOne k y = some n) (hv : RA c w u y) : u = .int k n := by
  unfold scOne at h
  split at h
  · split at h
    · rename_i hk
      cases h
      subst hk
      exact hv.1
    · cases h
  · cases h
theorem scI_sound {c : Cf} {w : World} : ∀ {ks : List IntKind} {ys : List AV} {zs : List Int} {us : List Value}, scI ks ys = some zs → us.length = ys.length → (∀ (i : Nat) (v : Value) (x : AV), us[i]? = some v → ys[i]? = some x → RA c w v x) → us = scV ks zs ∧ zs.length = ks.length
  | [], [], zs, us, h, hl, _ => by
    cases h
    exact ⟨List.eq_nil_of_length_eq_zero hl, rfl⟩
  | [], _ :: _, _, _, h, _, _ => by cases h
  | _ :: _, [], _, _, h, _, _ => by cases h
  | k :: ks, y :: ys, zs, [], _, hl, _ => by cases hl
  | k :: ks, y :: ys, zs, u :: us, h, hl, hv => by
    have h : (match scOne k y, scI ks ys with
      | some n, some zs => some (n :: zs)
      | _, _ => none) = some zs := h
    split at h
    · rename_i n zs' h1 h2
      cases h
      obtain ⟨i1, i2⟩ := scI_sound h2 (by simpa using hl) (fun i v x a b => hv (i + 1) v x (by simpa using a) (by simpa using b))
      rw [scOne_sound h1 (hv 0 u y rfl rfl), i1]
      exact ⟨rfl, by rw [List.length_cons, List.length_cons, i2]⟩
    · cases h
theorem row_prim {P : Program} {f : Nat} {R : RowF} (hF : RowOk P f R) : PrimOk P f (p_row R) := by
  refine ⟨hF.1, fun gp Z0 w0 N D c T O O' a w xs vs n cd Gf S hO hl hv h hfr hc => ?_⟩
  unfold p_row at h
  split at h
  · rename_i s ys
    split at h
    · rename_i ids l zs h1 h2 h3
      cases hb : (nodupN ids && ids.all (isTyI O')) with
      | false => rw [hb] at h; cases h
      | true =>
        rw [hb] at h
        cases h
        simp only [Bool.and_eq_true] at hb
        obtain ⟨hnd, hty⟩ := hb
        have hc : R.pre l zs := hc
        have hl0 : vs.toList.length = ys.length + 1 := by simpa using hl
        match hvs : vs.toList, hl0 with
        | v0 :: vt, hl0 =>
          have hv' : ∀ (k : Nat) (v : Value) (z : AV), (v0 :: vt)[k]? = some v → (AV.c s :: ys)[k]? = some z → RA c w v z := fun k v z e1 e2 => hv k v z (by rw [← hvs] at e1; simpa using e1) e2
          obtain ⟨e1, e2⟩ := scI_sound h3 (by simpa using hl0) (fun i v x a b => hv' (i + 1) v x (by simpa using a) (by simpa using b))
          have r0 : RL c w [v0] [s] := RL.one (hv' 0 v0 _ rfl rfl)
          obtain ⟨q1, q2⟩ := frsE_sound S hO h1 h2 r0
          obtain ⟨A, cp, rfl, hbk, hown, hwf⟩ := own_rq q1
          have own : ∀ i ∈ ids, ∃ o, O i = some o ∧ o.live = true ∧ ∀ cs, o ≠ .var cs := fun i hi => by
            obtain ⟨o, o1, o2, _⟩ := q2 i hi
            refine ⟨o, o1, o2, fun cs e => ?_⟩
            subst e
            have := List.all_eq_true.1 hty i hi
            unfold isTyI at this
            split at this
            · rename_i e t l' m hi'
              rw [hO _ _ hi'] at o1
              cases o1
            · cases this
          have hown' : ∀ g, A.map (·.block) = some g → ∃ i q f, O i = some q ∧ q.live = true ∧ (∀ cs, q ≠ .var cs) ∧ c.m i = some f ∧ f.has g ∧ look (deads ids) i = some .dead := fun g hg => by
            have hm : g ∈ blks c ids := by
              rw [hbk]
              cases A with
              | none => cases hg
              | some a0 => cases hg; exact List.mem_singleton.2 rfl
            obtain ⟨i, e, hi, he, hh⟩ := blks_mem hm
            obtain ⟨o, o1, o2, o3⟩ := own i hi
            exact ⟨i, o, e, o1, o2, o3, he, hh, look_deads hi⟩
          have hcn : c.m n = none := by
            cases h : c.m n with
            | none => rfl
            | some f => exact absurd (S.dom n f h) (hfr n (Nat.le_refl _) (Nat.lt_succ_self _))
          have CALL := hF.2 w0.heap.size A cp l zs w S.gr.size hown hwf e2 hc
          rw [show (Value.slice A l.length cp :: scV R.ks zs).toArray = vs by rw [← e1, ← hvs, Array.toArray_toList]] at CALL
          refine CALL.mono ?_
          rintro e w' ⟨A', c', rfl, t1, t2, t3, t4, t5⟩
          have rq : RQ true c.Z w' w0.heap.size tW32 (R.f l zs).1 [.slice A' (R.f l zs).1.length c'] (blkA A') := rq_own t1 t2
          obtain ⟨es, k1, k2, k3⟩ := imE_sound (n := n) rfl (show (blkA A').Nodup by cases A' <;> simp [blkA]) rq
          have k1 : n + 1 = n + es.length := k1
          obtain ⟨en, rfl⟩ : ∃ en, es = [en] := by
            match es, k1 with
            | [en], _ => exact ⟨en, rfl⟩
            | [], k1 => simp at k1
            | _ :: _ :: _, k1 => simp at k1
          have k2 : en.all = blkA A' := by simpa using k2
          obtain ⟨p1, p2⟩ := k3 (c.add n en) (fun k e hk => by
            match k, hk with
            | 0, hk => cases hk; exact Cf.add_at _ _ _
            | k + 1, hk => simp at hk) (fun g h => h)
          have p1 : RL (c.add n en) w' [.slice A' (R.f l zs).1.length c'] [.ow n] := p1
          obtain ⟨v', hv'', hra⟩ := p1.single
          have hok : ObOk (c.add n en) w' n (.ty 91 (.it .u32) (R.f l zs).1 0) := (p2 (n, .ty 91 (.it .u32) (R.f l zs).1 0) List.mem_cons_self).2.2
          refine ⟨_, c.add n en, rfl, fun d hd => ?_⟩
          refine app_simG S hd hcn t4 ?_ (fun i q h => ?_) (fun g hg => hown' g hg) (fun g hg => ?_) hok
          · cases hv''
            show RA (c.add n en) w' (rowVal R.k A' (R.f l zs).1.length c' (R.f l zs).2) (rowTu R.k n (R.f l zs).2)
            cases hk : R.k with
            | none => exact hra
            | some k =>
              refine ⟨_, rfl, rfl, fun i v p e1 e2 => ?_⟩
              match i, e1, e2 with
              | 0, e1, e2 =>
                cases e1
                cases e2
                unfold RP
                rw [if_neg (by simp)]
                exact ⟨_, rfl, hra⟩
              | 1, e1, e2 =>
                cases e1
                cases e2
                unfold RP
                rw [if_neg (by simp)]
                exact ⟨_, rfl, rfl, t5 k hk⟩
              | i + 2, e1, _ => simp at e1
          · obtain ⟨rfl, hi⟩ := deads_look h
            obtain ⟨o, o1, _, o3⟩ := own i hi
            exact ⟨rfl, o, o1, o3⟩
          · have hg : g ∈ en.all := hg
            rw [k2] at hg
            cases A' with
            | none => cases hg
            | some a' =>
              have hg : g = a'.block := List.mem_singleton.1 hg
              subst hg
              rcases t3 a' rfl with h | h
              · obtain ⟨i, q, f, o1, o2, _, o3, o4, o5⟩ := hown' _ h
                exact .inl ⟨i, q, f, o1, o2, o3, o4, o5⟩
              · exact .inr h
    · cases h
  · cases h
theorem own_cells {base e g n c : Nat} : ∀ (vs : List Value) (k : Nat) (xs : List Value) (w : World), w.ownsRow base e 1 (.slice (some ⟨g, 0, none⟩) n c) n xs → k + vs.length ≤ n → (w.setCells g k vs).ownsRow base e 1 (.slice (some ⟨g, 0, none⟩) n c) n (xs.take k ++ vs ++ xs.drop (k + vs.length)) ∧ w.grownBy (w.setCells g k vs) (some g)
  | [], k, xs, w, h, _ => by
    refine ⟨?_, World.grownBy.refl w _⟩
    rw [List.append_nil, List.length_nil, Nat.add_zero, List.take_append_drop]
    exact h
  | v :: vs, k, xs, w, h, hk => by
    rw [List.length_cons] at hk
    have hx : xs.length = n := by have := h.1; simpa using this
    obtain ⟨h1, h2⟩ := World.ownsRow.stored h k v
    obtain ⟨h3, h4⟩ := own_cells vs (k + 1) _ _ h1 (by omega)
    refine ⟨?_, grown_trans h2 h4⟩
    show ((w.setCell ⟨g, k, none⟩ v).setCells g (k + 1) vs).ownsRow base e 1 _ n _
    have e1 : (xs.set k v).take (k + 1) = xs.take k ++ [v] := by
      rw [List.take_add_one, List.getElem?_set_self (by omega)]
      congr 1
      rw [List.take_set, List.set_eq_of_length_le (by rw [List.length_take]; omega)]
    have e2 : (xs.set k v).drop (k + 1 + vs.length) = xs.drop (k + (v :: vs).length) := by
      rw [List.drop_set_of_lt (by omega), List.length_cons]
      congr 1
      omega
    rw [e1, e2] at h3
    rw [List.append_assoc, show v :: vs = [v] ++ vs from rfl]
    simpa [List.append_assoc] using h3
def p_rev : Prim := fun xs O _ => match xs with
  | [.c (.ow i)] => match O i with
    | some (.ty e t l 0) => match cast_ t .st l with
      | some l => bif Nat.beq e 9 then some (some (l ≠ []), .e ⟨.tu [], [(i, .ty 9 .st l.reverse 0)], 0⟩) else none
      | none => none
    | _ => none
  | _ => none
def RevOk (P : Program) (f : Nat) : Prop :=
  (∀ (vs : Array Value) (w : World), (callFunc f vs).run P w = .ok (.enter f vs) w) ∧
  ∀ (g c : Nat) (xs : List ByteArray) (w : World), w.ownsRow 0 9 1 (.slice (some ⟨g, 0, none⟩) xs.length c) xs.length (xs.map Value.string) → xs.length ≤ 9223372036854775807 →
    Calls P f #[.slice (some ⟨g, 0, none⟩) xs.length c] w fun e w' => e = .returned (.tuple #[]) ∧ w'.ownsRow 0 9 1 (.slice (some ⟨g, 0, none⟩) xs.length c) xs.length (xs.reverse.map Value.string) ∧ w.grownBy w' (some g)
theorem rev_prim {P : Program} {f : Nat} (hF : RevOk P f) : PrimOk P f p_rev := by
  refine ⟨hF.1, fun gp Z0 w0 N D c T O O' a w xs vs n cd Gf S hO hl hv h hfr hc => ?_⟩
  unfold p_rev at h
  split at h
  · rename_i i
    split at h
    · rename_i e t l hi
      split at h
      · rename_i l' hcast
        cases hb : Nat.beq e 9 with
        | false => rw [hb] at h; cases h
        | true =>
          rw [hb] at h
          cases h
          have he := Nat.eq_of_beq_eq_true hb
          obtain ⟨rfl, rfl⟩ := cast_eq hcast
          subst he
          have hne : l' ≠ [] := hc
          have hi' := hO _ _ hi
          obtain ⟨en, q1, q0, q2, q3⟩ := S.obj i _ hi'
          rcases q3 with ⟨_, _, hn0, _⟩ | ⟨g, cur, b1, b2, b3, b4, b5, b6, b7⟩
          · exact absurd hn0 hne
          · have b4 : l'.length ≤ en.cp := by have : l'.length + 0 ≤ en.cp := b4; omega
            have q2 : en.ln = l'.length := q2
            have b3 : cur.size = en.cp := by rw [b3]; exact Nat.mul_one _
            match vs, hl with
            | ⟨[v]⟩, _ =>
              obtain ⟨en', z1, rfl⟩ := hv 0 v _ rfl rfl
              rw [q1] at z1
              cases z1
              have own0 : w.ownsRow 0 9 1 (.slice (some ⟨g, 0, none⟩) l'.length en.cp) l'.length (l'.map Value.string) := by
                refine ⟨by simp, .inr ⟨g, en.cp, cur, rfl, Nat.zero_le _, b2, b4, by simp only [maxLen]; exact b5, by rw [b3, Nat.mul_one], ?_⟩⟩
                rw [Nat.mul_one]
                refine List.ext_getElem? fun j => ?_
                rw [List.getElem?_take, List.getElem?_map]
                split
                · rename_i hj
                  obtain ⟨us, e1, e2⟩ := b6 j hj
                  rw [RT] at e1
                  obtain ⟨e1, _⟩ := e1
                  subst e1
                  have := e2 0 _ rfl
                  rw [List.getElem?_eq_getElem hj]
                  have e3 : w.cell? ⟨g, j, none⟩ = some (.string l'[j]) := by
                    have e4 : 0 + (j * Ty.st.size + 0) = j := by show 0 + (j * 1 + 0) = j; omega
                    rw [e4] at this
                    exact this
                  unfold World.cell? at e3
                  rw [b2] at e3
                  simpa using e3
                · rename_i hj
                  rw [List.getElem?_eq_none (by omega)]
                  rfl
              have CALL := hF.2 g en.cp l' w own0 (by simp only [maxI] at b5; omega)
              rw [show (⟨[Value.slice (en.bl.map fun g => ⟨g, 0, none⟩) en.ln en.cp]⟩ : Array Value) = #[.slice (some ⟨g, 0, none⟩) l'.length en.cp] by rw [b1, q2]; rfl]
              refine CALL.mono ?_
              rintro e w' ⟨rfl, t1, t2⟩
              refine ⟨_, c, rfl, fun d hd => ?_⟩
              have st : Stay c.Z w w' := fun k hk => t2.block k (S.zl k hk) (fun e => by
                cases e
                exact S.zo i _ en g hi' rfl q1 (Ent.has_bl b1) hk)
              have lk : ∀ j q, look [(i, Ob.ty 9 .st l'.reverse 0)] j = some q → j = i ∧ q = .ty 9 .st l'.reverse 0 := fun j q h => by
                rw [look_one] at h
                split at h
                · rename_i h0; cases h; exact ⟨h0, rfl⟩
                · cases h
              have hok : ObOk c w' i (.ty 9 .st l'.reverse 0) := by
                obtain ⟨y1, y2⟩ := t1
                rcases y2 with ⟨y3, _⟩ | ⟨g', cap, cur', y3, _, y4, y5, y6, y7, y8⟩
                · cases y3
                · injection y3 with z1 z2 z3
                  injection z1 with z1
                  injection z1 with z1
                  subst z1
                  subst z3
                  refine ⟨en, q1, q0, by rw [List.length_reverse]; exact q2, .inr ⟨g, cur', b1, y4, by rw [y7]; rfl, by rw [List.length_reverse]; exact b4, b5, fun j hj => ?_, fun j us hj => by simp [mks] at hj⟩⟩
                  have hj' : j < l'.length := by rw [List.length_reverse] at hj; exact hj
                  refine ⟨[.string l'.reverse[j]], ?_, fun k u hu => ?_⟩
                  · rw [RT]
                    refine ⟨rfl, ?_⟩
                    have hx : l'.reverse[j] ∈ l' := List.mem_reverse.1 (List.getElem_mem hj)
                    obtain ⟨m, hm, hx⟩ := List.getElem_of_mem hx
                    obtain ⟨us, e1, _⟩ := b6 m hm
                    rw [RT] at e1
                    rw [← hx]
                    exact e1.2
                  · match k, hu with
                    | 0, hu =>
                      cases hu
                      have e4 : 0 + (j * Ty.st.size + 0) = j := by show 0 + (j * 1 + 0) = j; omega
                      rw [e4]
                      have e8 : (cur'.toList.take l'.length)[j]? = (l'.reverse.map Value.string)[j]? := by
                        rw [Nat.mul_one] at y8
                        rw [y8]
                      rw [List.getElem?_take, if_pos hj', List.getElem?_map, List.getElem?_eq_getElem hj] at e8
                      unfold World.cell?
                      rw [y4]
                      simpa using e8
                    | k + 1, hu => simp at hu
              refine S.step hd (Cf.Le.refl c) st ⟨#[], rfl, rfl, fun i v p e1 => by simp at e1⟩ (fun j o h1 h2 h3 f k h4 h5 => ?_) (fun j q h => ?_) (fun j q f k h1 h2 h3 h4 => ?_) (fun j m q r f f' k h1 h2 h3 h4 h5 => ?_) (fun k hk => ?_) (fun j f h => ?_) ?_ (fun j cs q h1 h2 => ?_)
              · refine t2.block k ((S.obj j o h1).lt h3 f k h4 h5) (fun e => ?_)
                cases e
                exact S.inj i j _ o en f g hi' h1 rfl h3 (fun e => by
                  subst e
                  have h2 : look [(i, Ob.ty 9 .st l'.reverse 0)] i = none := h2
                  rw [look_one, if_pos rfl] at h2
                  cases h2) q1 h4 (Ent.has_bl b1) h5
              · obtain ⟨rfl, rfl⟩ := lk j q h
                exact hok
              · obtain ⟨rfl, rfl⟩ := lk j q h1
                exact ⟨.inl ⟨j, _, f, hi', rfl, h3, h4, by
                  show (look [(j, Ob.ty 9 .st l'.reverse 0)] j).isSome = true
                  rw [look_one, if_pos rfl]
                  rfl⟩, S.zo j _ f k hi' rfl h3 h4⟩
              · obtain ⟨rfl, rfl⟩ := lk j q h1
                obtain ⟨rfl, rfl⟩ := lk m r h2
                exact absurd rfl h5
              · exact ⟨Nat.lt_of_lt_of_le (S.zl k hk) t2.size, S.zz k hk, fun j p f h1 h2 h3 h4 h5 => S.zo j p f k h1 h3 h4 h5 hk⟩
              · exact .inl (S.dom j f h)
              · refine ⟨t2.os.trans S.gr.os, t2.tape.trans S.gr.tape, t2.output.trans S.gr.output, Nat.le_trans S.gr.size t2.size, fun k hk' hr' => ?_⟩
                refine (t2.block k (Nat.lt_of_lt_of_le hk' S.gr.size) (fun e0 => ?_)).trans (S.gr.block k hk' hr')
                cases e0
                have := S.gp_not hi' rfl (fun cs h => by cases h) q1 (Ent.has_bl b1)
                omega
              · obtain ⟨rfl, rfl⟩ := lk j q h2
                rw [hi'] at h1
                cases h1
      · cases h
    · cases h
  · cases h
def toN (l : List Int) : Nat := (val l).toNat
def nrm (l : List Int) : Prop := l = wd (toN l)
theorem toN_wd (n : Nat) : toN (wd n) = n := by
  unfold toN
  rw [val_wd]
  rfl
theorem nrm_wd (n : Nat) : nrm (wd n) := by
  unfold nrm
  rw [toN_wd]
theorem nrm_ex {l : List Int} (h : nrm l) : ∃ n, l = wd n := ⟨_, h⟩
theorem rv_wd {Z : Nat → Prop} {w : World} {l : List Int} {v : Value} (h : RV Z w tW32 l v) : ∃ A c, v = .slice A l.length c ∧ Rd w A c l ∧ Wf l := by
  unfold RV at h
  rw [if_neg (by simp [Ty.agg])] at h
  obtain ⟨A, c, e, h1, h2⟩ := rd_of h
  exact ⟨A, c, by simpa using e, h1, h2⟩
theorem blkA1_nodup (A : Option Addr) : (blkA A).Nodup := by cases A <;> simp [blkA]
theorem blkA1_base {w : World} {base : Nat} {A : Option Addr} {c : Nat} {xs : List Int} (h : Own w base A c xs) : ∀ g ∈ blkA A, base ≤ g := fun g hg => by
  cases hA : A with
  | none => rw [hA] at hg; simp [blkA] at hg
  | some a => rw [hA] at hg; simp [blkA] at hg; rw [hA] at h; rw [hg]; exact h.block.1
theorem cmp_rng (m n : Nat) : -1 ≤ cmp m n ∧ cmp m n ≤ 1 := by
  unfold cmp
  repeat' split
  all_goals omega
section
variable {f : Nat} (hc : ∀ (vs : Array Value) (w : World), (callFunc f vs).run Tryz.prog w = .ok (.enter f vs) w)
include hc
end
def sp_aCmp : Spec := { q := .un, ps := [tW32, tW32], rs := [.it .i64], fresh := true, pre := fun _ x => some (nrm x.1 ∧ nrm x.2.1), post := fun _ x => ((), (cmp (toN x.1) (toN x.2.1), ())) }
theorem fo_aCmp : FnOk Tryz.prog 122 sp_aCmp := by
  refine ⟨callFunc_enter Tryz.func122 (by kernel_rfl) rfl, fun Z w gv vs y x hZ hv hp _ _ => ?_⟩
  obtain ⟨xs, ys, u⟩ := x
  match vs, hv with
  | [u, v], ⟨h1, h2, _⟩ =>
    obtain ⟨p1, p2⟩ : nrm xs ∧ nrm ys := hp
    obtain ⟨m, rfl⟩ := nrm_ex p1
    obtain ⟨n, rfl⟩ := nrm_ex p2
    obtain ⟨A, c, rfl, k1, _⟩ := rv_wd h1
    obtain ⟨B, d, rfl, k2, _⟩ := rv_wd h2
    refine (compare_any A B m n c d w k1 k2).mono fun e w' ⟨e1, e2⟩ => ?_
    subst e1
    refine told_new (S := sp_aCmp) (r := (cmp (toN (wd m)) (toN (wd n)), ())) (us := [_]) (bs := []) rfl rfl (.inl ⟨_, rfl, rfl⟩) hZ ⟨[], [], rfl, ⟨?_, rfl⟩, rfl⟩ List.nodup_nil (fun g hg => by simp at hg) e2
    rw [RT, toN_wd, toN_wd]
    have := cmp_rng m n
    exact ⟨rfl, Int.le_trans (by decide) this.1, Int.le_trans this.2 (by decide)⟩
theorem told_WE {gv : Nat} {S : Spec} {Z : Nat → Prop} {w w' : World} {n : Nat} {e : Int} {A : Option Addr} {c : Nat} (hS : S.ptr = false) (hf : S.fresh = true) (hrs : S.rs = [tW32, .it .i64]) (he : Er e) (h1 : Own w' w.heap.size A c (wd n)) (h2 : Ext w w') (hZ : ∀ g, Z g → g < w.heap.size) {q : El S.q} {r : Els S.rs} (hr : r = hrs ▸ ((wd n, e, ()) : Els [tW32, .it .i64])) :
    ∃ v us bs Z', Ending.returned (.tuple #[.slice A (wd n).length c, .int .i64 e]) = .returned v ∧ told_ us v ∧ RQs S.fresh Z' w' w.heap.size S.rs r us bs ∧ bs.Nodup ∧ (∀ g ∈ bs, ¬ Z' g) ∧
      (∀ g, Z g → Z' g) ∧ (∀ g, Z' g → Z g ∨ w.heap.size ≤ g) ∧ (∀ g, Z' g → g < w'.heap.size) ∧ w.grownBy w' (if S.ptr = true then some gv else none) ∧
      (S.ptr = true → ∃ cells et, w'.heap[gv]? = some (.cells cells et (0, 0)) ∧ RT Z' w' S.q q cells.toList) := by
  refine told_new (us := [.slice A (wd n).length c, .int .i64 e]) (bs := blkA A) hS hf (.inr ⟨by simp, rfl⟩) hZ ?_ (blkA1_nodup A) (blkA1_base h1) h2
  obtain ⟨qq, ps, rs, fresh, pre, post⟩ := S
  cases hrs
  subst hr
  exact ⟨_, [], (List.append_nil _).symm, rq_own h1 (wf_wd n), [], [], rfl, rq_err (base := w.heap.size) he, rfl⟩
def sp_aGcd : Spec := { q := .un, ps := [tW32, tW32], rs := [tW32, .it .i64], fresh := true, pre := fun _ x => some (nrm x.1 ∧ nrm x.2.1 ∧ x.1.length ≤ 8192 ∧ x.2.1.length ≤ 8192), post := fun _ x => ((), (wd (Nat.gcd (toN x.1) (toN x.2.1)), 0, ())) }
theorem fo_aGcd : FnOk Tryz.prog 129 sp_aGcd := by
  refine ⟨callFunc_enter Tryz.func129 (by kernel_rfl) rfl, fun Z w gv vs y x hZ hv hp _ _ => ?_⟩
  obtain ⟨xs, ys, u⟩ := x
  match vs, hv with
  | [u, v], ⟨h1, h2, _⟩ =>
    obtain ⟨p1, p2, p3, p4⟩ : nrm xs ∧ nrm ys ∧ xs.length ≤ 8192 ∧ ys.length ≤ 8192 := hp
    obtain ⟨m, rfl⟩ := nrm_ex p1
    obtain ⟨n, rfl⟩ := nrm_ex p2
    obtain ⟨A, c, rfl, k1, _⟩ := rv_wd h1
    obtain ⟨B, d, rfl, k2, _⟩ := rv_wd h2
    refine (gcd_any A B m n c d w k1 k2 p3 p4).mono fun e w' ⟨A', c', e1, e2, e3⟩ => ?_
    subst e1
    exact told_WE (S := sp_aGcd) rfl rfl rfl Er.zero e2 e3 hZ (by show ((wd (Nat.gcd (toN (wd m)) (toN (wd n))), (0 : Int), ()) : Els [tW32, .it .i64]) = _; rw [toN_wd, toN_wd])
theorem ntt {b : Bool} (h : (!b) = true) : b = false := by simpa using h
theorem nff {b : Bool} (h : (!b) = false) : b = true := by simpa using h
theorem ba_loop (s : ByteArray) (i : Nat) (r : List UInt8) : ByteArray.toList.loop s i r = r.reverse ++ s.data.toList.drop i := by
  by_cases h : i < s.size
  · rw [ByteArray.toList.loop, if_pos h, ba_loop s (i + 1), List.reverse_cons, List.append_assoc]
    have hl : i < s.data.toList.length := h
    rw [List.drop_eq_getElem_cons hl]
    congr 1
    show [s.get! i] ++ _ = _
    have : s.get! i = s.data.toList[i] := by
      show s.data[i]! = _
      rw [getElem!_pos s.data i h]
      simp
    rw [this]
    rfl
  · rw [ByteArray.toList.loop, if_neg h, List.drop_of_length_le (by show s.data.toList.length ≤ i; simpa using h), List.append_nil]
  termination_by s.size - i
theorem ba_list (s : ByteArray) : s.toList = s.data.toList := by
  unfold ByteArray.toList
  rw [ba_loop]
  rfl
theorem ba_0 (s : ByteArray) : (s.toList == ByteArray.toList { data := #[] }) = decide (s.size = 0) := by
  rw [Bool.eq_iff_iff, beq_iff_eq, decide_eq_true_eq, ba_list, ba_list]
  obtain ⟨⟨a⟩⟩ := s
  show a = [] ↔ a.length = 0
  simp
theorem ltT {a b : Int} (h : decide (a < b) = true) : a < b := of_decide_eq_true h
theorem ltF {a b : Int} (h : decide (a < b) = false) : b ≤ a := by have := of_decide_eq_false h; omega
theorem gtT {a b : Int} (h : decide (a > b) = true) : b < a := of_decide_eq_true h
theorem gtF {a b : Int} (h : decide (a > b) = false) : a ≤ b := by have := of_decide_eq_false h; omega
theorem leT {a b : Int} (h : decide (a ≤ b) = true) : a ≤ b := of_decide_eq_true h
theorem leF {a b : Int} (h : decide (a ≤ b) = false) : b < a := by have := of_decide_eq_false h; omega
theorem geT {a b : Int} (h : decide (a ≥ b) = true) : b ≤ a := of_decide_eq_true h
theorem geF {a b : Int} (h : decide (a ≥ b) = false) : a < b := by have := of_decide_eq_false h; omega
theorem eqT {a b : Int} (h : (a == b) = true) : a = b := eq_of_beq h
theorem eqF {a b : Int} (h : (a == b) = false) : a ≠ b := ne_of_beq_false h
theorem neT {a b : Int} (h : (a != b) = true) : a ≠ b := by simpa using h
theorem neF {a b : Int} (h : (a != b) = false) : a = b := by simpa using h
theorem wrap64_32 {a : Int} (h : -2147483648 ≤ a ∧ a ≤ 2147483647) : IntKind.i64.wrap a = a := wrap_id (k := .i64) (by have : IntKind.i64.min = -9223372036854775808 := rfl; omega) (by have : IntKind.i64.max = 9223372036854775807 := rfl; omega)
noncomputable def sp_klong : Spec := { q := .un, ps := [tW32], rs := [.bo], fresh := true, pre := fun _ _ => none, post := fun _ x => ((), (isLong x.1.length, ())) }
noncomputable def iv_klong (y : El sp_klong.q) (x : Els sp_klong.ps) : Nat → Option Inv := fun _ => none
noncomputable abbrev c_klong : Cfg := cfgS (Tryz.f119).ntmps false []
def F_klong (y : El sp_klong.q) (x : Els sp_klong.ps) : Prop :=
  (decide ((x.1.length : Int) > (60 : Int)) = true → (decide ((x.1.length : Int) ≤ (2048 : Int)) = true → (true, ()) = (isLong (List.length x.1), ())) ∧ (decide ((x.1.length : Int) ≤ (2048 : Int)) = false → (decide ((x.1.length : Int) ≥ (2057 : Int)), ()) = (isLong (List.length x.1), ()))) ∧ (decide ((x.1.length : Int) > (60 : Int)) = false → (false, ()) = (isLong (List.length x.1), ()))
theorem w_klong (y : El sp_klong.q) (x : Els sp_klong.ps) : aW c_klong (iv_klong y x) Tryz.f119 sp_klong y x = F_klong y x := by kernel_rfl
theorem m_klong (y : El (.un)) (x : Els [tW32]) (h2 : wfE (.un) y) (h3 : wfEs [tW32] x) : F_klong y x := by
  unfold F_klong
  unfold isLong
  refine ⟨fun h => ⟨fun k => ?_, fun k => ?_⟩, fun h => ?_⟩
  · have h := gtT h
    have k := leT k
    rw [decide_eq_true ⟨by omega, .inl (by omega)⟩]
  · have h := gtT h
    have k := leF k
    refine congrArg (fun b => (b, ())) ?_
    rw [Bool.eq_iff_iff, decide_eq_true_eq, decide_eq_true_eq]
    omega
  · have h := gtF h
    rw [decide_eq_false (by omega)]
theorem fo_klong : FnOk Tryz.prog 119 sp_klong := fnOk_of (C := c_klong) iv_klong Tryz.func119 rfl (by kernel_rfl) tys_ok prims_nil mixed_ (Nat.le_refl _) rfl fun y x h1 h2 h3 h4 =>
  Eq.mpr (w_klong y x) (m_klong y x h2 h3)
def lngF (f : Fr) : Bool := isLong f.num.length || isLong f.den.length
def longs (l : List (El tR)) : Bool := l.any fun f => lngF (toFr f)
theorem any_at {α : Type} {f : α → Bool} {l : List α} {i : Nat} (h : i < l.length) (d : α) (k : f (l.getD i d) = true) : l.any f = true := by
  rw [List.getD_eq_getElem?_getD, List.getElem?_eq_getElem h] at k
  rw [List.any_eq_true]
  exact ⟨l[i], List.getElem_mem h, k⟩
theorem any_take {α : Type} {f : α → Bool} {l : List α} {i : Nat} (h : i < l.length) (d : α) (k : (l.take i).any f = false) (m : f (l.getD i d) = false) : (l.take (i + 1)).any f = false := by
  rw [List.getD_eq_getElem?_getD, List.getElem?_eq_getElem h] at m
  rw [List.take_add_one, List.getElem?_eq_getElem h, Option.toList_some, List.any_append, k]
  simpa using m
noncomputable def sp_kLong : Spec := { q := .un, ps := [.sl tR], rs := [.bo], fresh := true, pre := fun _ _ => none, post := fun _ x => ((), (longs x.1, ())) }
noncomputable def iv_kLong (y : El sp_kLong.q) (x : Els sp_kLong.ps) : Nat → Option Inv := fun k => if k = 0 then some { X := Nat, tm := fun i => [(0, .c (.sl tR x.1)), (3, .c (.sc (.int .i64 i)))], ob := fun _ => [], n := 1, I := fun i => i ≤ x.1.length ∧ longs (x.1.take i) = false, μ := fun i => x.1.length - i } else none
noncomputable abbrev c_kLong : Cfg := cfgS (Tryz.f48).ntmps false [(119, sp_klong.prim)]
def F_kLong (y : El sp_kLong.q) (x : Els sp_kLong.ps) : Prop :=
  (∃ (x_1 : Nat), x.1 = x.1 ∧ (↑x_1 : Int) = (0 : Int) ∧ x_1 ≤ List.length x.1 ∧ longs (List.take x_1 x.1) = false) ∧ ∀ (x_1 : Nat), x_1 ≤ List.length x.1 ∧ longs (List.take x_1 x.1) = false → (decide ((↑x_1 : Int) < (x.1.length : Int)) = true → ((0 : Int) ≤ (↑x_1 : Int) ∧ (↑x_1 : Int) < (x.1.length : Int)) ∧ ∀ (r : Ro [Ty.bo]), r = ((), isLong (List.length (List.getD x.1 (↑x_1 : Int).toNat (dfl tR)).2.1), ()) → (r.2.1 = true → (true, ()) = (longs x.1, ())) ∧ (r.2.1 = false → ((0 : Int) ≤ (↑x_1 : Int) ∧ (↑x_1 : Int) < (x.1.length : Int)) ∧ ∀ (r : Ro [Ty.bo]), r = ((), isLong (List.length (List.getD x.1 (↑x_1 : Int).toNat (dfl tR)).2.2.1), ()) → (r.2.1 = true → (true, ()) = (longs x.1, ())) ∧ (r.2.1 = false → ((-9223372036854775808 : Int) ≤ (↑x_1 : Int) + (1 : Int) ∧ (↑x_1 : Int) + (1 : Int) ≤ (9223372036854775807 : Int)) ∧ ∃ (x' : Nat), x.1 = x.1 ∧ (↑x' : Int) = (↑x_1 : Int) + (1 : Int) ∧ (x' ≤ List.length x.1 ∧ longs (List.take x' x.1) = false) ∧ List.length x.1 - x' < List.length x.1 - x_1))) ∧ (decide ((↑x_1 : Int) < (x.1.length : Int)) = false → (false, ()) = (longs x.1, ()))
theorem w_kLong (y : El sp_kLong.q) (x : Els sp_kLong.ps) : aW c_kLong (iv_kLong y x) Tryz.f48 sp_kLong y x = F_kLong y x := by kernel_rfl
theorem m_kLong (y : El (.un)) (x : Els [.sl tR]) (h2 : wfE (.un) y) (h3 : wfEs [.sl tR] x) : F_kLong y x := by
  unfold F_kLong
  have hL : x.1.length ≤ 9223372036854775807 := h3.1.1
  refine ⟨⟨0, rfl, rfl, Nat.zero_le _, rfl⟩, fun i hi => ⟨fun h => ?_, fun h => ?_⟩⟩
  · obtain ⟨i0, i1⟩ := hi
    have h := ltT h
    have il : i < x.1.length := by omega
    refine ⟨⟨by omega, h⟩, ?_⟩
    rw [Int.toNat_natCast]
    rintro _ rfl
    refine ⟨fun k => ?_, fun k => ⟨⟨by omega, h⟩, ?_⟩⟩
    · have k : isLong (toFr (x.1.getD i (dfl tR))).num.length = true := k
      have : longs x.1 = true := any_at (f := fun f => lngF (toFr f)) il (dfl tR) (by show lngF _ = true; unfold lngF; rw [k]; rfl)
      rw [this]
    rintro _ rfl
    refine ⟨fun m => ?_, fun m => ⟨⟨by omega, by omega⟩, i + 1, rfl, rfl, ⟨il, ?_⟩, by omega⟩⟩
    · have m : isLong (toFr (x.1.getD i (dfl tR))).den.length = true := m
      have : longs x.1 = true := any_at (f := fun f => lngF (toFr f)) il (dfl tR) (by show lngF _ = true; unfold lngF; rw [m]; simp)
      rw [this]
    · have k : isLong (toFr (x.1.getD i (dfl tR))).num.length = false := k
      have m : isLong (toFr (x.1.getD i (dfl tR))).den.length = false := m
      exact any_take (f := fun f => lngF (toFr f)) il (dfl tR) i1 (by show lngF _ = false; unfold lngF; rw [k, m]; rfl)
  · obtain ⟨i0, i1⟩ := hi
    have h := ltF h
    rw [List.take_of_length_le (by omega)] at i1
    rw [i1]
theorem fo_kLong : FnOk Tryz.prog 48 sp_kLong := fnOk_of (C := c_kLong) iv_kLong Tryz.func48 rfl (by kernel_rfl) tys_ok (prims_cons (spec_prim fo_klong) prims_nil) mixed_ (Nat.le_refl _) rfl fun y x h1 h2 h3 h4 =>
  Eq.mpr (w_kLong y x) (m_kLong y x h2 h3)
def gint (a b : Int) : Ga := ⟨(fsmall a 1).1, (fsmall b 1).1⟩
section
variable {t r : Ga}
end
section
variable {r : El tRule}
end
def gone (r : Ga) : Ga × Int := if r = gint (-1) 0 then (Ga.zero, 7) else gadd (gint 1 0) r
def dg1 : ByteArray := ⟨#[48, 49, 50, 51, 52, 53, 54, 55, 56, 57, 97, 98, 99, 100, 101, 102, 103, 104, 105, 106, 107, 108, 109, 110, 111, 112, 113, 114, 115, 116, 117, 118, 119, 120, 121, 122]⟩
def dg2 : ByteArray := ⟨(([48, 48, 48, 49, 48, 50, 48, 51, 48, 52, 48, 53, 48, 54, 48, 55, 48, 56, 48, 57, 49, 48, 49, 49, 49, 50, 49, 51, 49, 52, 49, 53, 49, 54, 49, 55, 49, 56, 49, 57, 50, 48, 50, 49, 50, 50, 50, 51, 50, 52].append [50, 53, 50, 54, 50, 55, 50, 56, 50, 57, 51, 48, 51, 49, 51, 50, 51, 51, 51, 52, 51, 53, 51, 54, 51, 55, 51, 56, 51, 57, 52, 48, 52, 49, 52, 50, 52, 51, 52, 52, 52, 53, 52, 54, 52, 55, 52, 56, 52, 57]).append ([53, 48, 53, 49, 53, 50, 53, 51, 53, 52, 53, 53, 53, 54, 53, 55, 53, 56, 53, 57, 54, 48, 54, 49, 54, 50, 54, 51, 54, 52, 54, 53, 54, 54, 54, 55, 54, 56, 54, 57, 55, 48, 55, 49, 55, 50, 55, 51, 55, 52].append [55, 53, 55, 54, 55, 55, 55, 56, 55, 57, 56, 48, 56, 49, 56, 50, 56, 51, 56, 52, 56, 53, 56, 54, 56, 55, 56, 56, 56, 57, 57, 48, 57, 49, 57, 50, 57, 51, 57, 52, 57, 53, 57, 54, 57, 55, 57, 56, 57, 57])).toArray⟩
def dgB (n : Nat) : ByteArray := if n < 10 then dg1.extract n (n + 1) else dg2.extract (n * 2) (n * 2 + 2)
noncomputable def sp_ssmall : Spec := { q := .un, ps := [.it .i64], rs := [.st], fresh := true, pre := fun _ x => some ((0 : Int) ≤ (x.1 : Int) ∧ (x.1 : Int) < 100), post := fun _ x => ((), (dgB x.1.toNat, ())) }
noncomputable def iv_ssmall (y : El sp_ssmall.q) (x : Els sp_ssmall.ps) : Nat → Option Inv := fun _ => none
noncomputable abbrev c_ssmall : Cfg := cfgS (Tryz.f303).ntmps false []
def F_ssmall (y : El sp_ssmall.q) (x : Els sp_ssmall.ps) : Prop :=
  (fun (i1 : Int) => (decide (i1 < (10 : Int)) = true → ((-9223372036854775808 : Int) ≤ i1 + (1 : Int) ∧ i1 + (1 : Int) ≤ (9223372036854775807 : Int)) ∧ ((0 : Int) ≤ i1 ∧ i1 ≤ i1 + (1 : Int) ∧ i1 + (1 : Int) ≤ (dg1.size : Int)) ∧ (dg1.extract (Int.toNat i1) (i1 + (1 : Int)).toNat, ()) = (dgB (Int.toNat i1), ())) ∧ (decide (i1 < (10 : Int)) = false → ((-9223372036854775808 : Int) ≤ i1 * (2 : Int) ∧ i1 * (2 : Int) ≤ (9223372036854775807 : Int)) ∧ ((-9223372036854775808 : Int) ≤ i1 * (2 : Int) ∧ i1 * (2 : Int) ≤ (9223372036854775807 : Int)) ∧ ((-9223372036854775808 : Int) ≤ i1 * (2 : Int) + (2 : Int) ∧ i1 * (2 : Int) + (2 : Int) ≤ (9223372036854775807 : Int)) ∧ ((0 : Int) ≤ i1 * (2 : Int) ∧ i1 * (2 : Int) ≤ i1 * (2 : Int) + (2 : Int) ∧ i1 * (2 : Int) + (2 : Int) ≤ (↑dg2.size : Int)) ∧ (dg2.extract (i1 * (2 : Int)).toNat (i1 * (2 : Int) + (2 : Int)).toNat, ()) = (dgB (Int.toNat i1), ()))) x.1
theorem w_ssmall (y : El sp_ssmall.q) (x : Els sp_ssmall.ps) : aW c_ssmall (iv_ssmall y x) Tryz.f303 sp_ssmall y x = F_ssmall y x := by kernel_rfl
theorem m_ssmall (y : El (.un)) (x : Els [.it .i64]) (h2 : wfE (.un) y) (h3 : wfEs [.it .i64] x) (h4 : (0 : Int) ≤ (x.1 : Int) ∧ (x.1 : Int) < 100) : F_ssmall y x := by
  unfold F_ssmall
  dsimp only
  obtain ⟨p0, p1⟩ : @LE.le Int _ 0 x.1 ∧ @LT.lt Int _ x.1 100 := h4
  have s1 : dg1.size = 36 := by decide +kernel
  have s2 : dg2.size = 200 := by decide +kernel
  refine ⟨fun h => ?_, fun h => ?_⟩
  · have h := ltT h
    refine ⟨⟨by omega, by omega⟩, ⟨by omega, by omega, by rw [s1]; omega⟩, ?_⟩
    unfold dgB
    rw [if_pos (by omega), show ((x.1 : Int) + 1).toNat = Int.toNat x.1 + 1 by omega]
  · have h := ltF h
    refine ⟨⟨by omega, by omega⟩, ⟨by omega, by omega⟩, ⟨by omega, by omega⟩, ⟨by omega, by omega, by rw [s2]; omega⟩, ?_⟩
    unfold dgB
    rw [if_neg (by omega), show ((x.1 : Int) * 2 + 2).toNat = Int.toNat x.1 * 2 + 2 by omega, show ((x.1 : Int) * 2).toNat = Int.toNat x.1 * 2 by omega]
theorem fo_ssmall : FnOk Tryz.prog 303 sp_ssmall := fnOk_of (C := c_ssmall) iv_ssmall Tryz.func303 rfl (by kernel_rfl) tys_ok prims_nil mixed_ (Nat.le_refl _) rfl fun y x h1 h2 h3 h4 =>
  Eq.mpr (w_ssmall y x) (m_ssmall y x h2 h3 h4)
theorem wrap64_s {n : Int} (h0 : 0 ≤ n) (h1 : n < 100) : IntKind.i64.wrap n = n := by
  exact wrap64_32 ⟨by omega, by omega⟩
noncomputable def sp_sfmtI : Spec := { q := .un, ps := [.it .u64, .it .i64], rs := [.st], fresh := true, pre := fun _ x => some ((0 : Int) ≤ (x.1 : Int) ∧ (x.1 : Int) < 100 ∧ (x.2.1 : Int) = 10), post := fun _ x => ((), (dgB x.1.toNat, ())) }
noncomputable def iv_sfmtI (y : El sp_sfmtI.q) (x : Els sp_sfmtI.ps) : Nat → Option Inv := fun _ => none
noncomputable abbrev c_sfmtI : Cfg := cfgS (Tryz.f250).ntmps false [(303, sp_ssmall.prim)]
def F_sfmtI (y : El sp_sfmtI.q) (x : Els sp_sfmtI.ps) : Prop :=
  ((x.2.1 == (10 : Int)) = true → (decide (x.1 < (100 : Int)) = true → ((0 : Int) ≤ IntKind.i64.wrap x.1 ∧ IntKind.i64.wrap x.1 < (100 : El (Ty.it IntKind.i64))) ∧ ∀ (r : Ro [Ty.st]), r = ((), dgB (IntKind.i64.wrap x.1).toNat, ()) → r.2 = (dgB (Int.toNat x.1), ())) ∧ (decide (x.1 < (100 : Int)) = false → False)) ∧ ((x.2.1 == (10 : Int)) = false → False)
theorem w_sfmtI (y : El sp_sfmtI.q) (x : Els sp_sfmtI.ps) : aW c_sfmtI (iv_sfmtI y x) Tryz.f250 sp_sfmtI y x = F_sfmtI y x := by kernel_rfl
theorem m_sfmtI (y : El (.un)) (x : Els [.it .u64, .it .i64]) (h2 : wfE (.un) y) (h3 : wfEs [.it .u64, .it .i64] x) (h4 : (0 : Int) ≤ (x.1 : Int) ∧ (x.1 : Int) < 100 ∧ (x.2.1 : Int) = 10) : F_sfmtI y x := by
  unfold F_sfmtI
  obtain ⟨p0, p1, p2⟩ : @LE.le Int _ 0 x.1 ∧ @LT.lt Int _ x.1 100 ∧ @Eq Int x.2.1 10 := h4
  have e := wrap64_s p0 p1
  refine ⟨fun _ => ⟨fun _ => ?_, fun h => absurd (ltF h) (Int.not_le.2 p1)⟩, fun h => absurd p2 (neT (by simpa using h))⟩
  rw [e]
  refine ⟨⟨p0, p1⟩, ?_⟩
  rintro _ rfl
  rfl
theorem fo_sfmtI : FnOk Tryz.prog 250 sp_sfmtI := fnOk_of (C := c_sfmtI) iv_sfmtI Tryz.func250 rfl (by kernel_rfl) tys_ok (prims_cons (spec_prim fo_ssmall) prims_nil) mixed_ (Nat.le_refl _) rfl fun y x h1 h2 h3 h4 =>
  Eq.mpr (w_sfmtI y x) (m_sfmtI y x h2 h3 h4)
noncomputable def sp_sfmt : Spec := { q := .un, ps := [.it .u64, .it .i64], rs := [.st], fresh := true, pre := fun _ x => some ((0 : Int) ≤ (x.1 : Int) ∧ (x.1 : Int) < 100 ∧ (x.2.1 : Int) = 10), post := fun _ x => ((), (dgB x.1.toNat, ())) }
noncomputable def iv_sfmt (y : El sp_sfmt.q) (x : Els sp_sfmt.ps) : Nat → Option Inv := fun _ => none
noncomputable abbrev c_sfmt : Cfg := cfgS (Tryz.f198).ntmps false [(250, sp_sfmtI.prim)]
def F_sfmt (y : El sp_sfmt.q) (x : Els sp_sfmt.ps) : Prop :=
  ((0 : Int) ≤ x.1 ∧ x.1 < (100 : El (Ty.it IntKind.u64)) ∧ x.2.1 = (10 : El (Ty.it IntKind.i64))) ∧ ∀ (r : Ro [Ty.st]), r = ((), dgB (Int.toNat x.1), ()) → r.2 = (dgB (Int.toNat x.1), ())
theorem w_sfmt (y : El sp_sfmt.q) (x : Els sp_sfmt.ps) : aW c_sfmt (iv_sfmt y x) Tryz.f198 sp_sfmt y x = F_sfmt y x := by kernel_rfl
theorem m_sfmt (y : El (.un)) (x : Els [.it .u64, .it .i64]) (h2 : wfE (.un) y) (h3 : wfEs [.it .u64, .it .i64] x) (h4 : (0 : Int) ≤ (x.1 : Int) ∧ (x.1 : Int) < 100 ∧ (x.2.1 : Int) = 10) : F_sfmt y x := by
  unfold F_sfmt
  refine ⟨h4, ?_⟩
  rintro _ rfl
  rfl
theorem fo_sfmt : FnOk Tryz.prog 198 sp_sfmt := fnOk_of (C := c_sfmt) iv_sfmt Tryz.func198 rfl (by kernel_rfl) tys_ok (prims_cons (spec_prim fo_sfmtI) prims_nil) mixed_ (Nat.le_refl _) rfl fun y x h1 h2 h3 h4 =>
  Eq.mpr (w_sfmt y x) (m_sfmt y x h2 h3 h4)
theorem calls_st {P : Program} {f : Nat} {ts : List Ty} {pre : El .un → Els ts → Option Prop} {F : Els ts → ByteArray} {W : World} {Z : Nat → Prop} {x : Els ts} {vs : List Value} (h : FnOk P f { q := .un, ps := ts, rs := [.st], fresh := true, pre := pre, post := fun _ x => ((), (F x, ())) }) (hp : holds (pre () x)) (hz : ZOk Z W) (hv : RVs Z W ts x vs) : Calls P f vs.toArray W fun e W' => e = .returned (.string (F x)) ∧ Ext W W' := by
  refine (h.2 Z W 0 vs () x hz hv hp (fun e => by cases e) (fun _ => rfl)).mono ?_
  rintro e w' ⟨v, us, bs, Z', rfl, t1, t2, _, _, _, _, _, t8, _⟩
  have t8 : W.grownBy w' none := t8
  refine ⟨?_, ⟨t8.os, t8.tape, t8.output, t8.size, fun k hk => t8.block k hk (by simp)⟩⟩
  match us, t2 with
  | [u], ⟨b, b', _, h1, h2⟩ =>
    have h1 : RT _ w' .st (F x) [u] ∧ b = [] := h1
    rw [RT] at h1
    have e1 : u = .string (F x) := by simpa using h1.1.1
    rcases t1 with ⟨u', e2, rfl⟩ | ⟨h3, _⟩
    · cases e2; rw [e1]
    · simp at h3
theorem fmt_any {Z : Nat → Prop} (n : Nat) (w : World) (hn : n < 100) (hz : ZOk Z w) : Calls Tryz.prog 198 #[.int .u64 (n : Int), .int .i64 10] w fun e w' => e = .returned (.string (dgB n)) ∧ Ext w w' := by
  refine (calls_st (Z := Z) (x := ((n : Int), (10 : Int), ())) (vs := [.int .u64 (n : Int), .int .i64 10]) fo_sfmt ?_ hz ⟨?_, ?_, trivial⟩).mono ?_
  · show (0 : Int) ≤ (n : Int) ∧ (n : Int) < 100 ∧ (10 : Int) = 10
    omega
  · unfold RV
    rw [if_neg (by decide), RT]
    exact ⟨rfl, Int.le_trans (show IntKind.u64.min ≤ 0 by decide) (by omega), Int.le_trans (show (n : Int) ≤ 100 by omega) (by decide)⟩
  · unfold RV
    rw [if_neg (by decide), RT]
    exact ⟨rfl, show IntKind.i64.min ≤ 10 by decide, show (10 : Int) ≤ IntKind.i64.max by decide⟩
  · rintro e w' ⟨rfl, hx⟩
    exact ⟨rfl, hx⟩
theorem rev_one (A : Option Addr) (c : Nat) (w : World) : Calls Tryz.prog 200 #[.slice A 1 c] w fun e w' => (∃ v, e = .returned v) ∧ w' = w := by
  go_enter Tryz.func200, Tryz.ntmps200
  go_wp2_with fail
  go_loopw [2, 3] (fun i j wr => i = .int .i64 0 ∧ j = .int .i64 0 ∧ wr = w) (fun _ _ _ => 0)
  case atStart => exact ⟨rfl, rfl, rfl⟩
  case round =>
    obtain ⟨rfl, rfl, rfl⟩ := hrel
    go_wp2_with fail
    go_end0
    exact ⟨⟨_, rfl⟩, rfl⟩
theorem join_one (g c : Nat) (s p : ByteArray) (w : World) (hc : w.cell? ⟨g, 0, none⟩ = some (.string s)) : Calls Tryz.prog 191 #[.slice (some ⟨g, 0, none⟩) 1 c, .string p] w fun e w' => e = .returned (.string s) ∧ w' = w := by
  go_enter Tryz.func191, Tryz.ntmps191
  go_wp2_with fail
  go_ret
  exact ⟨rfl, rfl⟩
theorem info_str : (Tryz.prog.info? 9).map (fun i => (i.zero, i.size, i.bytes)) = some (some (.string ⟨#[]⟩), 1, 16) := by kernel_rfl
theorem wpList_appS {w : World} {ops : Array Oper} {rest : List Oper} {o : Oper} {a : Act} {Q : Exit → Act → World → Prop} (hgd : o.guard = none) (s x : Operand)
    (ho : o.op = .call { callee := .builtin .append, args := #[s, x], argTypes := #[93, 93] })
    (hs : a.eval s = .slice none 0 0) (b : Nat) (y : ByteArray) (hx : a.eval x = .slice (some ⟨b, 0, none⟩) 1 1) (hc : w.cell? ⟨b, 0, none⟩ = some (.string y))
    (h : ∀ g c' w', w'.cell? ⟨g, 0, none⟩ = some (.string y) → w.heap.size ≤ g → w.grownBy w' none → wpList Tryz.prog ops Q rest (a.put o.dst (.slice (some ⟨g, 0, none⟩) 1 c')) w') : wpList Tryz.prog ops Q (o :: rest) a w := by
  obtain ⟨i0, hi, hz0, hz1, hz2⟩ := info_parts info_str
  refine wpList_append_own w hgd s x 93 ho w.heap.size 9 i0 (.string ⟨#[]⟩) 1 16 Tryz.underlying93 hi hz0 hz1 hz2 rfl (by decide) _ _ _ hs (World.ownsRow_nil w w.heap.size _ 1) ⟨b, 0, none⟩ 1 1 [.string y] hx rfl
    (fun j u hu => ?_) (fun u hu => ?_) (by unfold maxLen; omega) (by omega) (Nat.le_refl _) ?_
  · match j, hu with
    | 0, hu => cases hu; exact hc
    | j + 1, hu => simp at hu
  · rw [List.mem_singleton] at hu
    subst hu
    rfl
  intro v' w' h2 h3 _
  have h4 := h2
  rcases h2.2 with ⟨_, h1⟩ | ⟨g, cap, cur, rfl, g1, g2, g3, g4, g5, g6⟩
  · simp at h1
  · exact h g cap w' (World.ownsRow.cells h4 (g := g) rfl 0 _ rfl) g1 h3
theorem wd_small {n : Nat} (h0 : n ≠ 0) (hn : n < 4294967296) : (wd n).length = 1 := by
  have h1 : (wd n).length ≤ 1 := wd_len_le n 1 (by show (n : Int) < 4294967296; omega)
  have h2 : (wd n).length ≠ 0 := fun e => h0 (wd_len_zero.1 e)
  omega
theorem nprint_small {Z : Nat → Prop} (A : Option Addr) (c n : Nat) (w : World) (ha : Rd w A c (wd n)) (hn : n < 100) (hz : ZOk Z w) :
    Calls Tryz.prog 121 #[.slice A (wd n).length c] w fun e w' => e = .returned (.tuple #[.string (dgB n), .int .i64 0]) ∧ Ext w w' := by
  have HA := Lib.hid ha
  have HZ := Lib.hid hz
  clear hz
  have hl : (wd n).length ≤ 1 := wd_len_le n 1 (by show (n : Int) < 4294967296; omega)
  clear ha
  go_enter Tryz.func121, Tryz.ntmps121
  go_wp2_with fail
  refine (check_any A _ c w HA.out).mono ?_; rintro e w' ⟨rfl, rfl⟩
  rw [chk_wd n (by omega)]
  by_cases h0 : n = 0
  · subst h0
    have hb : (((wd 0).length : Int) == 0) = true := by rw [wd_zero]; rfl
    go_wp2_with fail
    go_ret2
    exact ⟨rfl, Ext.refl _⟩
  · have h1 := Lib.hid (wd_small h0 (by omega))
    have hb : (((wd n).length : Int) == 0) = false := beq_eq_false_iff_ne.2 (by have := h1.out; omega)
    go_wp2_with fail
    refine (clone_any A _ c _ HA.out (by omega)).mono ?_; rintro e w1 ⟨A1, c1, rfl, k1, k2⟩
    have H1 := Lib.hid k1
    have HX := Lib.hid k2
    clear k1 k2 hb
    go_wp2_with fail
    go_loopg [5, 6] 1 (fun k p x wr => (k = 1 ∧ p = .slice none 0 0 ∧ x = .slice A1 (wd n).length c1 ∧ Hid (Own wr w.heap.size A1 c1 (wd n)) ∧ Hid (Ext w wr)) ∨ (k = 0 ∧ ∃ g cp cx, p = .slice (some ⟨g, 0, none⟩) 1 cp ∧ x = .slice A1 0 cx ∧ Hid (wr.cell? ⟨g, 0, none⟩ = some (.string (dgB n))) ∧ Hid (Ext w wr)))
    case atStart => exact .inl ⟨rfl, rfl, rfl, H1.out, HX.out⟩
    case round =>
      clear H1 HX
      rcases hrel with ⟨hk, rfl, rfl, HO, HX⟩ | ⟨hk, g, cp, cx, rfl, rfl, HC, HX⟩
      · have hb : 0 < (wd n).length := by have := h1.out; omega
        go_wp2_with fail
        refine (small_any A1 n 1000000000 c1 w.heap.size _ HO.out (by omega) (by omega) (by omega) 0 n (Nat.div_eq_of_lt (by omega)) (Nat.mod_eq_of_lt (by omega))).mono ?_; rintro e w2 ⟨rfl, k1, k2⟩
        rw [wd_zero]
        have HX2 := Lib.hid (HX.out.grown k2 (fun b hb => by
          cases A1 with
          | none => cases hb
          | some a => cases hb; exact (HO.out.block).1))
        clear k1 k2
        go_wp2_with fail
        refine (fmt_any n _ hn (HZ.out.ext HX2.out)).mono ?_; rintro e w3 ⟨rfl, hx⟩
        have HX3 := Lib.hid (HX2.out.trans hx)
        clear hx
        go_wp2_with (at_builtin; refine wpList_appS rfl _ _ rfl rfl _ (dgB n) rfl (by simp [go_sem]) ?_; intro g c' w4 hc hg hgr)
        have HX4 := Lib.hid ((HX3.out.alloc _).grownNone hgr)
        have HC := Lib.hid hc
        clear hc hgr
        go_roundg 0
        case measure => omega
        case rel => exact .inr ⟨rfl, g, c', c1, rfl, rfl, HC.out, HX4.out⟩
      · go_wp2_with fail
        refine (rev_one _ _ _).mono ?_; rintro e w5 ⟨⟨v, rfl⟩, rfl⟩
        go_wp2_with fail
        refine (join_one g cp (dgB n) _ _ HC.out).mono ?_; rintro e w6 ⟨rfl, rfl⟩
        go_wp2_with fail
        go_ret2
        exact ⟨rfl, HX.out⟩
def sp_aPrint : Spec := { q := .un, ps := [tW32], rs := [.st, .it .i64], fresh := true, pre := fun _ x => some (nrm x.1 ∧ toN x.1 < 100), post := fun _ x => ((), (dgB (toN x.1), 0, ())) }
theorem dgB_size : ∀ n, n < 100 → (dgB (n : Nat)).size ≤ 2 := by decide +kernel
theorem fo_aPrint : FnOk Tryz.prog 121 sp_aPrint := by
  refine ⟨callFunc_enter Tryz.func121 (by kernel_rfl) rfl, fun Z w gv vs y x hZ hv hp _ _ => ?_⟩
  obtain ⟨xs, u⟩ := x
  match vs, hv with
  | [u], ⟨h1, _⟩ =>
    obtain ⟨p1, p2⟩ : nrm xs ∧ toN xs < 100 := hp
    obtain ⟨n, rfl⟩ := nrm_ex p1
    rw [toN_wd] at p2
    obtain ⟨A, c, rfl, k1, _⟩ := rv_wd h1
    refine (nprint_small A c n w k1 p2 hZ).mono fun e w' ⟨e1, e2⟩ => ?_
    subst e1
    refine told_new (S := sp_aPrint) (r := (dgB (toN (wd n)), 0, ())) (us := [_, _]) (bs := []) rfl rfl (.inr ⟨by simp, rfl⟩) hZ ⟨[], [], rfl, ⟨?_, rfl⟩, [], [], rfl, rq_err (base := w.heap.size) Er.zero, rfl⟩ List.nodup_nil (fun g hg => by simp at hg) e2
    rw [RT, toN_wd]
    exact ⟨rfl, Nat.le_trans (dgB_size n p2) (by decide)⟩
end Go.Proofs.YtemlaompalbgiaaGreatDoor
namespace Go.Proofs.YtemlaompalbgiaaGreatDoor
open Go
def sm (q : Rat) : Bool := decide (q.num.natAbs < 4294967296) && decide (q.den < 4294967296)
theorem wd_one_len {n : Nat} (h : n < 4294967296) : (wd n).length ≤ 1 := wd_len_le n 1 (by show (n : Int) < 4294967296; omega)
theorem sm_lng {q : Rat} (h : sm q = true) : ¬ lng q = true := by
  unfold sm at h
  simp only [Bool.and_eq_true, decide_eq_true_eq] at h
  exact lng_of (Nat.le_trans (wd_one_len h.1) (by decide)) (Nat.le_trans (wd_one_len h.2) (by decide))
theorem fchk_s {q : Rat} (h : sm q = true) : fchk (enc q) = 0 := fchk_enc q (sm_lng h)
section
variable {p q r : Rat}
theorem fadd_s (h : (sm p && sm q && sm r) = true) (e : p + q = r) : fadd (enc p) (enc q) = (enc r, 0) := by
  simp only [Bool.and_eq_true] at h
  rw [fadd_enc (sm_lng h.1.1) (sm_lng h.1.2), e, tell_ok (sm_lng h.2)]
theorem fsmall_s {n d : Int} (h0 : d ≠ 0) (h : sm r = true) (e : mkRat (sg (decide (n < 0) != decide (d < 0)) n.natAbs) d.natAbs = r) : fsmall n d = (enc r, 0) := by
  unfold fsmall
  rw [if_neg h0, e, tell_ok (sm_lng h)]
end
section
variable {a b c d u v x y r i : Rat}
end
end Go.Proofs.YtemlaompalbgiaaGreatDoor
namespace Go.Proofs.YtemlaompalbgiaaGreatDoor
theorem fquo_enc {p q : Rat} (h : ¬ lng p = true) (k : ¬ lng q = true) (n : q ≠ 0) : fquo (enc p) (enc q) = tell (p / q) := (both_ok h k).trans (if_neg n)
section
variable {m n : Nat} {p q a b c d : Rat}
end
end Go.Proofs.YtemlaompalbgiaaGreatDoor
namespace Go.Proofs.YtemlaompalbgiaaGreatDoor
open Go Go.RowKit
def sP (f : Fr) : Prop := fchk f = 0 ∧ toN f.num < 100 ∧ toN f.den < 100
def txR (f : Fr) : ByteArray := if toN f.den = 1 then (if f.neg = true then ⟨#[45]⟩ ++ dgB (toN f.num) else dgB (toN f.num)) else (if f.neg = true then ⟨#[45]⟩ ++ dgB (toN f.num) else dgB (toN f.num)) ++ (⟨#[47]⟩ ++ dgB (toN f.den))
theorem nrm_1 : nrm [1] := by
  rw [← wd_one]
  exact nrm_wd 1
theorem toN_1 : toN [1] = 1 := by rw [← wd_one, toN_wd]
theorem nrm_of {f : Fr} (wf : f.Wf) (h : fchk f = 0) : nrm f.num ∧ nrm f.den := by
  obtain ⟨q, rfl, _⟩ := fchk_ok wf h
  exact ⟨nrm_wd _, nrm_wd _⟩
theorem cmp1_T {n : Nat} (h : ((cmp n (toN [1]) : Int) != 0) = true) : n ≠ 1 := fun e => by
  rw [e, toN_1] at h
  exact absurd h (by decide)
theorem cmp1_F {n : Nat} (h : ((cmp n (toN [1]) : Int) != 0) = false) : n = 1 := by
  rw [toN_1] at h
  have h := bne_eq_false_iff_eq.1 h
  unfold cmp at h
  split at h
  · cases h
  · split at h
    · cases h
    · omega
noncomputable def sp_rPrint : Spec := { q := .un, ps := [tR], rs := [.st, .it .i64], fresh := true, pre := fun _ x => some (sP (toFr x.1)), post := fun _ x => ((), (txR (toFr x.1), 0, ())) }
noncomputable def iv_rPrint (y : El sp_rPrint.q) (x : Els sp_rPrint.ps) : Nat → Option Inv := fun _ => none
noncomputable abbrev c_rPrint : Cfg := cfgS (Tryz.f50).ntmps false [(58, sp_rCheck.prim), (121, sp_aPrint.prim), (122, sp_aCmp.prim)]
def F_rPrint (y : El sp_rPrint.q) (x : Els sp_rPrint.ps) : Prop :=
  ∀ (r : Ro [Ty.it IntKind.i64]), r = ((), fchk (toFr x.1), ()) → ((r.2.1 != (0 : Int)) = true → ((⟨#[]⟩ : ByteArray), r.2) = (txR (toFr x.1), (0 : El (Ty.it IntKind.i64)), ())) ∧ ((r.2.1 != (0 : Int)) = false → (x.1.2.1 = wd (toN x.1.2.1) ∧ toN x.1.2.1 < (100 : Nat)) ∧ ∀ (r : Ro [Ty.st, Ty.it IntKind.i64]), r = ((), dgB (toN x.1.2.1), (0 : El (Ty.it IntKind.i64)), ()) → (x.1.1 = true → (⟨#[(45 : UInt8)]⟩ : ByteArray).size + ByteArray.size r.2.1 ≤ (9223372036854775807 : Nat) ∧ (x.1.2.2.1 = wd (toN x.1.2.2.1) ∧ [(1 : Int)] = wd (toN [(1 : Int)])) ∧ ∀ (r_1 : Ro [Ty.it IntKind.i64]), r_1 = ((), cmp (toN x.1.2.2.1) (toN [(1 : Int)]), ()) → ((r_1.2.1 != (0 : Int)) = true → (x.1.2.2.1 = wd (toN x.1.2.2.1) ∧ toN x.1.2.2.1 < (100 : Nat)) ∧ ∀ (r_2 : Ro [Ty.st, Ty.it IntKind.i64]), r_2 = ((), dgB (toN x.1.2.2.1), (0 : El (Ty.it IntKind.i64)), ()) → (⟨#[(47 : UInt8)]⟩ : ByteArray).size + ByteArray.size r_2.2.1 ≤ (9223372036854775807 : Nat) ∧ ((⟨#[(45 : UInt8)]⟩ : ByteArray) ++ r.2.1).size + ((⟨#[(47 : UInt8)]⟩ : ByteArray) ++ r_2.2.1).size ≤ (9223372036854775807 : Nat) ∧ ((⟨#[(45 : UInt8)]⟩ : ByteArray) ++ r.2.1 ++ ((⟨#[(47 : UInt8)]⟩ : ByteArray) ++ r_2.2.1), (0 : Int), ()) = (txR (toFr x.1), (0 : El (Ty.it IntKind.i64)), ())) ∧ ((r_1.2.1 != (0 : Int)) = false → ((⟨#[(45 : UInt8)]⟩ : ByteArray) ++ r.2.1, (0 : Int), ()) = (txR (toFr x.1), (0 : El (Ty.it IntKind.i64)), ()))) ∧ (x.1.1 = false → (x.1.2.2.1 = wd (toN x.1.2.2.1) ∧ [(1 : Int)] = wd (toN [(1 : Int)])) ∧ ∀ (r_1 : Ro [Ty.it IntKind.i64]), r_1 = ((), cmp (toN x.1.2.2.1) (toN [(1 : Int)]), ()) → ((r_1.2.1 != (0 : Int)) = true → (x.1.2.2.1 = wd (toN x.1.2.2.1) ∧ toN x.1.2.2.1 < (100 : Nat)) ∧ ∀ (r_2 : Ro [Ty.st, Ty.it IntKind.i64]), r_2 = ((), dgB (toN x.1.2.2.1), (0 : El (Ty.it IntKind.i64)), ()) → (⟨#[(47 : UInt8)]⟩ : ByteArray).size + ByteArray.size r_2.2.1 ≤ (9223372036854775807 : Nat) ∧ ByteArray.size r.2.1 + ((⟨#[(47 : UInt8)]⟩ : ByteArray) ++ r_2.2.1).size ≤ (9223372036854775807 : Nat) ∧ (r.2.1 ++ ((⟨#[(47 : UInt8)]⟩ : ByteArray) ++ r_2.2.1), (0 : Int), ()) = (txR (toFr x.1), (0 : El (Ty.it IntKind.i64)), ())) ∧ ((r_1.2.1 != (0 : Int)) = false → (r.2.1, (0 : Int), ()) = (txR (toFr x.1), (0 : El (Ty.it IntKind.i64)), ()))))
theorem w_rPrint (y : El sp_rPrint.q) (x : Els sp_rPrint.ps) : aW c_rPrint (iv_rPrint y x) Tryz.f50 sp_rPrint y x = F_rPrint y x := by kernel_rfl
theorem m_rPrint (y : El (.un)) (x : Els [tR]) (h2 : wfE (.un) y) (h3 : wfEs [tR] x) (h4 : sP (toFr x.1)) : F_rPrint y x := by
  unfold F_rPrint
  have q : sP (toFr x.1) := h4
  obtain ⟨q0, q1, q2⟩ := q
  obtain ⟨n1, n2⟩ := nrm_of (wf_fr h3.1) q0
  have z1 := dgB_size _ q1
  have z2 := dgB_size _ q2
  have z3 : (⟨#[45]⟩ : ByteArray).size = 1 := rfl
  have z4 : (⟨#[47]⟩ : ByteArray).size = 1 := rfl
  rintro _ rfl
  refine ⟨fun h => absurd q0 (neT h), fun _ => ⟨⟨n1, q1⟩, ?_⟩⟩
  rintro _ rfl
  refine ⟨fun hn => ⟨?_, ⟨n2, nrm_1⟩, ?_⟩, fun hn => ⟨⟨n2, nrm_1⟩, ?_⟩⟩
  · show (⟨#[45]⟩ : ByteArray).size + (dgB (toN (toFr x.1).num)).size ≤ _
    omega
  · rintro _ rfl
    refine ⟨fun hd => ⟨⟨n2, q2⟩, ?_⟩, fun hd => ?_⟩
    · have hd := cmp1_T hd
      rintro _ rfl
      refine ⟨?_, ?_, ?_⟩
      · show (⟨#[47]⟩ : ByteArray).size + (dgB (toN (toFr x.1).den)).size ≤ _
        omega
      · show ((⟨#[45]⟩ : ByteArray) ++ dgB (toN (toFr x.1).num)).size + ((⟨#[47]⟩ : ByteArray) ++ dgB (toN (toFr x.1).den)).size ≤ _
        rw [ByteArray.size_append, ByteArray.size_append]
        omega
      · unfold txR
        rw [if_neg hd, if_pos (show (toFr x.1).neg = true from hn)]
    · have hd := cmp1_F hd
      unfold txR
      rw [if_pos hd, if_pos (show (toFr x.1).neg = true from hn)]
  · have hn' : ¬ (toFr x.1).neg = true := fun e => by
      have hn : (toFr x.1).neg = false := hn
      rw [hn] at e
      cases e
    rintro _ rfl
    refine ⟨fun hd => ⟨⟨n2, q2⟩, ?_⟩, fun hd => ?_⟩
    · have hd := cmp1_T hd
      rintro _ rfl
      refine ⟨?_, ?_, ?_⟩
      · show (⟨#[47]⟩ : ByteArray).size + (dgB (toN (toFr x.1).den)).size ≤ _
        omega
      · show (dgB (toN (toFr x.1).num)).size + ((⟨#[47]⟩ : ByteArray) ++ dgB (toN (toFr x.1).den)).size ≤ _
        rw [ByteArray.size_append]
        omega
      · unfold txR
        rw [if_neg hd, if_neg hn']
    · have hd := cmp1_F hd
      unfold txR
      rw [if_pos hd, if_neg hn']
theorem fo_rPrint : FnOk Tryz.prog 50 sp_rPrint := fnOk_of (C := c_rPrint) iv_rPrint Tryz.func50 rfl (by kernel_rfl) tys_ok (prims_cons (spec_prim fo_rCheck) (prims_cons (spec_prim fo_aPrint) (prims_cons (spec_prim fo_aCmp) prims_nil))) mixed_ (Nat.le_refl _) rfl fun y x h1 h2 h3 h4 =>
  Eq.mpr (w_rPrint y x) (m_rPrint y x h2 h3 h4)
end Go.Proofs.YtemlaompalbgiaaGreatDoor
