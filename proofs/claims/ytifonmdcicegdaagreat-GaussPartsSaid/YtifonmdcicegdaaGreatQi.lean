/- Texts of this claim, joined: U3 Y2 U4. -/
import Derived.Deep.RegionHeld3
import Derived.Test.YtifonmdcicegdaaGreatQh
/- gauss: check, asked. -/
namespace Go.Proofs.YtifonmdcicegdaaGreat
open Go Go.RowKit

/-- the first error, behind one -/
def chkL (e : Int) (L : Nat → Fr) : Nat → Int
  | 0 => e
  | k + 1 => if chkL e L k ≠ 0 then chkL e L k else fchk (L k)
theorem rcheck_rf (a : Fr) (p : Adr) (w : World) (ha : RF w p a) : Calls Tryz.prog 29 #[.agg #[.bool a.neg, .slice p.A a.num.length p.c, .slice p.B a.den.length p.d]] w fun e w' => e = .returned (.int .i64 (fchk a)) ∧ Below w.heap.size w w' :=
  rcheck_any a.neg p.A p.B a.num a.den p.c p.d w ha.num ha.den ha.wf.num ha.wf.den

/-- fractions side by side in a block -/
def SideF (g n : Nat) (p : Nat → Adr) (L : Nat → Fr) (w : World) : Prop := ∀ j, j < n → w.cell? ⟨g, j * 3, none⟩ = some (.bool (L j).neg) ∧ w.cell? ⟨g, j * 3 + 1, none⟩ = some (.slice (p j).A (L j).num.length (p j).c) ∧ w.cell? ⟨g, j * 3 + 2, none⟩ = some (.slice (p j).B (L j).den.length (p j).d)

set_option maxHeartbeats 1000000 in
theorem gwcheck_any (gw : Nat) (e0 : Int) (g n : Nat) (p : Nat → Adr) (L : Nat → Fr) (w0 w : World) (hw : Way gw e0 w) (hf : SideF g n p L w) (hr : ∀ j, j < n → RF w0 (p j) (L j)) (hx : Below w0.heap.size w0 w) (hn : n ≤ 1000000) (hg : g ≠ gw) (h0 : w0.heap.size ≤ gw) :
    Calls Tryz.prog 177 #[.pointer (some ⟨gw, 0, none⟩), .slice (some ⟨g, 0, none⟩) n n] w fun e w' => e = .returned (.tuple #[]) ∧ w.grownBy w' (some gw) ∧ Way gw (chkL e0 L n) w' := by
  have HF := Lib.hid hf
  have HR := Lib.hid hr
  have HW := Lib.hid hw
  have HX := Lib.hid hx
  clear hf hr hw hx
  go_enter Tryz.func177, Tryz.ntmps177
  go_wp2_with fail
  go_loopw [8] (fun s wr => ∃ k : Nat, k ≤ n ∧ s = .int .i64 k ∧ Hid (w.grownBy wr (some gw)) ∧ Hid (Way gw (chkL e0 L k) wr)) (fun s _ => n - (intOf s).toNat)
  case atStart => exact ⟨0, by omega, rfl, World.grownBy.refl w _, HW.out⟩
  case round =>
    obtain ⟨k, hk, rfl, HG, HWr⟩ := hrel
    by_cases hkn : k < n
    · obtain ⟨f0, f1, f2⟩ := HF.out k hkn
      have q0 := cell_keep HG.out f0 (fun e => hg (Option.some.inj e))
      have q1 := cell_keep HG.out f1 (fun e => hg (Option.some.inj e))
      have q2 := cell_keep HG.out f2 (fun e => hg (Option.some.inj e))
      have HB := Lib.hid (Below.by1 HX.out HG.out h0)
      clear f0 f1 f2
      obtain ⟨e, he⟩ : ∃ e, e = chkL e0 L k := ⟨_, rfl⟩
      rw [← he] at HWr
      have HE := Lib.hid he
      clear he
      have hgw := HWr.out.lt
      have v0 := (HWr.out.ext ((Ext.refl wr).alloc (.cells #[.bool (L k).neg, .slice (p k).A (L k).num.length (p k).c, .slice (p k).B (L k).den.length (p k).d] 24))).c
      by_cases h1 : e ≠ 0
      · have hb : (e == 0) = false := beq_eq_false_iff_ne.2 h1
        have HS := Lib.hid (show chkL e0 L (k + 1) = e by show (if _ then _ else _) = _; rw [← HE.out, if_pos h1])
        go_wp2_with fail
        go_roundw
        case rel => exact ⟨k + 1, by omega, by go_num, grown_alloc HG.out _, by unfold Hid; rw [HS.out]; exact HWr.out.ext ((Ext.refl wr).alloc _)⟩
        case measure => simp [intOf]; omega
      · obtain rfl : e = 0 := by simpa using h1
        have hb : ((0 : Int) == 0) = true := rfl
        have HS := Lib.hid (show chkL e0 L (k + 1) = fchk (L k) by show (if _ then _ else _) = _; rw [← HE.out, if_neg h1])
        have HC := Lib.hid (fun wx (hx : Ext w0 wx) => rcheck_rf (L k) (p k) wx ((HR.out k hkn).ext hx))
        clear h1
        go_wp2_with fail
        refine (HC.out _ (by exact Below.alloc HB.out (Below.size HB.out) _)).mono ?_; rintro e w1 ⟨rfl, hx⟩
        have HX1 := Lib.hid hx
        have HW1 := Lib.hid ((HWr.out.ext ((Ext.refl wr).alloc _)).ext hx)
        have c0 := HW1.out.c
        have c1 := HW1.out.f 0
        clear hx
        go_wp2_with fail
        go_roundw
        case rel => exact ⟨k + 1, by omega, by go_num, grown_setWay (grown_ext (grown_alloc HG.out _) HX1.out), by unfold Hid; rw [HS.out]; exact HW1.out.set⟩
        case measure => simp [intOf]; omega
    · obtain rfl : k = n := by omega
      go_wp2_with fail
      go_end0
      exact ⟨rfl, HG.out, HWr.out⟩

theorem chkL2 (e : Int) (a b : Fr) : chkL e (fun j => if j = 0 then a else b) 2 = if e ≠ 0 then e else fchk2 a b := by
  show (if (if e ≠ 0 then e else fchk a) ≠ 0 then (if e ≠ 0 then e else fchk a) else fchk b) = _
  by_cases h : e ≠ 0
  · simp [h]
  · simp only [if_neg h]
    rfl
theorem sideF2 {g : Nat} {w : World} {a b : Fr} {p q : Adr} (h : Var g [.bool a.neg, .slice p.A a.num.length p.c, .slice p.B a.den.length p.d, .bool b.neg, .slice q.A b.num.length q.c, .slice q.B b.den.length q.d] w) :
    SideF g 2 (fun j => if j = 0 then p else q) (fun j => if j = 0 then a else b) w := fun j hj =>
  match j, hj with
  | 0, _ => ⟨h.at_ 0 _ rfl, h.at_ 1 _ rfl, h.at_ 2 _ rfl⟩
  | 1, _ => ⟨h.at_ 3 _ rfl, h.at_ 4 _ rfl, h.at_ 5 _ rfl⟩
/-- a complex fraction that is read -/
structure RG (w : World) (p q : Adr) (a : Ga) : Prop where
  re : RF w p a.re
  im : RF w q a.im
theorem RG.ext {w w' : World} {p q : Adr} {a : Ga} (h : RG w p q a) (x : Ext w w') : RG w' p q a := ⟨h.re.ext x, h.im.ext x⟩
theorem RG.wf {w : World} {p q : Adr} {a : Ga} (h : RG w p q a) : a.Wf := ⟨h.re.wf, h.im.wf⟩
/-- complex fractions side by side in a block -/
def SideG (g n : Nat) (p q : Nat → Adr) (L : Nat → Ga) (w : World) : Prop := ∀ j, j < n → w.cell? ⟨g, j * 6, none⟩ = some (.bool (L j).re.neg) ∧ w.cell? ⟨g, j * 6 + 1, none⟩ = some (.slice (p j).A (L j).re.num.length (p j).c) ∧ w.cell? ⟨g, j * 6 + 2, none⟩ = some (.slice (p j).B (L j).re.den.length (p j).d) ∧
  w.cell? ⟨g, j * 6 + 3, none⟩ = some (.bool (L j).im.neg) ∧ w.cell? ⟨g, j * 6 + 4, none⟩ = some (.slice (q j).A (L j).im.num.length (q j).c) ∧ w.cell? ⟨g, j * 6 + 5, none⟩ = some (.slice (q j).B (L j).im.den.length (q j).d)
/-- the first error of complex fractions -/
def askL (L : Nat → Ga) : Nat → Int
  | 0 => 0
  | k + 1 => if askL L k ≠ 0 then askL L k else gchk (L k)

set_option maxHeartbeats 2000000 in
theorem asked_any (g n : Nat) (p q : Nat → Adr) (L : Nat → Ga) (w : World) (hf : SideG g n p q L w) (hr : ∀ j, j < n → RG w (p j) (q j) (L j)) (hn : n ≤ 1000000) :
    Calls Tryz.prog 163 #[.slice (some ⟨g, 0, none⟩) n n] w fun e w' => ∃ gw, e = .returned (.pointer (some ⟨gw, 0, none⟩)) ∧ w.heap.size ≤ gw ∧ Way gw (askL L n) w' ∧ Below w.heap.size w w' := by
  have HF := Lib.hid hf
  have HR := Lib.hid hr
  clear hf hr
  have HW : Hid (Way w.heap.size 0 (w.alloc (.cells #[.int .i64 0] 151))) := ⟨by simp [go_sem], fun o => by simp [go_sem]⟩
  go_enter Tryz.func163, Tryz.ntmps163
  go_wp2_with fail
  obtain ⟨gw, hgw⟩ : ∃ gw, gw = w.heap.size := ⟨_, rfl⟩
  rw [← hgw]
  rw [← hgw] at HW
  have HGW := Lib.hid hgw
  clear hgw
  go_loopw [9] (fun s wr => ∃ k : Nat, k ≤ n ∧ s = .int .i64 k ∧ Hid (Below w.heap.size w wr) ∧ Hid (Way gw (askL L k) wr)) (fun s _ => n - (intOf s).toNat)
  case atStart => exact ⟨0, by omega, rfl, (Below.refl _ _).alloc (Nat.le_refl _) _, HW.out⟩
  case round =>
    obtain ⟨k, hk, rfl, HX, HWr⟩ := hrel
    by_cases hkn : k < n
    · obtain ⟨f0, f1, f2, f3, f4, f5⟩ := HF.out k hkn
      have q0 := Ext.cell HX.out f0
      have q1 := Ext.cell HX.out f1
      have q2 := Ext.cell HX.out f2
      have q3 := Ext.cell HX.out f3
      have q4 := Ext.cell HX.out f4
      have q5 := Ext.cell HX.out f5
      clear f0 f1 f2 f3 f4 f5
      have HB := Lib.hid HX.out
      have hlt := HWr.out.lt
      have hge : w.heap.size ≤ gw := by have := HGW.out; omega
      have HRG := Lib.hid (HR.out k hkn)
      go_wp2_with fail
      refine (gwcheck_any gw (askL L k) _ 2 (fun j => if j = 0 then p k else q k) (fun j => if j = 0 then (L k).re else (L k).im) w _ (HWr.out.ext (((Ext.refl wr).alloc _).alloc _)) (sideF2 ?hv) ?hr ?hx (by omega) ?hg hge).mono ?_
      case hv =>
        have := Var.new (wr.alloc (.cells #[.bool (L k).re.neg, .slice (p k).A (L k).re.num.length (p k).c, .slice (p k).B (L k).re.den.length (p k).d, .bool (L k).im.neg, .slice (q k).A (L k).im.num.length (q k).c, .slice (q k).B (L k).im.den.length (q k).d] 46)) [.bool (L k).re.neg, .slice (p k).A (L k).re.num.length (p k).c, .slice (p k).B (L k).re.den.length (p k).d, .bool (L k).im.neg, .slice (q k).A (L k).im.num.length (q k).c, .slice (q k).B (L k).im.den.length (q k).d] 24
        simpa using this
      case hr =>
        intro j hj
        match j, hj with
        | 0, _ => exact HRG.out.re
        | 1, _ => exact HRG.out.im
      case hx => exact Ext.alloc (Ext.alloc HB.out _) _
      case hg => simp; omega
      rintro e w1 ⟨rfl, hg, hw1⟩
      have HB1 := Lib.hid (Below.by1 (Ext.alloc (Ext.alloc HB.out _) _) hg hge)
      have HW1 := Lib.hid hw1
      clear hg hw1
      go_wp2_with fail
      go_roundw
      case rel => exact ⟨k + 1, by omega, by go_num, HB1.out, by have := HW1.out; rw [chkL2] at this; exact this⟩
      case measure => simp [intOf]; omega
    · obtain rfl : k = n := by omega
      go_wp2_with fail
      go_ret
      exact ⟨gw, rfl, by have := HGW.out; omega, HWr.out, HX.out⟩

end Go.Proofs.YtifonmdcicegdaaGreat

/- The state of a walk: blocks that are the call's own, fractions in rows of its own. -/
namespace Go.Proofs.YtifonmdcicegdaaGreat
open Go Go.RowKit

theorem look_push {α : Type} {l : List α} {x y : α} {i : Nat} (h : (l ++ [x])[i]? = some y) : l[i]? = some y ∨ (i = l.length ∧ x = y) := by
  by_cases hi : i < l.length
  · rw [List.getElem?_append_left hi] at h; exact .inl h
  · rw [List.getElem?_append_right (by omega)] at h
    by_cases h0 : i - l.length = 0
    · rw [h0] at h; simp at h; exact .inr ⟨by omega, h⟩
    · rw [List.getElem?_eq_none (by simp; omega)] at h; cases h
theorem look_set {α : Type} {l : List α} {x y : α} {i j : Nat} (h : (l.set i x)[j]? = some y) : (j = i ∧ x = y) ∨ (j ≠ i ∧ l[j]? = some y) := by
  by_cases hj : j = i
  · subst hj
    rw [List.getElem?_set] at h
    simp at h
    exact .inl ⟨rfl, h.2⟩
  · rw [List.getElem?_set_ne (Ne.symm hj)] at h
    exact .inr ⟨hj, h⟩

/-- V: blocks with what they hold; R: fractions with where they lie. row: a block that was there and is written; wb: a world before it -/
structure Sta (wb w0 : World) (row : Option Nat) (V : List (Nat × List Value)) (R : List (Adr × Fr)) (w : World) : Prop where
  v : ∀ (i k : Nat) (vs : List Value), V[i]? = some (k, vs) → Var k vs w
  vn : ∀ (i j k : Nat) (vs us : List Value), V[i]? = some (k, vs) → V[j]? = some (k, us) → i = j
  vb : ∀ (i k : Nat) (vs : List Value), V[i]? = some (k, vs) → w0.heap.size ≤ k ∨ row = some k
  vw : ∀ (i k : Nat) (vs : List Value), V[i]? = some (k, vs) → wb.heap.size ≤ k
  r : ∀ (i : Nat) (p : Adr) (f : Fr), R[i]? = some (p, f) → OF w w0.heap.size p f
  ro : ∀ (i : Nat) (p : Adr) (f : Fr) (j k : Nat) (vs : List Value), R[i]? = some (p, f) → V[j]? = some (k, vs) → p.Off k
  rd : ∀ (i j : Nat) (p : Adr) (f : Fr) (q : Adr) (g : Fr), i < j → R[i]? = some (p, f) → R[j]? = some (q, g) → p.Dis q
  x : Below wb.heap.size wb w
  g : w0.grownBy w row
  hb : wb.heap.size ≤ w0.heap.size

section
variable {wb w0 w w' : World} {row : Option Nat} {V : List (Nat × List Value)} {R : List (Adr × Fr)}

theorem Sta.start (w : World) : Sta w w none [] [] w :=
  ⟨fun _ _ _ h => by simp at h, fun _ _ _ _ _ h => by simp at h, fun _ _ _ h => by simp at h, fun _ _ _ h => by simp at h, fun _ _ _ h => by simp at h, fun _ _ _ _ _ _ h => by simp at h, fun _ _ _ _ _ _ _ h => by simp at h, Below.refl _ _, World.grownBy.refl _ _, Nat.le_refl _⟩
theorem Sta.ext (S : Sta wb w0 row V R w) (x : Below w.heap.size w w') : Sta wb w0 row V R w' :=
  ⟨fun i k vs h => (S.v i k vs h).ext x, S.vn, S.vb, S.vw, fun i p f h => (S.r i p f h).ext x, S.ro, S.rd, Below.join S.x x, grown_ext S.g x, S.hb⟩
theorem Sta.drew (S : Sta wb w0 row V R w) : Sta wb w0 row V R w.drew := S.ext (Ext.refl w).drew
theorem Sta.anon (S : Sta wb w0 row V R w) {o : Obj} : Sta wb w0 row V R (w.alloc o) := S.ext ((Ext.refl w).alloc o)
theorem Sta.new (S : Sta wb w0 row V R w) (vs : List Value) (t : TypeId) : Sta wb w0 row (V ++ [(w.heap.size, vs)]) R (w.alloc (.cells vs.toArray t)) := by
  have x := (Ext.refl w).alloc (.cells vs.toArray t)
  have hs := S.g.size
  refine ⟨fun i k us h => ?_, fun i j k us zs h h' => ?_, fun i k us h => ?_, fun i k us h => ?_, fun i p f h => (S.r i p f h).ext x, fun i p f j k us h h' => ?_, S.rd, Below.join S.x x, grown_ext S.g x, S.hb⟩
  · rcases look_push h with h | ⟨_, h⟩
    · exact (S.v i k us h).ext x
    · cases h; exact Var.new w vs t
  · rcases look_push h with h | ⟨e, h⟩ <;> rcases look_push h' with h' | ⟨e', h'⟩
    · exact S.vn i j k us zs h h'
    · cases h'; exact absurd (S.v i _ us h).lt (Nat.lt_irrefl _)
    · cases h; exact absurd (S.v j _ zs h').lt (Nat.lt_irrefl _)
    · omega
  · rcases look_push h with h | ⟨_, h⟩
    · exact S.vb i k us h
    · cases h; exact .inl hs
  · rcases look_push h with h | ⟨_, h⟩
    · exact S.vw i k us h
    · cases h; exact Nat.le_trans S.hb hs
  · rcases look_push h' with h' | ⟨_, h'⟩
    · exact S.ro i p f j k us h h'
    · cases h'; exact (S.r i p f h).offHi (Nat.le_refl _)
/-- a callee writes one of the blocks -/
theorem Sta.row1 (S : Sta wb w0 row V R w) {i k : Nat} {vs us : List Value} (hi : V[i]? = some (k, vs)) (g : w.grownBy w' (some k)) (y : Var k us w') : Sta wb w0 row (V.set i (k, us)) R w' := by
  refine ⟨fun j l zs h => ?_, fun j m l zs ys h h' => ?_, fun j l zs h => ?_, fun j l zs h => ?_, fun j p f h => (S.r j p f h).kept g (S.ro j p f i k vs h hi), fun j p f m l zs h h' => ?_, S.rd, ?_, ?_, S.hb⟩
  · rcases look_set h with ⟨_, h⟩ | ⟨hj, h⟩
    · cases h; exact y
    · exact (S.v j l zs h).by1 g (fun e => hj (S.vn j i l zs vs h (by rw [e]; exact hi)))
  · rcases look_set h with ⟨e, h⟩ | ⟨hj, h⟩ <;> rcases look_set h' with ⟨e', h'⟩ | ⟨hm, h'⟩
    · omega
    · cases h; exact e ▸ S.vn i m k vs ys hi h'
    · cases h'; exact e' ▸ S.vn j i k zs vs h hi
    · exact S.vn j m l zs ys h h'
  · rcases look_set h with ⟨_, h⟩ | ⟨hj, h⟩
    · cases h; exact S.vb i k vs hi
    · exact S.vb j l zs h
  · rcases look_set h with ⟨_, h⟩ | ⟨hj, h⟩
    · cases h; exact S.vw i k vs hi
    · exact S.vw j l zs h
  · rcases look_set h' with ⟨_, h'⟩ | ⟨hj, h'⟩
    · cases h'; exact S.ro j p f i k vs h hi
    · exact S.ro j p f m l zs h h'
  · exact Ext.grown S.x g (fun e he => by cases he; exact S.vw i k vs hi)
  · rcases S.vb i k vs hi with h | h
    · exact ⟨g.os.trans S.g.os, g.tape.trans S.g.tape, g.output.trans S.g.output, Nat.le_trans S.g.size g.size, fun b hb hr => (g.block b (Nat.lt_of_lt_of_le hb S.g.size) (fun e => by cases e; omega)).trans (S.g.block b hb hr)⟩
    · subst h; exact grown_trans S.g g
theorem Sta.set1 (S : Sta wb w0 row V R w) {i k : Nat} {vs : List Value} (hi : V[i]? = some (k, vs)) (j : Nat) (u : Value) (hj : j < vs.length) : Sta wb w0 row (V.set i (k, vs.set j u)) R (w.setCell ⟨k, j, none⟩ u) :=
  S.row1 hi (grown_setCell w ⟨k, j, none⟩ u) ((S.v i k vs hi).set j u hj)
theorem Sta.set3 (S : Sta wb w0 row V R w) {i k : Nat} {a b c a' b' c' : Value} (hi : V[i]? = some (k, [a, b, c])) : Sta wb w0 row (V.set i (k, [a', b', c'])) R (((w.setCell ⟨k, 0, none⟩ a').setCell ⟨k, 1, none⟩ b').setCell ⟨k, 2, none⟩ c') := by
  have v := S.v i k _ hi
  exact S.row1 hi (grown_trans (grown_trans (grown_setCell w ⟨k, 0, none⟩ a') (grown_setCell _ ⟨k, 1, none⟩ b')) (grown_setCell _ ⟨k, 2, none⟩ c')) (((v.set 0 a' (by simp)).set 1 b' (by simp)).set 2 c' (by simp))
theorem Sta.set6 (S : Sta wb w0 row V R w) {i k : Nat} {a b c d e f a' b' c' d' e' f' : Value} (hi : V[i]? = some (k, [a, b, c, d, e, f])) : Sta wb w0 row (V.set i (k, [a', b', c', d', e', f'])) R ((((((w.setCell ⟨k, 0, none⟩ a').setCell ⟨k, 1, none⟩ b').setCell ⟨k, 2, none⟩ c').setCell ⟨k, 3, none⟩ d').setCell ⟨k, 4, none⟩ e').setCell ⟨k, 5, none⟩ f') := by
  have v := S.v i k _ hi
  exact S.row1 hi (grown_trans (grown_trans (grown_trans (grown_trans (grown_trans (grown_setCell w ⟨k, 0, none⟩ a') (grown_setCell _ ⟨k, 1, none⟩ b')) (grown_setCell _ ⟨k, 2, none⟩ c')) (grown_setCell _ ⟨k, 3, none⟩ d')) (grown_setCell _ ⟨k, 4, none⟩ e')) (grown_setCell _ ⟨k, 5, none⟩ f'))
    ((((((v.set 0 a' (by simp)).set 1 b' (by simp)).set 2 c' (by simp)).set 3 d' (by simp)).set 4 e' (by simp)).set 5 f' (by simp))
/-- a row more, behind a call that began in w -/
theorem Sta.add {V' : List (Nat × List Value)} (S : Sta wb w0 row V R w) (T : Sta wb w0 row V' R w') (hV : ∀ (i k : Nat) (vs : List Value), V'[i]? = some (k, vs) → k < w.heap.size) {p : Adr} {f : Fr} (o : OF w' w.heap.size p f) : Sta wb w0 row V' (R ++ [(p, f)]) w' := by
  refine ⟨T.v, T.vn, T.vb, T.vw, fun i q g h => ?_, fun i q g j k vs h h' => ?_, fun i j q g s h hij h1 h2 => ?_, T.x, T.g, T.hb⟩
  · rcases look_push h with h | ⟨_, h⟩
    · exact T.r i q g h
    · cases h; exact o.lower S.g.size
  · rcases look_push h with h | ⟨_, h⟩
    · exact T.ro i q g j k vs h h'
    · cases h; exact o.offLo (hV j k vs h')
  · rcases look_push h2 with h2 | ⟨e2, h2⟩
    · rcases look_push h1 with h1 | ⟨e1, h1⟩
      · exact T.rd i j q g s h hij h1 h2
      · have := (List.getElem?_eq_some_iff.1 h2).1; omega
    · rcases look_push h1 with h1 | ⟨e1, h1⟩
      · cases h2; exact (S.r i q g h1).dis o (Nat.le_refl _)
      · omega
/-- a call that tells a fraction in new memory -/
theorem Sta.call (S : Sta wb w0 row V R w) (x : Below w.heap.size w w') {p : Adr} {f : Fr} (o : OF w' w.heap.size p f) : Sta wb w0 row V (R ++ [(p, f)]) w' :=
  S.add (S.ext x) (fun i k vs h => (S.v i k vs h).lt) o
/-- .. and writes a block -/
theorem Sta.callw (S : Sta wb w0 row V R w) {i k : Nat} {vs us : List Value} (hi : V[i]? = some (k, vs)) (g : w.grownBy w' (some k)) (y : Var k us w') {p : Adr} {f : Fr} (o : OF w' w.heap.size p f) : Sta wb w0 row (V.set i (k, us)) (R ++ [(p, f)]) w' :=
  S.add (S.row1 hi g y) (fun j l zs h => by
    rcases look_set h with ⟨_, h⟩ | ⟨_, h⟩
    · cases h; exact (S.v i k vs hi).lt
    · exact (S.v j l zs h).lt) o
/-- a row more, that lies apart -/
theorem Sta.plus (T : Sta wb w0 row V R w) {p : Adr} {f : Fr} (o : OF w w0.heap.size p f) (ho : ∀ (i k : Nat) (vs : List Value), V[i]? = some (k, vs) → p.Off k) (hd : ∀ (i : Nat) (q : Adr) (g : Fr), R[i]? = some (q, g) → q.Dis p) : Sta wb w0 row V (R ++ [(p, f)]) w := by
  refine ⟨T.v, T.vn, T.vb, T.vw, fun i q g h => ?_, fun i q g j k vs h h' => ?_, fun i j q g s h hij h1 h2 => ?_, T.x, T.g, T.hb⟩
  · rcases look_push h with h | ⟨_, h⟩
    · exact T.r i q g h
    · cases h; exact o
  · rcases look_push h with h | ⟨_, h⟩
    · exact T.ro i q g j k vs h h'
    · cases h; exact ho j k vs h'
  · rcases look_push h2 with h2 | ⟨e2, h2⟩
    · rcases look_push h1 with h1 | ⟨e1, h1⟩
      · exact T.rd i j q g s h hij h1 h2
      · have := (List.getElem?_eq_some_iff.1 h2).1; omega
    · rcases look_push h1 with h1 | ⟨e1, h1⟩
      · cases h2; exact hd i q g h1
      · omega
/-- two rows more, behind a call that began in w -/
theorem Sta.add2 {V' : List (Nat × List Value)} (S : Sta wb w0 row V R w) (T : Sta wb w0 row V' R w') (hV : ∀ (i k : Nat) (vs : List Value), V'[i]? = some (k, vs) → k < w.heap.size) {p q : Adr} {f g : Fr} (o : OF w' w.heap.size p f) (o' : OF w' w.heap.size q g) (d : p.Dis q) : Sta wb w0 row V' (R ++ [(p, f)] ++ [(q, g)]) w' :=
  (S.add T hV o).plus (o'.lower S.g.size) (fun i k vs h => o'.offLo (hV i k vs h)) (fun i s h hi => by
    rcases look_push hi with hi | ⟨_, hi⟩
    · exact (S.r i s h hi).dis o' (Nat.le_refl _)
    · cases hi; exact d)
theorem Sta.call2 (S : Sta wb w0 row V R w) (x : Below w.heap.size w w') {p q : Adr} {f g : Fr} (o : OF w' w.heap.size p f) (o' : OF w' w.heap.size q g) (d : p.Dis q) : Sta wb w0 row V (R ++ [(p, f)] ++ [(q, g)]) w' :=
  S.add2 (S.ext x) (fun i k vs h => (S.v i k vs h).lt) o o' d
theorem Sta.callw2 (S : Sta wb w0 row V R w) {i k : Nat} {vs us : List Value} (hi : V[i]? = some (k, vs)) (g : w.grownBy w' (some k)) (y : Var k us w') {p q : Adr} {f h : Fr} (o : OF w' w.heap.size p f) (o' : OF w' w.heap.size q h) (d : p.Dis q) : Sta wb w0 row (V.set i (k, us)) (R ++ [(p, f)] ++ [(q, h)]) w' :=
  S.add2 (S.row1 hi g y) (fun j l zs h => by
    rcases look_set h with ⟨_, h⟩ | ⟨_, h⟩
    · cases h; exact (S.v i k vs hi).lt
    · exact (S.v j l zs h).lt) o o' d
theorem Sta.conv {V' : List (Nat × List Value)} {R' : List (Adr × Fr)} (S : Sta wb w0 row V R w) (h : V = V') (h' : R = R') : Sta wb w0 row V' R' w := h ▸ h' ▸ S
theorem look_two {α : Type} {l : List α} {x y z : α} {i : Nat} (h : (l ++ [x] ++ [y])[i]? = some z) : l[i]? = some z ∨ (i = l.length ∧ x = z) ∨ (i = l.length + 1 ∧ y = z) := by
  rcases look_push h with h | ⟨h, e⟩
  · rcases look_push h with h | ⟨h, e⟩
    · exact .inl h
    · exact .inr (.inl ⟨h, e⟩)
  · exact .inr (.inr ⟨by simpa using h, e⟩)
theorem Sta.swap {x y : Nat × List Value} (S : Sta wb w0 row (V ++ [x] ++ [y]) R w) : Sta wb w0 row (V ++ [y] ++ [x]) R w := by
  have f : ∀ {i : Nat} {z : Nat × List Value}, (V ++ [y] ++ [x])[i]? = some z → ∃ j, (V ++ [x] ++ [y])[j]? = some z ∧ (i < V.length → j = i) ∧ (i = V.length → j = V.length + 1) ∧ (i = V.length + 1 → j = V.length) ∧ (i < V.length ∨ i = V.length ∨ i = V.length + 1) := fun {i z} h => by
    rcases look_two h with h | ⟨h, e⟩ | ⟨h, e⟩
    · have hl := (List.getElem?_eq_some_iff.1 h).1
      exact ⟨i, by rw [List.append_assoc, List.getElem?_append_left hl]; exact h, fun _ => rfl, fun e => by omega, fun e => by omega, .inl hl⟩
    · exact ⟨V.length + 1, by subst e; rw [List.append_assoc, List.getElem?_append_right (by omega)]; simp, fun e => by omega, fun _ => rfl, fun e => by omega, .inr (.inl h)⟩
    · exact ⟨V.length, by subst e; rw [List.append_assoc, List.getElem?_append_right (by omega)]; simp, fun e => by omega, fun e => by omega, fun _ => rfl, .inr (.inr h)⟩
  refine ⟨fun i k vs h => ?_, fun i j k vs us h h' => ?_, fun i k vs h => ?_, fun i k vs h => ?_, S.r, fun i p g j k vs h h' => ?_, S.rd, S.x, S.g, S.hb⟩
  · obtain ⟨j, h, _⟩ := f h; exact S.v j k vs h
  · obtain ⟨a, ha, a1, a2, a3, a4⟩ := f h
    obtain ⟨b, hb, b1, b2, b3, b4⟩ := f h'
    have := S.vn a b k vs us ha hb
    omega
  · obtain ⟨j, h, _⟩ := f h; exact S.vb j k vs h
  · obtain ⟨j, h, _⟩ := f h; exact S.vw j k vs h
  · obtain ⟨b, hb, _⟩ := f h'; exact S.ro i p g b k vs h hb
theorem Sta.fin66 {V' : List (Nat × List Value)} {R' : List (Adr × Fr)} {k l : Nat} {a b c d e f a' b' c' d' e' f' a1 b1 c1 d1 e1 f1 a2 b2 c2 d2 e2 f2 : Value} (S : Sta wb w0 row (V ++ [(k, [a, b, c, d, e, f])] ++ [(l, [a', b', c', d', e', f'])]) R w) (h : V ++ [(k, [a1, b1, c1, d1, e1, f1])] ++ [(l, [a2, b2, c2, d2, e2, f2])] = V') (h' : R = R') :
    Sta wb w0 row V' R' ((((((((((((w.setCell ⟨k, 0, none⟩ a1).setCell ⟨k, 1, none⟩ b1).setCell ⟨k, 2, none⟩ c1).setCell ⟨k, 3, none⟩ d1).setCell ⟨k, 4, none⟩ e1).setCell ⟨k, 5, none⟩ f1).setCell ⟨l, 0, none⟩ a2).setCell ⟨l, 1, none⟩ b2).setCell ⟨l, 2, none⟩ c2).setCell ⟨l, 3, none⟩ d2).setCell ⟨l, 4, none⟩ e2).setCell ⟨l, 5, none⟩ f2) := by
  have T := S.set6 (i := V.length) (k := k) (a := a) (b := b) (c := c) (d := d) (e := e) (f := f) (a' := a1) (b' := b1) (c' := c1) (d' := d1) (e' := e1) (f' := f1) (by simp)
  have T2 := T.set6 (i := V.length + 1) (k := l) (a := a') (b := b') (c := c') (d := d') (e := e') (f := f') (a' := a2) (b' := b2) (c' := c2) (d' := d2) (e' := e2) (f' := f2) (by simp)
  refine T2.conv ?_ h'
  rw [← h]
  simp
theorem Sta.fin33 {V' : List (Nat × List Value)} {R' : List (Adr × Fr)} {k l : Nat} {a b c a' b' c' a1 b1 c1 a2 b2 c2 : Value} (S : Sta wb w0 row (V ++ [(k, [a, b, c])] ++ [(l, [a', b', c'])]) R w) (h : V ++ [(k, [a1, b1, c1])] ++ [(l, [a2, b2, c2])] = V') (h' : R = R') :
    Sta wb w0 row V' R' ((((((w.setCell ⟨k, 0, none⟩ a1).setCell ⟨k, 1, none⟩ b1).setCell ⟨k, 2, none⟩ c1).setCell ⟨l, 0, none⟩ a2).setCell ⟨l, 1, none⟩ b2).setCell ⟨l, 2, none⟩ c2) := by
  have T := S.set3 (i := V.length) (k := k) (a := a) (b := b) (c := c) (a' := a1) (b' := b1) (c' := c1) (by simp)
  have T2 := T.set3 (i := V.length + 1) (k := l) (a := a') (b := b') (c := c') (a' := a2) (b' := b2) (c' := c2) (by simp)
  refine T2.conv ?_ h'
  rw [← h]
  simp
theorem Sta.fin6s {V' : List (Nat × List Value)} {R' : List (Adr × Fr)} {k l : Nat} {vs : List Value} {a b c d e f a1 b1 c1 d1 e1 f1 : Value} (S : Sta wb w0 row (V ++ [(l, [a, b, c, d, e, f])] ++ [(k, vs)]) R w) (h : V ++ [(k, vs)] ++ [(l, [a1, b1, c1, d1, e1, f1])] = V') (h' : R = R') :
    Sta wb w0 row V' R' ((((((w.setCell ⟨l, 0, none⟩ a1).setCell ⟨l, 1, none⟩ b1).setCell ⟨l, 2, none⟩ c1).setCell ⟨l, 3, none⟩ d1).setCell ⟨l, 4, none⟩ e1).setCell ⟨l, 5, none⟩ f1) := by
  have T := S.swap.set6 (i := V.length + 1) (k := l) (a := a) (b := b) (c := c) (d := d) (e := e) (f := f) (a' := a1) (b' := b1) (c' := c1) (d' := d1) (e' := e1) (f' := f1) (by simp)
  refine T.conv ?_ h'
  rw [← h]
  simp
theorem Sta.fin3s {V' : List (Nat × List Value)} {R' : List (Adr × Fr)} {k l : Nat} {vs : List Value} {a b c a1 b1 c1 : Value} (S : Sta wb w0 row (V ++ [(l, [a, b, c])] ++ [(k, vs)]) R w) (h : V ++ [(k, vs)] ++ [(l, [a1, b1, c1])] = V') (h' : R = R') :
    Sta wb w0 row V' R' (((w.setCell ⟨l, 0, none⟩ a1).setCell ⟨l, 1, none⟩ b1).setCell ⟨l, 2, none⟩ c1) := by
  have T := S.swap.set3 (i := V.length + 1) (k := l) (a := a) (b := b) (c := c) (a' := a1) (b' := b1) (c' := c1) (by simp)
  refine T.conv ?_ h'
  rw [← h]
  simp
theorem Sta.name (S : Sta wb w0 row V R w) : ∃ V' R', V' = V ∧ R' = R ∧ Sta wb w0 row V' R' w := ⟨V, R, rfl, rfl, S⟩
theorem Sta.c3 (S : Sta wb w0 row V R w) (i : Nat) {k : Nat} {a b c : Value} (hi : V[i]? = some (k, [a, b, c])) : w.cell? ⟨k, 0, none⟩ = some a ∧ w.cell? ⟨k, 1, none⟩ = some b ∧ w.cell? ⟨k, 2, none⟩ = some c := (S.v i k _ hi).c3
theorem Sta.c6 (S : Sta wb w0 row V R w) (i : Nat) {k : Nat} {a b c d e f : Value} (hi : V[i]? = some (k, [a, b, c, d, e, f])) : w.cell? ⟨k, 0, none⟩ = some a ∧ w.cell? ⟨k, 1, none⟩ = some b ∧ w.cell? ⟨k, 2, none⟩ = some c ∧ w.cell? ⟨k, 3, none⟩ = some d ∧ w.cell? ⟨k, 4, none⟩ = some e ∧ w.cell? ⟨k, 5, none⟩ = some f := (S.v i k _ hi).c6
theorem Var.f6 {g : Nat} {vs : List Value} {w : World} (h : Var g vs w) : w.frozen? ⟨g, 0, none⟩ = false ∧ w.frozen? ⟨g, 1, none⟩ = false ∧ w.frozen? ⟨g, 2, none⟩ = false ∧ w.frozen? ⟨g, 3, none⟩ = false ∧ w.frozen? ⟨g, 4, none⟩ = false ∧ w.frozen? ⟨g, 5, none⟩ = false := ⟨h.fr 0, h.fr 1, h.fr 2, h.fr 3, h.fr 4, h.fr 5⟩
theorem Sta.f3 (S : Sta wb w0 row V R w) (i : Nat) {k : Nat} {vs : List Value} (hi : V[i]? = some (k, vs)) : w.frozen? ⟨k, 0, none⟩ = false ∧ w.frozen? ⟨k, 1, none⟩ = false ∧ w.frozen? ⟨k, 2, none⟩ = false := (S.v i k _ hi).f3
theorem Sta.f6 (S : Sta wb w0 row V R w) (i : Nat) {k : Nat} {vs : List Value} (hi : V[i]? = some (k, vs)) : w.frozen? ⟨k, 0, none⟩ = false ∧ w.frozen? ⟨k, 1, none⟩ = false ∧ w.frozen? ⟨k, 2, none⟩ = false ∧ w.frozen? ⟨k, 3, none⟩ = false ∧ w.frozen? ⟨k, 4, none⟩ = false ∧ w.frozen? ⟨k, 5, none⟩ = false := (S.v i k _ hi).f6
theorem Sta.rf (S : Sta wb w0 row V R w) (i : Nat) {p : Adr} {f : Fr} (hi : R[i]? = some (p, f)) : RF w p f := (S.r i p f hi).rf
theorem Sta.ne (S : Sta wb w0 row V R w) (i j : Nat) {k l : Nat} {vs us : List Value} (hi : V[i]? = some (k, vs)) (hj : V[j]? = some (l, us)) (h : i ≠ j) : k ≠ l := fun e => h (S.vn i j k vs us hi (by rw [e]; exact hj))
theorem Sta.below (S : Sta wb w0 none V R w) : Below w0.heap.size w0 w := Ext.grownNone (Ext.refl w0) S.g
/-- what was in R, without the rest -/
theorem Sta.more (S : Sta wb w0 row V R w) : w0.heap.size ≤ w.heap.size := S.g.size
end

/-- cells below N read as in W, but for two blocks -/
abbrev Sk (W : World) (N k m : Nat) (w : World) : Prop := ∀ b o, b < N → b ≠ k → b ≠ m → w.cell? ⟨b, o, none⟩ = W.cell? ⟨b, o, none⟩
theorem Sk.refl (W : World) (N k m : Nat) : Sk W N k m W := fun _ _ _ _ _ => rfl
theorem Sk.ext {W w w' : World} {N k m : Nat} (h : Sk W N k m w) (x : Below w.heap.size w w') (hN : N ≤ w.heap.size) : Sk W N k m w' := fun b o hb hk hm => ((bcell x).1 b o (by omega)).trans (h b o hb hk hm)
theorem Sk.drew {W w : World} {N k m : Nat} (h : Sk W N k m w) : Sk W N k m w.drew := h
theorem Sk.alloc {W w : World} {N k m : Nat} {o : Obj} (h : Sk W N k m w) (hN : N ≤ w.heap.size) : Sk W N k m (w.alloc o) := h.ext ((Ext.refl w).alloc o) hN
theorem Sk.by1 {W w w' : World} {N k m : Nat} (h : Sk W N k m w) (g : w.grownBy w' (some k)) (hN : N ≤ w.heap.size) : Sk W N k m w' := fun b o hb hk hm => by
  have h1 := g.block b (by omega) (fun e => hk (Option.some.inj e))
  exact (World.cell?_of_block (a := ⟨b, o, none⟩) h1).trans (h b o hb hk hm)
theorem Sk.set {W w : World} {N k m o : Nat} {u : Value} (h : Sk W N k m w) : Sk W N k m (w.setCell ⟨m, o, none⟩ u) := fun b i hb hk hm => (World.cell?_setCell_far w ⟨m, o, none⟩ ⟨b, i, none⟩ u (fun e => hm e.symm)).trans (h b i hb hk hm)
theorem Sk.far {W w : World} {N k m n o : Nat} {u : Value} (h : Sk W N k m w) (hn : N ≤ n) : Sk W N k m (w.setCell ⟨n, o, none⟩ u) := fun b i hb hk hm => (World.cell?_setCell_far w ⟨n, o, none⟩ ⟨b, i, none⟩ u (fun e => by simp only at e; omega)).trans (h b i hb hk hm)
theorem Sk.same {W w : World} {N k m : Nat} {p : Addr} {u : Value} (h : Sk W N k m w) (hp : w.cell? p = some u) : Sk W N k m (w.setCell p u) := fun b i hb hk hm => by
  refine Eq.trans ?_ (h b i hb hk hm)
  by_cases e : p = ⟨b, i, none⟩
  · rw [← e, World.cell?_setCell_same _ _ _ hp, hp]
  · exact World.cell?_setCell_other _ _ _ _ e
theorem Sk.same3 {W w : World} {N k m g : Nat} {a b c : Value} (h : Sk W N k m w) (v : Var g [a, b, c] w) : Sk W N k m (((w.setCell ⟨g, 0, none⟩ a).setCell ⟨g, 1, none⟩ b).setCell ⟨g, 2, none⟩ c) := by
  have v1 : Var g [a, b, c] _ := v.set 0 a (by simp)
  have v2 : Var g [a, b, c] _ := v1.set 1 b (by simp)
  exact ((h.same (v.at_ 0 _ rfl)).same (v1.at_ 1 _ rfl)).same (v2.at_ 2 _ rfl)
/-- the cells of W read as they were -/
abbrev Sk0 (W w : World) : Prop := ∀ b o, b < W.heap.size → w.cell? ⟨b, o, none⟩ = W.cell? ⟨b, o, none⟩
theorem Sk0.of {W w : World} (x : Below W.heap.size W w) : Sk0 W w := fun b o h => (bcell x).1 b o h
theorem Sk0.grown {W X w : World} {r : Option Nat} (h : Sk0 W X) (g : X.grownBy w r) (hr : ∀ b, r = some b → W.heap.size ≤ b) (hN : W.heap.size ≤ X.heap.size) : Sk0 W w := fun b o hb =>
  (World.cell?_of_block (a := ⟨b, o, none⟩) (g.block b (by omega) (fun e => by have := hr b e.symm; omega))).trans (h b o hb)
/-- .. and nothing is gone -/
abbrev Skz (W w : World) : Prop := (∀ b o, b < W.heap.size → w.cell? ⟨b, o, none⟩ = W.cell? ⟨b, o, none⟩) ∧ W.heap.size ≤ w.heap.size
theorem Skz.start (W : World) : Skz W W.drew := ⟨fun _ _ _ => rfl, Nat.le_refl _⟩
theorem Skz.alloc {W w : World} {o : Obj} (h : Skz W w) : Skz W (w.alloc o) := ⟨fun b i hb => ((bcell ((Ext.refl w).alloc o)).1 b i (by have := h.2; omega)).trans (h.1 b i hb), by simp only [World.size_alloc]; have := h.2; omega⟩
theorem Skz.drew {W w : World} (h : Skz W w) : Skz W w.drew := h
theorem Skz.ext {W w w' : World} (h : Skz W w) (x : Below w.heap.size w w') : Skz W w' := ⟨fun b i hb => ((bcell x).1 b i (by have := h.2; omega)).trans (h.1 b i hb), Nat.le_trans h.2 (Ext.size x)⟩
theorem Skz.far {W w : World} {n i : Nat} {u : Value} (h : Skz W w) (hn : W.heap.size ≤ n) : Skz W (w.setCell ⟨n, i, none⟩ u) :=
  ⟨fun b j hb => (World.cell?_setCell_far w ⟨n, i, none⟩ ⟨b, j, none⟩ u (fun e => by simp only at e; omega)).trans (h.1 b j hb), by simp only [World.size_setCell]; exact h.2⟩
theorem Skz.grown {W X w : World} {r : Option Nat} (h : Skz W X) (g : X.grownBy w r) (hr : ∀ b, r = some b → W.heap.size ≤ b) : Skz W w :=
  ⟨fun b i hb => (World.cell?_of_block (a := ⟨b, i, none⟩) (g.block b (by have := h.2; omega) (fun e => by have := hr b e.symm; omega))).trans (h.1 b i hb), Nat.le_trans h.2 g.size⟩
theorem Skz.by1 {W w w' : World} {k : Nat} (h : Skz W w) (g : w.grownBy w' (some k)) (hk : W.heap.size ≤ k) : Skz W w' :=
  ⟨fun b i hb => (World.cell?_of_block (a := ⟨b, i, none⟩) (g.block b (by have := h.2; omega) (fun e => by cases e; omega))).trans (h.1 b i hb), Nat.le_trans h.2 g.size⟩

end Go.Proofs.YtifonmdcicegdaaGreat

/- gauss: the way's steps over fractions at addresses. -/
namespace Go.Proofs.YtifonmdcicegdaaGreat
open Go Go.RowKit

theorem asked2 (g : Nat) (a b : Ga) (p q r s : Adr) (w : World) (hv : Var g [.bool a.re.neg, .slice p.A a.re.num.length p.c, .slice p.B a.re.den.length p.d, .bool a.im.neg, .slice q.A a.im.num.length q.c, .slice q.B a.im.den.length q.d, .bool b.re.neg, .slice r.A b.re.num.length r.c, .slice r.B b.re.den.length r.d, .bool b.im.neg, .slice s.A b.im.num.length s.c, .slice s.B b.im.den.length s.d] w) (ha : RG w p q a) (hb : RG w r s b) :
    Calls Tryz.prog 163 #[.slice (some ⟨g, 0, none⟩) 2 2] w fun e w' => ∃ gw, e = .returned (.pointer (some ⟨gw, 0, none⟩)) ∧ w.heap.size ≤ gw ∧ Way gw (gchk2 a b) w' ∧ Below w.heap.size w w' := by
  have := asked_any g 2 (fun j => if j = 0 then p else r) (fun j => if j = 0 then q else s) (fun j => if j = 0 then a else b) w (fun j hj => match j, hj with
    | 0, _ => ⟨hv.at_ 0 _ rfl, hv.at_ 1 _ rfl, hv.at_ 2 _ rfl, hv.at_ 3 _ rfl, hv.at_ 4 _ rfl, hv.at_ 5 _ rfl⟩
    | 1, _ => ⟨hv.at_ 6 _ rfl, hv.at_ 7 _ rfl, hv.at_ 8 _ rfl, hv.at_ 9 _ rfl, hv.at_ 10 _ rfl, hv.at_ 11 _ rfl⟩) (fun j hj => match j, hj with
    | 0, _ => ha
    | 1, _ => hb) (by omega)
  have he : askL (fun j => if j = 0 then a else b) 2 = gchk2 a b := by
    show (if (if (0 : Int) ≠ 0 then (0 : Int) else gchk a) ≠ 0 then (if (0 : Int) ≠ 0 then (0 : Int) else gchk a) else gchk b) = _
    simp only [ne_eq, not_true_eq_false, if_false]
    rfl
  rw [he] at this
  exact this
theorem asked1 (g : Nat) (a : Ga) (p q : Adr) (w : World) (hv : Var g [.bool a.re.neg, .slice p.A a.re.num.length p.c, .slice p.B a.re.den.length p.d, .bool a.im.neg, .slice q.A a.im.num.length q.c, .slice q.B a.im.den.length q.d] w) (ha : RG w p q a) :
    Calls Tryz.prog 163 #[.slice (some ⟨g, 0, none⟩) 1 1] w fun e w' => ∃ gw, e = .returned (.pointer (some ⟨gw, 0, none⟩)) ∧ w.heap.size ≤ gw ∧ Way gw (gchk a) w' ∧ Below w.heap.size w w' := by
  have := asked_any g 1 (fun _ => p) (fun _ => q) (fun _ => a) w (fun j hj => match j, hj with
    | 0, _ => ⟨hv.at_ 0 _ rfl, hv.at_ 1 _ rfl, hv.at_ 2 _ rfl, hv.at_ 3 _ rfl, hv.at_ 4 _ rfl, hv.at_ 5 _ rfl⟩) (fun j hj => match j, hj with
    | 0, _ => ha) (by omega)
  have he : askL (fun _ => a) 1 = gchk a := by
    show (if (0 : Int) ≠ 0 then (0 : Int) else gchk a) = _
    simp
  rw [he] at this
  exact this

/-- a fraction is made, and the way's error -/
def WayF (gw : Nat) (w : World) (t : Fr × Int) (e : Ending) (w' : World) : Prop :=
  ∃ p : Adr, e = .returned (.agg #[.bool t.1.neg, .slice p.A t.1.num.length p.c, .slice p.B t.1.den.length p.d]) ∧ OF w' w.heap.size p t.1 ∧ w.grownBy w' (some gw) ∧ Way gw t.2 w'
theorem WayP.f {gw : Nat} {w w' : World} {t : Fr × Int} {e : Ending} (h : WayP gw w t e w') (hg : t.1.Wf) : WayF gw w t e w' := by
  obtain ⟨A, c, B, d, h1, h2, h3, h4, h5, h6⟩ := h
  exact ⟨⟨A, c, B, d⟩, h1, ⟨h2, h3, h4, hg⟩, h5, h6⟩
section
variable (gw : Nat) (e0 : Int) (a b : Fr) (p q : Adr) (w : World) (hw : Way gw e0 w) (ha : RF w p a) (hb : RF w q b)
include hw ha hb
theorem wAdd : Calls Tryz.prog 166 #[.pointer (some ⟨gw, 0, none⟩), .agg #[.bool a.neg, .slice p.A a.num.length p.c, .slice p.B a.den.length p.d], .agg #[.bool b.neg, .slice q.A b.num.length q.c, .slice q.B b.den.length q.d]] w (WayF gw w (wadd e0 a b)) :=
  (wadd_any gw e0 a b _ _ _ _ _ _ _ _ w ha.num ha.den hb.num hb.den ha.wf hb.wf hw).mono fun _ _ h => h.f (stp_good (fadd_good a b)).wf
theorem wSub : Calls Tryz.prog 173 #[.pointer (some ⟨gw, 0, none⟩), .agg #[.bool a.neg, .slice p.A a.num.length p.c, .slice p.B a.den.length p.d], .agg #[.bool b.neg, .slice q.A b.num.length q.c, .slice q.B b.den.length q.d]] w (WayF gw w (wsub e0 a b)) :=
  (wsub_any gw e0 a b _ _ _ _ _ _ _ _ w ha.num ha.den hb.num hb.den ha.wf hb.wf hw).mono fun _ _ h => h.f (stp_good (fsub_good a b)).wf
theorem wMul : Calls Tryz.prog 178 #[.pointer (some ⟨gw, 0, none⟩), .agg #[.bool a.neg, .slice p.A a.num.length p.c, .slice p.B a.den.length p.d], .agg #[.bool b.neg, .slice q.A b.num.length q.c, .slice q.B b.den.length q.d]] w (WayF gw w (wmul e0 a b)) :=
  (wmul_any gw e0 a b _ _ _ _ _ _ _ _ w ha.num ha.den hb.num hb.den ha.wf hb.wf hw).mono fun _ _ h => h.f (stp_good (fmul_good a b)).wf
theorem wQuo : Calls Tryz.prog 176 #[.pointer (some ⟨gw, 0, none⟩), .agg #[.bool a.neg, .slice p.A a.num.length p.c, .slice p.B a.den.length p.d], .agg #[.bool b.neg, .slice q.A b.num.length q.c, .slice q.B b.den.length q.d]] w (WayF gw w (wquo e0 a b)) :=
  (wquo_any gw e0 a b _ _ _ _ _ _ _ _ w ha.num ha.den hb.num hb.den ha.wf hb.wf hw).mono fun _ _ h => h.f (stp_good (fquo_good a b)).wf
end
theorem wAddT {t : Fr × Int} {gw : Nat} {e0 : Int} {a b : Fr} (ht : t = wadd e0 a b) {p q : Adr} {w : World} (hw : Way gw e0 w) (ha : RF w p a) (hb : RF w q b) : Calls Tryz.prog 166 #[.pointer (some ⟨gw, 0, none⟩), .agg #[.bool a.neg, .slice p.A a.num.length p.c, .slice p.B a.den.length p.d], .agg #[.bool b.neg, .slice q.A b.num.length q.c, .slice q.B b.den.length q.d]] w (WayF gw w t) := ht ▸ wAdd gw e0 a b p q w hw ha hb
theorem wSubT {t : Fr × Int} {gw : Nat} {e0 : Int} {a b : Fr} (ht : t = wsub e0 a b) {p q : Adr} {w : World} (hw : Way gw e0 w) (ha : RF w p a) (hb : RF w q b) : Calls Tryz.prog 173 #[.pointer (some ⟨gw, 0, none⟩), .agg #[.bool a.neg, .slice p.A a.num.length p.c, .slice p.B a.den.length p.d], .agg #[.bool b.neg, .slice q.A b.num.length q.c, .slice q.B b.den.length q.d]] w (WayF gw w t) := ht ▸ wSub gw e0 a b p q w hw ha hb
theorem wMulT {t : Fr × Int} {gw : Nat} {e0 : Int} {a b : Fr} (ht : t = wmul e0 a b) {p q : Adr} {w : World} (hw : Way gw e0 w) (ha : RF w p a) (hb : RF w q b) : Calls Tryz.prog 178 #[.pointer (some ⟨gw, 0, none⟩), .agg #[.bool a.neg, .slice p.A a.num.length p.c, .slice p.B a.den.length p.d], .agg #[.bool b.neg, .slice q.A b.num.length q.c, .slice q.B b.den.length q.d]] w (WayF gw w t) := ht ▸ wMul gw e0 a b p q w hw ha hb
theorem wQuoT {t : Fr × Int} {gw : Nat} {e0 : Int} {a b : Fr} (ht : t = wquo e0 a b) {p q : Adr} {w : World} (hw : Way gw e0 w) (ha : RF w p a) (hb : RF w q b) : Calls Tryz.prog 176 #[.pointer (some ⟨gw, 0, none⟩), .agg #[.bool a.neg, .slice p.A a.num.length p.c, .slice p.B a.den.length p.d], .agg #[.bool b.neg, .slice q.A b.num.length q.c, .slice q.B b.den.length q.d]] w (WayF gw w t) := ht ▸ wQuo gw e0 a b p q w hw ha hb
theorem Way.var {gw : Nat} {e : Int} {w : World} (h : Way gw e w) : Var gw [.int .i64 e] w := ⟨h.lt, (fun j v hj => by
  match j, hj with
  | 0, hj => cases hj; exact h.c), h.f⟩
theorem Way.of {gw : Nat} {e : Int} {w : World} (h : Var gw [.int .i64 e] w) : Way gw e w := ⟨h.at_ 0 _ rfl, h.fr⟩
theorem wMade (gw : Nat) (e0 : Int) (t : Fr × Int) (p : Adr) (base : Nat) (w : World) (hw : Way gw e0 w) (o : OF w base p t.1) (hp : p.Off gw) :
    Calls Tryz.prog 168 #[.pointer (some ⟨gw, 0, none⟩), .agg #[.bool t.1.neg, .slice p.A t.1.num.length p.c, .slice p.B t.1.den.length p.d], .int .i64 t.2] w fun e w' =>
      ∃ p' : Adr, e = .returned (.agg #[.bool (stp e0 t).1.neg, .slice p'.A (stp e0 t).1.num.length p'.c, .slice p'.B (stp e0 t).1.den.length p'.d]) ∧ OF w' base p' (stp e0 t).1 ∧ w.grownBy w' (some gw) ∧ Way gw (stp e0 t).2 w' := by
  refine (made_any gw e0 t.1 t.2 p.A p.B p.c p.d w hw).mono fun e w' ⟨h1, h2, h3, h4⟩ => ?_
  by_cases h : e0 ≠ 0
  · rw [if_pos h] at h4
    rw [stp_bad h]
    exact ⟨Adr.nil, h1 h, OF.nil _ _, h3, h4⟩
  · obtain rfl : e0 = 0 := by simpa using h
    rw [if_neg h] at h4
    rw [stp_ok]
    exact ⟨p, h2 rfl, o.kept h3 hp, h3, h4⟩
/-- a complex fraction in the call's own memory -/
structure OG (w : World) (base : Nat) (p q : Adr) (a : Ga) : Prop where
  re : OF w base p a.re
  im : OF w base q a.im
  dis : p.Dis q
theorem OG.nil (w : World) (base : Nat) : OG w base Adr.nil Adr.nil Ga.zero := ⟨OF.nil w base, OF.nil w base, Adr.Dis.nil _⟩
theorem OG.rg {w : World} {base : Nat} {p q : Adr} {a : Ga} (h : OG w base p q a) : RG w p q a := ⟨h.re.rf, h.im.rf⟩
theorem OG.ext {w w' : World} {base : Nat} {p q : Adr} {a : Ga} (h : OG w base p q a) (x : Ext w w') : OG w' base p q a := ⟨h.re.ext x, h.im.ext x, h.dis⟩
theorem OG.lower {w : World} {base base' : Nat} {p q : Adr} {a : Ga} (h : OG w base p q a) (hb : base' ≤ base) : OG w base' p q a := ⟨h.re.lower hb, h.im.lower hb, h.dis⟩
theorem OG.setLo {w : World} {base : Nat} {p q : Adr} {f : Ga} {a : Addr} {u : Value} (h : OG w base p q f) (hk : a.block < base) : OG (w.setCell a u) base p q f := ⟨h.re.setLo hk, h.im.setLo hk, h.dis⟩
/-- a call's answer: a complex fraction in new memory and an error -/
def TG (w : World) (t : Ga × Int) (e : Ending) (w' : World) : Prop :=
  ∃ p q : Adr, e = .returned (.tuple #[.agg #[.bool t.1.re.neg, .slice p.A t.1.re.num.length p.c, .slice p.B t.1.re.den.length p.d, .bool t.1.im.neg, .slice q.A t.1.im.num.length q.c, .slice q.B t.1.im.den.length q.d], .int .i64 t.2]) ∧ OG w' w.heap.size p q t.1 ∧ Below w.heap.size w w'
/-- its value -/
def tgv (t : Ga × Int) (p q : Adr) : Value := .tuple #[.agg #[.bool t.1.re.neg, .slice p.A t.1.re.num.length p.c, .slice p.B t.1.re.den.length p.d, .bool t.1.im.neg, .slice q.A t.1.im.num.length q.c, .slice q.B t.1.im.den.length q.d], .int .i64 t.2]
theorem OF.set6 {w : World} {base n : Nat} {p : Adr} {f : Fr} {a b c d e g : Value} (h : OF w base p f) (k : p.Off n) : OF ((((((w.setCell ⟨n, 0, none⟩ a).setCell ⟨n, 1, none⟩ b).setCell ⟨n, 2, none⟩ c).setCell ⟨n, 3, none⟩ d).setCell ⟨n, 4, none⟩ e).setCell ⟨n, 5, none⟩ g) base p f :=
  ((((((h.set1 k).set1 k).set1 k).set1 k).set1 k).set1 k)
theorem Below.set6 {w0 w : World} {n : Nat} {a b c d e g : Value} (h : Below w0.heap.size w0 w) (hn : w0.heap.size ≤ n) : Below w0.heap.size w0 ((((((w.setCell ⟨n, 0, none⟩ a).setCell ⟨n, 1, none⟩ b).setCell ⟨n, 2, none⟩ c).setCell ⟨n, 3, none⟩ d).setCell ⟨n, 4, none⟩ e).setCell ⟨n, 5, none⟩ g) :=
  Ext.setCell (Ext.setCell (Ext.setCell (Ext.setCell (Ext.setCell (Ext.setCell h hn _) hn _) hn _) hn _) hn _) hn _
theorem TG.mk6 {w0 w : World} {n : Nat} {t : Ga × Int} {p q : Adr} {a b c d e g : Value} (x : Below w0.heap.size w0 w) (h : OG w w0.heap.size p q t.1) (k : p.Off n ∧ q.Off n) (hn : w0.heap.size ≤ n) : TG w0 t (.returned (tgv t p q)) ((((((w.setCell ⟨n, 0, none⟩ a).setCell ⟨n, 1, none⟩ b).setCell ⟨n, 2, none⟩ c).setCell ⟨n, 3, none⟩ d).setCell ⟨n, 4, none⟩ e).setCell ⟨n, 5, none⟩ g) :=
  ⟨p, q, rfl, ⟨h.re.set6 k.1, h.im.set6 k.2, h.dis⟩, Below.set6 x hn⟩
theorem TG.mk0 {w0 w : World} {t : Ga × Int} {p q : Adr} (h : OG w w0.heap.size p q t.1) (x : Below w0.heap.size w0 w) : TG w0 t (.returned (tgv t p q)) w := ⟨p, q, rfl, h, x⟩
/-- Int's answer -/
def gint (x y : Int) : Ga := ⟨(fsmall x 1).1, (fsmall y 1).1⟩
/-- .. a complex fraction alone -/
def PG (w : World) (a : Ga) (e : Ending) (w' : World) : Prop :=
  ∃ p q : Adr, e = .returned (.agg #[.bool a.re.neg, .slice p.A a.re.num.length p.c, .slice p.B a.re.den.length p.d, .bool a.im.neg, .slice q.A a.im.num.length q.c, .slice q.B a.im.den.length q.d]) ∧ OG w' w.heap.size p q a ∧ Below w.heap.size w w'
theorem told_of (gw : Nat) (e0 : Int) (a b : Fr) (p q : Adr) (base : Nat) (w : World) (hw : Way gw e0 w) (ha : OF w base p a) (hb : OF w base q b) (hd : p.Dis q) :
    Calls Tryz.prog 167 #[.pointer (some ⟨gw, 0, none⟩), .agg #[.bool a.neg, .slice p.A a.num.length p.c, .slice p.B a.den.length p.d], .agg #[.bool b.neg, .slice q.A b.num.length q.c, .slice q.B b.den.length q.d]] w fun e w' =>
      ∃ p' q' : Adr, e = .returned (.tuple #[.agg #[.bool (gtell e0 a b).1.re.neg, .slice p'.A (gtell e0 a b).1.re.num.length p'.c, .slice p'.B (gtell e0 a b).1.re.den.length p'.d, .bool (gtell e0 a b).1.im.neg, .slice q'.A (gtell e0 a b).1.im.num.length q'.c, .slice q'.B (gtell e0 a b).1.im.den.length q'.d], .int .i64 (gtell e0 a b).2]) ∧ OG w' base p' q' (gtell e0 a b).1 ∧ (∀ k, p.Off k → q.Off k → p'.Off k ∧ q'.Off k) ∧ Below w.heap.size w w' := by
  refine (told_any gw e0 a b p.A p.B q.A q.B p.c p.d q.c q.d w hw).mono fun e w' ⟨h1, h2, h3⟩ => ?_
  by_cases h : e0 ≠ 0
  · rw [gtell_bad h]
    exact ⟨Adr.nil, Adr.nil, h1 h, OG.nil _ _, fun k _ _ => ⟨Adr.Off.nil k, Adr.Off.nil k⟩, h3⟩
  · obtain rfl : e0 = 0 := by simpa using h
    rw [gtell_ok]
    exact ⟨p, q, h2 rfl, ⟨ha.ext h3, hb.ext h3, hd⟩, fun k h h' => ⟨h, h'⟩, h3⟩

/-- a world with nothing in it -/
def bare (w : World) : World := { w with heap := #[] }
theorem bare_below (w : World) : Below (bare w).heap.size (bare w) w := ⟨rfl, rfl, rfl, Nat.zero_le _, fun k hk => absurd hk (Nat.not_lt_zero k)⟩
/-- a way that was there ahead of the call -/
theorem Sta.startw {w : World} {gw : Nat} {e : Int} (y : Way gw e w) : Sta (bare w) w (some gw) [(gw, [.int .i64 e])] [] w := by
  have one : ∀ {i k : Nat} {vs : List Value}, [(gw, [Value.int .i64 e])][i]? = some (k, vs) → i = 0 ∧ gw = k ∧ [Value.int .i64 e] = vs := fun {i k vs} h => by
    match i, h with
    | 0, h => cases h; exact ⟨rfl, rfl, rfl⟩
  refine ⟨fun i k vs h => ?_, fun i j k vs us h h' => ?_, fun i k vs h => ?_, fun i k vs h => Nat.zero_le _, (fun _ _ _ h => by simp at h), (fun _ _ _ _ _ _ h => by simp at h), (fun _ _ _ _ _ _ _ h => by simp at h), bare_below w, World.grownBy.refl _ _, Nat.zero_le _⟩
  · obtain ⟨_, rfl, rfl⟩ := one h
    exact y.var
  · have := (one h).1; have := (one h').1; omega
  · exact .inr (by rw [(one h).2.1])
/-- read, and kept while the way alone is written -/
def KG (gw : Nat) (w : World) (p q : Adr) (a : Ga) : Prop := ∀ w', w.grownBy w' (some gw) → RG w' p q a
theorem KG.of {wb w : World} {gw : Nat} {p q : Adr} {a : Ga} (x : Below wb.heap.size wb w) (hb : wb.heap.size ≤ gw) (h : RG wb p q a) : KG gw w p q a := fun _ g => h.ext (Below.by1 x g hb)
theorem KG.own {wb w : World} {gw base : Nat} {p q : Adr} {a : Ga} (x : Below wb.heap.size wb w) (hb : wb.heap.size ≤ gw) (h : RF wb p a.re) (o : OF w base q a.im) (k : q.Off gw) : KG gw w p q a := fun _ g => ⟨h.ext (Below.by1 x g hb), (o.kept g k).rf⟩
section
variable {wb w0 w w' : World} {row : Option Nat} {V : List (Nat × List Value)} {R : List (Adr × Fr)}
theorem Sta.way (S : Sta wb w0 row V R w) (i : Nat) {gw : Nat} {e : Int} (hi : V[i]? = some (gw, [.int .i64 e])) : Way gw e w := Way.of (S.v i _ _ hi)
/-- a step of the way -/
theorem Sta.step (S : Sta wb w0 row V R w) (i : Nat) {gw : Nat} {e e' : Int} (hi : V[i]? = some (gw, [.int .i64 e])) (g : w.grownBy w' (some gw)) (y : Way gw e' w') {p : Adr} {f : Fr} (o : OF w' w.heap.size p f) : Sta wb w0 row (V.set i (gw, [.int .i64 e'])) (R ++ [(p, f)]) w' :=
  S.callw hi g y.var o
theorem Sta.step2 (S : Sta wb w0 row V R w) (i : Nat) {gw : Nat} {e e' : Int} (hi : V[i]? = some (gw, [.int .i64 e])) (g : w.grownBy w' (some gw)) (y : Way gw e' w') {p q : Adr} {f h : Fr} (o : OF w' w.heap.size p f) (o' : OF w' w.heap.size q h) (d : p.Dis q) : Sta wb w0 row (V.set i (gw, [.int .i64 e'])) (R ++ [(p, f)] ++ [(q, h)]) w' :=
  S.callw2 hi g y.var o o' d
theorem Sta.stepx {w1 : World} (S : Sta wb w0 row V R w) (x : Below w.heap.size w w1) (i : Nat) {gw : Nat} {e e' : Int} (hi : V[i]? = some (gw, [.int .i64 e])) (g : w1.grownBy w' (some gw)) (y : Way gw e' w') {p : Adr} {f : Fr} (o : OF w' w.heap.size p f) : Sta wb w0 row (V.set i (gw, [.int .i64 e'])) (R ++ [(p, f)]) w' :=
  S.add ((S.ext x).row1 hi g y.var) (fun j l zs h => by
    rcases look_set h with ⟨_, h⟩ | ⟨_, h⟩
    · cases h; exact (S.v i _ _ hi).lt
    · exact (S.v j l zs h).lt) o
/-- a way that a call makes -/
theorem Sta.made (S : Sta wb w0 row V R w) (x : Below w.heap.size w w') {gw : Nat} {e : Int} (hg : w.heap.size ≤ gw) (y : Way gw e w') : Sta wb w0 row (V ++ [(gw, [.int .i64 e])]) R w' := by
  have T := S.ext x
  have hs := S.g.size
  refine ⟨fun i k us h => ?_, fun i j k us zs h h' => ?_, fun i k us h => ?_, fun i k us h => ?_, T.r, fun i p f j k us h h' => ?_, T.rd, T.x, T.g, T.hb⟩
  · rcases look_push h with h | ⟨_, h⟩
    · exact T.v i k us h
    · cases h; exact y.var
  · rcases look_push h with h | ⟨e, h⟩ <;> rcases look_push h' with h' | ⟨e', h'⟩
    · exact T.vn i j k us zs h h'
    · cases h'; have := (S.v i _ us h).lt; omega
    · cases h; have := (S.v j _ zs h').lt; omega
    · omega
  · rcases look_push h with h | ⟨_, h⟩
    · exact T.vb i k us h
    · cases h; exact .inl (Nat.le_trans hs hg)
  · rcases look_push h with h | ⟨_, h⟩
    · exact T.vw i k us h
    · cases h; exact Nat.le_trans S.hb (Nat.le_trans hs hg)
  · rcases look_push h' with h' | ⟨_, h'⟩
    · exact T.ro i p f j k us h h'
    · cases h'; exact (S.r i p f h).offHi hg
theorem PG.mk {w w' : World} {V : List (Nat × List Value)} {R : List (Adr × Fr)} {i j : Nat} {p q : Adr} {a : Ga} (S : Sta w w none V R w') (hi : R[i]? = some (p, a.re)) (hj : R[j]? = some (q, a.im)) (hij : i < j) :
    PG w a (.returned (.agg #[.bool a.re.neg, .slice p.A a.re.num.length p.c, .slice p.B a.re.den.length p.d, .bool a.im.neg, .slice q.A a.im.num.length q.c, .slice q.B a.im.den.length q.d])) w' :=
  ⟨p, q, rfl, ⟨S.r i _ _ hi, S.r j _ _ hj, S.rd i j _ _ _ _ hij hi hj⟩, S.below⟩
end

end Go.Proofs.YtifonmdcicegdaaGreat

