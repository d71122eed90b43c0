/- Texts of this claim, joined: L7 O1 O2. -/
import Derived.ProofKit
import Derived.OpenShut
import Derived.ChangeOld
import Derived.Below
import Derived.Lib.SmallJoins
import Derived.Deep.Slices
import Derived.Deep.Fields
import Derived.ChangeSame
import Derived.Deep.Strs
import Derived.Test.YtifonmdcicegdaaGreatQp
/- The law GaussParts. -/
namespace Go.Proofs.YtifonmdcicegdaaGreat
open Go Go.RowKit

theorem lent_st {wb w0 wx : World} {row : Option Nat} {V : List (Nat × List Value)} {R : List (Adr × Fr)} (a : Ga) (p q : Adr) (hm : Few a.re ∧ Few a.im) (ha : RG wb p q a) (S : Sta wb w0 row V R wx) :
    Calls Tryz.prog 39 #[.agg #[.bool a.re.neg, .slice p.A a.re.num.length p.c, .slice p.B a.re.den.length p.d, .bool a.im.neg, .slice q.A a.im.num.length q.c, .slice q.B a.im.den.length q.d]] wx fun e w' => ∃ p1 q1 : Adr, e = .returned (.agg #[.bool a.re.neg, .slice p1.A a.re.num.length p1.c, .slice p1.B a.re.den.length p1.d, .bool a.im.neg, .slice q1.A a.im.num.length q1.c, .slice q1.B a.im.den.length q1.d]) ∧ Sta wb w0 row V (R ++ [(p1, lentF a.re)] ++ [(q1, lentF a.im)]) w' ∧ Below wx.heap.size wx w' :=
  (kLentG a p q wx (ha.ext S.x) hm.1 hm.2).mono fun _ _ ⟨p1, q1, h1, h2, h3, h4, h5⟩ => ⟨p1, q1, h1, S.call2 h5 h2 h3 h4, h5⟩
theorem kInt (x y : Int) (w : World) (h0 : -9223372036854775808 ≤ x) (h1 : x ≤ 9223372036854775807) (k0 : -9223372036854775808 ≤ y) (k1 : y ≤ 9223372036854775807) :
    Calls Tryz.prog 52 #[.int .i64 x, .int .i64 y] w fun e w' => ∃ p1 q1 : Adr, e = .returned (.agg #[.bool (gint x y).re.neg, .slice p1.A (gint x y).re.num.length p1.c, .slice p1.B (gint x y).re.den.length p1.d, .bool (gint x y).im.neg, .slice q1.A (gint x y).im.num.length q1.c, .slice q1.B (gint x y).im.den.length q1.d]) ∧ OF w' w.heap.size p1 (gint x y).re ∧ OF w' w.heap.size q1 (gint x y).im ∧ p1.Dis q1 ∧ Below w.heap.size w w' :=
  (ga_Int x y w h0 h1 k0 k1).mono fun _ _ ⟨p1, q1, h1, h2, h5⟩ => ⟨p1, q1, h1, h2.re, h2.im, h2.dis, h5⟩
theorem int_st {wb w0 wx : World} {row : Option Nat} {V : List (Nat × List Value)} {R : List (Adr × Fr)} (x y : Int) (h0 : -9223372036854775808 ≤ x) (h1 : x ≤ 9223372036854775807) (k0 : -9223372036854775808 ≤ y) (k1 : y ≤ 9223372036854775807) (S : Sta wb w0 row V R wx) :
    Calls Tryz.prog 52 #[.int .i64 x, .int .i64 y] wx fun e w' => ∃ p1 q1 : Adr, e = .returned (.agg #[.bool (gint x y).re.neg, .slice p1.A (gint x y).re.num.length p1.c, .slice p1.B (gint x y).re.den.length p1.d, .bool (gint x y).im.neg, .slice q1.A (gint x y).im.num.length q1.c, .slice q1.B (gint x y).im.den.length q1.d]) ∧ Sta wb w0 row V (R ++ [(p1, (gint x y).re)] ++ [(q1, (gint x y).im)]) w' ∧ Below wx.heap.size wx w' :=
  (ga_Int x y wx h0 h1 k0 k1).mono fun _ _ ⟨p1, q1, h1, h2, h5⟩ => ⟨p1, q1, h1, S.call2 h5 h2.re h2.im h2.dis, h5⟩

set_option maxRecDepth 16000 in
set_option maxHeartbeats 16000000 in
theorem gaussParts_any (a b : Ga) (x y : Int) (p q r s : Adr) (w : World) (ha : RG w p q a) (hb : RG w r s b) (hx0 : -9223372036854775808 ≤ x) (hx1 : x ≤ 9223372036854775807) (hy0 : -9223372036854775808 ≤ y) (hy1 : y ≤ 9223372036854775807) :
    Calls Tryz.prog 4 #[.agg #[.bool a.re.neg, .slice p.A a.re.num.length p.c, .slice p.B a.re.den.length p.d, .bool a.im.neg, .slice q.A a.im.num.length q.c, .slice q.B a.im.den.length q.d], .agg #[.bool b.re.neg, .slice r.A b.re.num.length r.c, .slice r.B b.re.den.length r.d, .bool b.im.neg, .slice s.A b.im.num.length s.c, .slice s.B b.im.den.length s.d], .int .i64 x, .int .i64 y] w fun e w' => e = .returned (.bool true) ∧ Below w.heap.size w w' := by
  obtain ⟨c1, hc1⟩ : ∃ c, heavyB a = c := ⟨_, rfl⟩
  obtain ⟨c2, hc2⟩ : ∃ c, heavyB b = c := ⟨_, rfl⟩
  have HC1 := Lib.hid hc1
  have HC2 := Lib.hid hc2
  clear hc1 hc2
  cases c1 with
  | true =>
    go_enter Tryz.func4, Tryz.ntmps4
    go_upto_region 1 with fail
    go_name_world W0 hW
    have S0 : Sta w w none _ _ W0 := hW ▸ ((Sta.start w).new _ _).new _ _
    clear hW
    simp only [World.size_alloc, List.nil_append, List.cons_append] at S0
    have C0 := S0.c6 0 rfl
    go_wp2_with fail
    refine (heavy_any a p q W0 (ha.ext S0.x) _ HC1.out).mono ?_; rintro e w1 ⟨rfl, x1⟩
    have S1 := S0.ext x1
    clear x1
    clear C0
    have C1 := S1.c6 1 rfl
    go_wp2_with fail
    go_ret
    exact ⟨rfl, S1.below⟩
  | false =>
    cases c2 with
    | true =>
      go_enter Tryz.func4, Tryz.ntmps4
      go_upto_region 1 with fail
      go_name_world W0 hW
      have S0 : Sta w w none _ _ W0 := hW ▸ ((Sta.start w).new _ _).new _ _
      clear hW
      simp only [World.size_alloc, List.nil_append, List.cons_append] at S0
      have C0 := S0.c6 0 rfl
      go_wp2_with fail
      refine (heavy_any a p q W0 (ha.ext S0.x) _ HC1.out).mono ?_; rintro e w1 ⟨rfl, x1⟩
      have S1 := S0.ext x1
      clear x1
      clear C0
      have C1 := S1.c6 1 rfl
      go_wp2_with fail
      refine (heavy_any b r s w1 (hb.ext S1.x) _ HC2.out).mono ?_; rintro e w2 ⟨rfl, x1⟩
      have S2 := S1.ext x1
      clear x1
      clear C1
      go_wp2_with fail
      go_ret
      exact ⟨rfl, S2.below⟩
    | false =>
      go_enter Tryz.func4, Tryz.ntmps4
      go_upto_region 1 with fail
      go_name_world W0 hW
      have S0 : Sta w w none _ _ W0 := hW ▸ ((Sta.start w).new _ _).new _ _
      clear hW
      simp only [World.size_alloc, List.nil_append, List.cons_append] at S0
      have C0 := S0.c6 0 rfl
      go_wp2_with fail
      refine (heavy_any a p q W0 (ha.ext S0.x) _ HC1.out).mono ?_; rintro e w1 ⟨rfl, x1⟩
      have S1 := S0.ext x1
      clear x1
      clear C0
      have C1 := S1.c6 1 rfl
      go_wp2_with fail
      refine (heavy_any b r s w1 (hb.ext S1.x) _ HC2.out).mono ?_; rintro e w2 ⟨rfl, x1⟩
      have S2 := S1.ext x1
      clear x1
      clear C1
      have FA := Lib.hid (heavy_few HC1.out)
      have FB := Lib.hid (heavy_few HC2.out)
      go_upto_region 3 with fail
      go_cut [9, 10] (fun s9 s10 wx => ∃ (k1 k2 : Nat) (p1 q1 p2 q2 : Adr), s9 = .pointer (some ⟨k1, 0, none⟩) ∧ s10 = .pointer (some ⟨k2, 0, none⟩) ∧ Hid (Sta w w none [(w.heap.size, [.bool a.re.neg, .slice p.A a.re.num.length p.c, .slice p.B a.re.den.length p.d, .bool a.im.neg, .slice q.A a.im.num.length q.c, .slice q.B a.im.den.length q.d]), (w.heap.size + 1, [.bool b.re.neg, .slice r.A b.re.num.length r.c, .slice r.B b.re.den.length r.d, .bool b.im.neg, .slice s.A b.im.num.length s.c, .slice s.B b.im.den.length s.d]), (k1, [.bool a.re.neg, .slice p1.A a.re.num.length p1.c, .slice p1.B a.re.den.length p1.d, .bool a.im.neg, .slice q1.A a.im.num.length q1.c, .slice q1.B a.im.den.length q1.d]), (k2, [.bool b.re.neg, .slice p2.A b.re.num.length p2.c, .slice p2.B b.re.den.length p2.d, .bool b.im.neg, .slice q2.A b.im.num.length q2.c, .slice q2.B b.im.den.length q2.d])] [(p1, lentF a.re), (q1, lentF a.im), (p2, lentF b.re), (q2, lentF b.im)] wx))
      case first =>
        have C0 := S2.c6 0 rfl
        have C1 := S2.c6 1 rfl
        have q0 := (S2.v 0 _ _ rfl).lt
        have q1 := (S2.v 1 _ _ rfl).lt
        obtain ⟨VF, RF, F0, hVF, hRF⟩ := S2.open2
        have HVF := Lib.hid hVF
        have HRF := Lib.hid hRF
        clear hVF hRF
        refine wp_region_noPanic ?_
        refine wp_region_held_drew (S := Skz w2) (by kernel_rfl) (Skz.start w2) (fun hHeld => ?_)
        refine wpAnyH_take (i := 0) (v := ?_) rfl (by kernel_rfl) (by kernel_rfl) (by kernel_rfl) (fun _ _ _ h => h) (Or.inl ⟨by rfl, ?_⟩) (by assumption) ?_
        rotate_left
        · intro w hSw
          (try dsimp only at hSw)
          go_simp
          (try with_reducible rfl)
        try simp only [List.getElem_toArray, List.getElem_cons_zero, List.getElem_cons_succ, Act.put, List.setIfInBounds_toArray, List.set_cons_zero, List.set_cons_succ]
        refine wpAnyH_take (i := 2) (v := ?_) rfl (by kernel_rfl) (by kernel_rfl) (by kernel_rfl) (fun _ _ _ h => h) (Or.inl ⟨by rfl, ?_⟩) (by assumption) ?_
        rotate_left
        · intro w hSw
          (try dsimp only at hSw)
          go_simp
          (try with_reducible rfl)
        try simp only [List.getElem_toArray, List.getElem_cons_zero, List.getElem_cons_succ, Act.put, List.setIfInBounds_toArray, List.set_cons_zero, List.set_cons_succ]
        refine wpAnyH_inv (fun ac0 l ac wx => ∃ (b1 b3 b4 b5 b6 b7 : Bool) (k1 k2 : Nat) (p1 q1 p2 q2 : Adr), l = #[true, b1, true, b3, b4, b5, b6, b7] ∧ ac = ((((ac0.put (some 40) (cond b1 (.agg #[.bool a.re.neg, .slice p1.A a.re.num.length p1.c, .slice p1.B a.re.den.length p1.d, .bool a.im.neg, .slice q1.A a.im.num.length q1.c, .slice q1.B a.im.den.length q1.d]) undef)).put (some 42) (cond b3 (.agg #[.bool b.re.neg, .slice p2.A b.re.num.length p2.c, .slice p2.B b.re.den.length p2.d, .bool b.im.neg, .slice q2.A b.im.num.length q2.c, .slice q2.B b.im.den.length q2.d]) undef)).put (some 9) (cond b4 (.pointer (some ⟨k1, 0, none⟩)) undef)).put (some 10) (cond b5 (.pointer (some ⟨k2, 0, none⟩)) undef)) ∧ Skz w2 wx ∧ ((b6 = true → b4 = true ∧ b1 = true) ∧ (b4 = true → w2.heap.size ≤ k1) ∧ (b7 = true → b5 = true ∧ b3 = true) ∧ (b5 = true → w2.heap.size ≤ k2)) ∧ Hid (Stf w w none (ov VF [(2, cond b4 (some (k1, cond b6 [.bool a.re.neg, .slice p1.A a.re.num.length p1.c, .slice p1.B a.re.den.length p1.d, .bool a.im.neg, .slice q1.A a.im.num.length q1.c, .slice q1.B a.im.den.length q1.d] [.bool false, .slice none 0 0, .slice none 0 0, .bool false, .slice none 0 0, .slice none 0 0])) none), (3, cond b5 (some (k2, cond b7 [.bool b.re.neg, .slice p2.A b.re.num.length p2.c, .slice p2.B b.re.den.length p2.d, .bool b.im.neg, .slice q2.A b.im.num.length q2.c, .slice q2.B b.im.den.length q2.d] [.bool false, .slice none 0 0, .slice none 0 0, .bool false, .slice none 0 0, .slice none 0 0])) none)]) (ov RF [(0, cond b1 (some (p1, lentF a.re)) none), (1, cond b1 (some (q1, lentF a.im)) none), (2, cond b3 (some (p2, lentF b.re)) none), (3, cond b3 (some (q2, lentF b.im)) none)]) wx)) (by decide) ?_ ?_ ?_
        · refine ⟨false, false, false, false, false, false, 0, 0, Adr.nil, Adr.nil, Adr.nil, Adr.nil, by rfl, ?_, Skz.start w2, by simp, ?_⟩
          · simp only [cond, Act.put, List.setIfInBounds_toArray, List.set_cons_zero, List.set_cons_succ]
          · unfold Hid
            simp only [cond]
            rw [ov_open _ (by intro x hx; simp only [List.mem_cons, List.not_mem_nil, or_false] at hx; rcases hx with rfl | rfl <;> exact ⟨rfl, (HVF.out _).trans rfl⟩), ov_open _ (by intro x hx; simp only [List.mem_cons, List.not_mem_nil, or_false] at hx; rcases hx with rfl | rfl | rfl | rfl <;> exact ⟨rfl, (HRF.out _).trans rfl⟩)]
            exact F0.ext (Ext.refl w2).drew
        · rintro l ac wx ⟨b1, b3, b4, b5, b6, b7, k1, k2, p1, q1, p2, q2, rfl, rfl, hz, ⟨u0, v0, u1, v1⟩, F⟩ i hi
          obtain ⟨h1, o, ho, hd⟩ := mem_ready.1 hi
          have hi8 := (Array.getElem?_eq_some_iff.1 ho).1
          clear hi
          have hcs : i = 0 ∨ i = 1 ∨ i = 2 ∨ i = 3 ∨ i = 4 ∨ i = 5 ∨ i = 6 ∨ i = 7 := by simp only [List.size_toArray, List.length_cons, List.length_nil] at hi8; omega
          clear hi8
          rcases hcs with rfl | rfl | rfl | rfl | rfl | rfl | rfl | rfl
          · simp at h1
          · obtain rfl : b1 = false := h1
            cases ho
            obtain rfl : b6 = false := by cases b6 with | true => exact absurd (u0 rfl).2 (by simp) | false => rfl
            refine wpOp_step rfl (fun K hK => ?_)
            clear hd
            simp only [cond, Act.put, List.setIfInBounds_toArray, List.set_cons_zero, List.set_cons_succ]
            go_simp
            refine (kLentG a p q _ (ha.ext F.out.x) FA.out.1 FA.out.2).mono ?_; rintro e w1 ⟨p9, q9, rfl, o1, o2, d, x1⟩
            exact hK _ _ ⟨Skz.ext hz x1, true, b3, b4, b5, false, b7, k1, k2, p9, q9, p2, q2, by rfl, by simp only [cond, Act.put, List.setIfInBounds_toArray, List.set_cons_zero, List.set_cons_succ], Skz.ext hz x1, ⟨(fun h => by simp at h), v0, u1, v1⟩, Lib.hid (F.out.call2o x1 0 1 o1 o2 d (by simp) (by simp [repl]) rfl)⟩
          · simp at h1
          · obtain rfl : b3 = false := h1
            cases ho
            obtain rfl : b1 = true := hd ⟨1, .chain⟩ (by simp) rfl
            obtain rfl : b7 = false := by cases b7 with | true => exact absurd (u1 rfl).2 (by simp) | false => rfl
            refine wpOp_step rfl (fun K hK => ?_)
            clear hd
            simp only [cond, Act.put, List.setIfInBounds_toArray, List.set_cons_zero, List.set_cons_succ]
            go_simp
            refine (kLentG b r s _ (hb.ext F.out.x) FB.out.1 FB.out.2).mono ?_; rintro e w1 ⟨p9, q9, rfl, o1, o2, d, x1⟩
            exact hK _ _ ⟨Skz.ext hz x1, true, true, b4, b5, b6, false, k1, k2, p1, q1, p9, q9, by rfl, by simp only [cond, Act.put, List.setIfInBounds_toArray, List.set_cons_zero, List.set_cons_succ], Skz.ext hz x1, ⟨u0, v0, (fun h => by simp at h), v1⟩, Lib.hid (F.out.call2o x1 2 3 o1 o2 d (by simp) (by simp [repl]) rfl)⟩
          · obtain rfl : b4 = false := h1
            cases ho
            obtain rfl : b6 = false := by cases b6 with | true => exact absurd (u0 rfl).1 (by simp) | false => rfl
            refine wpOp_step rfl (fun K hK => ?_)
            clear hd
            simp only [cond, Act.put, List.setIfInBounds_toArray, List.set_cons_zero, List.set_cons_succ]
            go_simp
            exact hK _ _ ⟨Skz.alloc hz, b1, b3, true, b5, false, b7, wx.heap.size, k2, p1, q1, p2, q2, by rfl, by simp only [cond, Act.put, List.setIfInBounds_toArray, List.set_cons_zero, List.set_cons_succ], Skz.alloc hz, ⟨(fun h => by simp at h), (fun _ => hz.2), u1, v1⟩, Lib.hid (F.out.newo 2 _ _ (by simp) rfl)⟩
          · obtain rfl : b5 = false := h1
            cases ho
            obtain rfl : b7 = false := by cases b7 with | true => exact absurd (u1 rfl).1 (by simp) | false => rfl
            refine wpOp_step rfl (fun K hK => ?_)
            clear hd
            simp only [cond, Act.put, List.setIfInBounds_toArray, List.set_cons_zero, List.set_cons_succ]
            go_simp
            exact hK _ _ ⟨Skz.alloc hz, b1, b3, b4, true, b6, false, k1, wx.heap.size, p1, q1, p2, q2, by rfl, by simp only [cond, Act.put, List.setIfInBounds_toArray, List.set_cons_zero, List.set_cons_succ], Skz.alloc hz, ⟨u0, v0, (fun h => by simp at h), (fun _ => hz.2)⟩, Lib.hid (F.out.newo 3 _ _ (by simp) rfl)⟩
          · obtain rfl : b6 = false := h1
            cases ho
            obtain rfl : b4 = true := hd ⟨4, .data⟩ (by simp) rfl
            obtain rfl : b1 = true := hd ⟨1, .data⟩ (by simp) rfl
            refine wpOp_step rfl (fun K hK => ?_)
            clear hd
            have vv := F.out.v 2 k1 [.bool false, .slice none 0 0, .slice none 0 0, .bool false, .slice none 0 0, .slice none 0 0] rfl
            have Z := vv.c6
            have ZF := vv.f6
            have hk := v0 rfl
            clear vv
            simp only [cond, Act.put, List.setIfInBounds_toArray, List.set_cons_zero, List.set_cons_succ]
            go_simp
            exact hK _ _ ⟨(Skz.far (Skz.far (Skz.far (Skz.far (Skz.far (Skz.far hz hk) hk) hk) hk) hk) hk), true, b3, true, b5, true, b7, k1, k2, p1, q1, p2, q2, by rfl, by simp only [cond, Act.put, List.setIfInBounds_toArray, List.set_cons_zero, List.set_cons_succ], (Skz.far (Skz.far (Skz.far (Skz.far (Skz.far (Skz.far hz hk) hk) hk) hk) hk) hk), ⟨(fun _ => ⟨rfl, rfl⟩), (fun _ => hk), u1, v1⟩, Lib.hid (F.out.set6o (i := 2) rfl (by simp) rfl)⟩
          · obtain rfl : b7 = false := h1
            cases ho
            obtain rfl : b5 = true := hd ⟨5, .data⟩ (by simp) rfl
            obtain rfl : b3 = true := hd ⟨3, .data⟩ (by simp) rfl
            refine wpOp_step rfl (fun K hK => ?_)
            clear hd
            have vv := F.out.v 3 k2 [.bool false, .slice none 0 0, .slice none 0 0, .bool false, .slice none 0 0, .slice none 0 0] rfl
            have Z := vv.c6
            have ZF := vv.f6
            have hk := v1 rfl
            clear vv
            simp only [cond, Act.put, List.setIfInBounds_toArray, List.set_cons_zero, List.set_cons_succ]
            go_simp
            exact hK _ _ ⟨(Skz.far (Skz.far (Skz.far (Skz.far (Skz.far (Skz.far hz hk) hk) hk) hk) hk) hk), b1, true, b4, true, b6, true, k1, k2, p1, q1, p2, q2, by rfl, by simp only [cond, Act.put, List.setIfInBounds_toArray, List.set_cons_zero, List.set_cons_succ], (Skz.far (Skz.far (Skz.far (Skz.far (Skz.far (Skz.far hz hk) hk) hk) hk) hk) hk), ⟨u0, v0, (fun _ => ⟨rfl, rfl⟩), (fun _ => hk)⟩, Lib.hid (F.out.set6o (i := 3) rfl (by simp) rfl)⟩
        · rintro l ac wx ⟨b1, b3, b4, b5, b6, b7, k1, k2, p1, q1, p2, q2, rfl, rfl, hz, ⟨u0, v0, u1, v1⟩, F⟩ hr
          obtain rfl : b1 = true := by
            cases b1 with
            | true => rfl
            | false => exact ((List.eq_nil_iff_forall_not_mem.1 hr) 1 (mem_ready.2 ⟨rfl, _, rfl, by simp [Region.binds]⟩)).elim
          obtain rfl : b3 = true := by
            cases b3 with
            | true => rfl
            | false => exact ((List.eq_nil_iff_forall_not_mem.1 hr) 3 (mem_ready.2 ⟨rfl, _, rfl, by simp [Region.binds]⟩)).elim
          obtain rfl : b4 = true := by
            cases b4 with
            | true => rfl
            | false => exact ((List.eq_nil_iff_forall_not_mem.1 hr) 4 (mem_ready.2 ⟨rfl, _, rfl, by simp [Region.binds]⟩)).elim
          obtain rfl : b5 = true := by
            cases b5 with
            | true => rfl
            | false => exact ((List.eq_nil_iff_forall_not_mem.1 hr) 5 (mem_ready.2 ⟨rfl, _, rfl, by simp [Region.binds]⟩)).elim
          obtain rfl : b6 = true := by
            cases b6 with
            | true => rfl
            | false => exact ((List.eq_nil_iff_forall_not_mem.1 hr) 6 (mem_ready.2 ⟨rfl, _, rfl, by simp [Region.binds]⟩)).elim
          obtain rfl : b7 = true := by
            cases b7 with
            | true => rfl
            | false => exact ((List.eq_nil_iff_forall_not_mem.1 hr) 7 (mem_ready.2 ⟨rfl, _, rfl, by simp [Region.binds]⟩)).elim
          have SZ := Stf.close (show Stf w w none (ov VF (en 2 [(k1, [.bool a.re.neg, .slice p1.A a.re.num.length p1.c, .slice p1.B a.re.den.length p1.d, .bool a.im.neg, .slice q1.A a.im.num.length q1.c, .slice q1.B a.im.den.length q1.d]), (k2, [.bool b.re.neg, .slice p2.A b.re.num.length p2.c, .slice p2.B b.re.den.length p2.d, .bool b.im.neg, .slice q2.A b.im.num.length q2.c, .slice q2.B b.im.den.length q2.d])])) (ov RF (en 0 [(p1, lentF a.re), (q1, lentF a.im), (p2, lentF b.re), (q2, lentF b.im)])) wx from F.out) HVF.out HRF.out rfl rfl
          clear hr F hz
          refine NoPanic.normal ?_
          simp only [cond, Act.put, List.setIfInBounds_toArray, List.set_cons_zero, List.set_cons_succ]
          go_wp2_with fail
          go_meet
          refine ⟨k1, k2, p1, q1, p2, q2, rfl, rfl, ?_⟩
          exact SZ
      case rest =>
        obtain ⟨k1, k2, p1, q1, p2, q2, rfl, rfl, S3h⟩ := hcut
        have S3 := S3h.out
        clear S3h HC1 HC2
        have GA := S3.rg_lent 0 rfl rfl ha.wf
        have GB := S3.rg_lent 2 rfl rfl hb.wf
        have GA0 := ha.ext S3.x
        have GB0 := hb.ext S3.x
        clear S0 S1 S2
        have C0 := S3.c6 0 rfl
        have C1 := S3.c6 1 rfl
        have C2 := S3.c6 2 rfl
        have C3 := S3.c6 3 rfl
        have qz0 := (S3.v 0 _ _ rfl).lt
        have qz1 := (S3.v 1 _ _ rfl).lt
        have qz2 := (S3.v 2 _ _ rfl).lt
        have qz3 := (S3.v 3 _ _ rfl).lt
        have HK0 := Lib.hid (fun wx (x : Below wc.heap.size wc wx) => ga_Check a p1 q1 wx (GA.ext x))
        have HK1 := Lib.hid (fun wx (x : Below wc.heap.size wc wx) => ra_Check a p q wx (GA0.ext x))
        have HK2 := Lib.hid (fun wx (x : Below wc.heap.size wc wx) => ga_Same a b p1 q1 p2 q2 wx (GA.ext x) (GB.ext x))
        have HK3 := Lib.hid (fun wx (x : Below wc.heap.size wc wx) => ra_Same a b p q r s wx (GA0.ext x) (GB0.ext x))
        have HK4 := Lib.hid (fun wx (x : Below wc.heap.size wc wx) => ga_Same a a p1 q1 p1 q1 wx (GA.ext x) (GA.ext x))
        have HK5 := Lib.hid (fun wx (x : Below wc.heap.size wc wx) => ra_Same a a p q p q wx (GA0.ext x) (GA0.ext x))
        have HK6 := Lib.hid (fun wx (x : Below wc.heap.size wc wx) => ga_Zero a p1 q1 wx (GA.ext x))
        have HK7 := Lib.hid (fun wx (x : Below wc.heap.size wc wx) => ra_Zero a p q wx (GA0.ext x))
        have K0 : Skz wc wc := ⟨fun _ _ _ => rfl, Nat.le_refl _⟩
        have XX : Below wc.heap.size wc wc.drew := Ext.drew (Ext.refl wc)
        clear GA GB GA0 GB0
        go_upto_region 4 with fail
        go_region_held3 (Skz wc) ((first | (with_reducible exact K1) | (with_reducible exact Skz.drew K0)))
          (first
            | (go_at_call 40; ((with_reducible refine (HK0.out _ XX).mono ?_)); rintro e wq ⟨rfl, x1⟩; replace XX := Below.join (w0 := wc) XX x1; have K1 : Skz wc wq := Skz.ext (by (first | (with_reducible exact K1) | (with_reducible exact Skz.drew K0))) x1; clear x1)
            | (go_at_call 41; ((with_reducible refine (HK1.out _ XX).mono ?_)); rintro e wq ⟨rfl, x1⟩; replace XX := Below.join (w0 := wc) XX x1; have K1 : Skz wc wq := Skz.ext (by (first | (with_reducible exact K1) | (with_reducible exact Skz.drew K0))) x1; clear x1)
            | (go_at_call 42; ((with_reducible refine (HK2.out _ XX).mono ?_)); rintro e wq ⟨rfl, x1⟩; replace XX := Below.join (w0 := wc) XX x1; have K1 : Skz wc wq := Skz.ext (by (first | (with_reducible exact K1) | (with_reducible exact Skz.drew K0))) x1; clear x1)
            | (go_at_call 43; ((with_reducible refine (HK3.out _ XX).mono ?_)); rintro e wq ⟨rfl, x1⟩; replace XX := Below.join (w0 := wc) XX x1; have K1 : Skz wc wq := Skz.ext (by (first | (with_reducible exact K1) | (with_reducible exact Skz.drew K0))) x1; clear x1)
            | (go_at_call 42; ((with_reducible refine (HK4.out _ XX).mono ?_)); rintro e wq ⟨rfl, x1⟩; replace XX := Below.join (w0 := wc) XX x1; have K1 : Skz wc wq := Skz.ext (by (first | (with_reducible exact K1) | (with_reducible exact Skz.drew K0))) x1; clear x1)
            | (go_at_call 43; ((with_reducible refine (HK5.out _ XX).mono ?_)); rintro e wq ⟨rfl, x1⟩; replace XX := Below.join (w0 := wc) XX x1; have K1 : Skz wc wq := Skz.ext (by (first | (with_reducible exact K1) | (with_reducible exact Skz.drew K0))) x1; clear x1)
            | (go_at_call 44; ((with_reducible refine (HK6.out _ XX).mono ?_)); rintro e wq ⟨rfl, x1⟩; replace XX := Below.join (w0 := wc) XX x1; have K1 : Skz wc wq := Skz.ext (by (first | (with_reducible exact K1) | (with_reducible exact Skz.drew K0))) x1; clear x1)
            | (go_at_call 45; ((with_reducible refine (HK7.out _ XX).mono ?_)); rintro e wq ⟨rfl, x1⟩; replace XX := Below.join (w0 := wc) XX x1; have K1 : Skz wc wq := Skz.ext (by (first | (with_reducible exact K1) | (with_reducible exact Skz.drew K0))) x1; clear x1))
        have S4 := S3.ext XX
        clear S3 XX K0 K1 C0 qz0 C1 qz1 C2 qz2 C3 qz3 HK0 HK1 HK2 HK3 HK4 HK5 HK6 HK7
        have C2 := S4.c6 2 rfl
        go_wp2_with fail
        refine (ga_Conj a p1 q1 _ (S4.rg_lent 0 rfl rfl ha.wf)).mono ?_; rintro e w10x ⟨p10, q10, rfl, og, x1⟩
        have S10a := S4.call2 x1 og.re og.im og.dis
        clear og x1
        clear C2
        go_upto_region 7 with fail
        go_name_world W10 hW
        have S10 : Sta w w none _ _ W10 := hW ▸ S10a.new _ _
        clear hW S10a S4
        simp only [List.cons_append, List.nil_append] at S10
        have C2 := S10.c6 2 rfl
        go_wp2_with fail
        refine (ga_Conj a p1 q1 _ (S10.rg_lent 0 rfl rfl ha.wf)).mono ?_; rintro e w11x ⟨p11, q11, rfl, og, x1⟩
        have S11a := S10.call2 x1 og.re og.im og.dis
        clear og x1
        clear C2
        go_upto_region 8 with fail
        go_name_world W11 hW
        have S11 : Sta w w none _ _ W11 := hW ▸ S11a.new _ _
        clear hW S11a S10
        simp only [List.cons_append, List.nil_append] at S11
        have C0 := S11.c6 0 rfl
        go_wp2_with fail
        refine (ra_Conj a p q w _ S11.x ha).mono ?_; rintro e w12x ⟨p12, q12, rfl, rr, og, x1⟩
        have RR := Lib.hid rr
        have S12a := S11.call x1 og
        clear rr og x1
        clear C0
        go_upto_region 9 with fail
        go_name_world W12 hW
        have S12 : Sta w w none _ _ W12 := hW ▸ S12a.new _ _
        clear hW S12a S11
        simp only [List.cons_append, List.nil_append] at S12
        have C2 := S12.c6 2 rfl
        go_wp2_with fail
        refine (ga_Neg a p1 q1 _ (S12.rg_lent 0 rfl rfl ha.wf)).mono ?_; rintro e w13x ⟨p13, q13, rfl, og, x1⟩
        have S13a := S12.call2 x1 og.re og.im og.dis
        clear og x1
        clear C2
        go_upto_region 10 with fail
        go_name_world W13 hW
        have S13 : Sta w w none _ _ W13 := hW ▸ S13a.new _ _
        clear hW S13a S12
        simp only [List.cons_append, List.nil_append] at S13
        have C2 := S13.c6 2 rfl
        go_wp2_with fail
        refine (ga_Neg a p1 q1 _ (S13.rg_lent 0 rfl rfl ha.wf)).mono ?_; rintro e w14x ⟨p14, q14, rfl, og, x1⟩
        have S14a := S13.call2 x1 og.re og.im og.dis
        clear og x1
        clear C2
        go_upto_region 11 with fail
        go_name_world W14 hW
        have S14 : Sta w w none _ _ W14 := hW ▸ S14a.new _ _
        clear hW S14a S13
        simp only [List.cons_append, List.nil_append] at S14
        have C0 := S14.c6 0 rfl
        go_wp2_with fail
        refine (ra_Neg a p q _ (ha.ext S14.x)).mono ?_; rintro e w15x ⟨p15, q15, rfl, og, x1⟩
        have S15a := S14.call2 x1 og.re og.im og.dis
        clear og x1
        clear C0
        go_upto_region 12 with fail
        go_name_world W15 hW
        have S15 : Sta w w none _ _ W15 := hW ▸ S15a.new _ _
        clear hW S15a S14
        simp only [List.cons_append, List.nil_append] at S15
        have C2 := S15.c6 2 rfl
        go_wp2_with fail
        refine (ga_Norm a p1 q1 _ (S15.rg_lent 0 rfl rfl ha.wf)).mono ?_; rintro e w16x ⟨p16, rfl, og, x1⟩
        have S16a := S15.call x1 og
        clear og x1
        clear C2
        go_upto_region 13 with fail
        go_name_world W16 hW
        have S16 : Sta w w none _ _ W16 := hW ▸ S16a.new _ _
        clear hW S16a S15
        simp only [List.cons_append, List.nil_append] at S16
        have C2 := S16.c6 2 rfl
        go_wp2_with fail
        refine (ga_Norm a p1 q1 _ (S16.rg_lent 0 rfl rfl ha.wf)).mono ?_; rintro e w17x ⟨p17, rfl, og, x1⟩
        have S17a := S16.call x1 og
        clear og x1
        clear C2
        go_upto_region 14 with fail
        go_name_world W17 hW
        have S17 : Sta w w none _ _ W17 := hW ▸ S17a.new _ _
        clear hW S17a S16
        simp only [List.cons_append, List.nil_append] at S17
        have C0 := S17.c6 0 rfl
        go_wp2_with fail
        refine (ra_Norm a p q _ (ha.ext S17.x)).mono ?_; rintro e w18x ⟨p18, rfl, og, x1⟩
        have S18a := S17.call x1 og
        clear og x1
        clear C0
        go_upto_region 15 with fail
        go_name_world W18 hW
        have S18 : Sta w w none _ _ W18 := hW ▸ S18a.new _ _
        clear hW S18a S17
        simp only [List.cons_append, List.nil_append] at S18
        go_wp2_with fail
        refine (kInt x y _ hx0 hx1 hy0 hy1).mono ?_; rintro e wA ⟨p3, q3, rfl, o1, o2, d, x1⟩
        have SA := S18.call2 x1 o1 o2 d
        clear o1 o2 d x1 S18
        go_wp2_with fail
        refine (kInt x y _ hx0 hx1 hy0 hy1).mono ?_; rintro e wB ⟨p4, q4, rfl, o1, o2, d, x1⟩
        have SB := SA.call2 x1 o1 o2 d
        clear o1 o2 d x1 SA
        go_upto_region 16 with fail
        go_name_world W19 hW
        have S20 : Sta w w none _ _ W19 := hW ▸ (SB.new _ _).new _ _
        clear hW SB
        simp only [World.size_alloc, List.cons_append, List.nil_append] at S20
        go_wp2_with fail
        refine (ra_Int x y _ hx0 hx1 hy0 hy1).mono ?_; rintro e w20 ⟨p5, q5, rfl, og, x1⟩
        have S21 := S20.call2 x1 og.re og.im og.dis
        clear og x1 hx0 hx1 hy0 hy1
        go_upto_region 17 with fail
        go_name_world W21 hW
        have T0 : Sta w w none _ _ W21 := hW ▸ S21.new _ _
        clear hW S21 S20
        simp only [List.cons_append, List.nil_append] at T0
        have C4 := T0.c6 4 rfl
        have C5 := T0.c6 5 rfl
        have C6 := T0.c6 6 rfl
        go_wp2_with fail
        refine (one_any (gconj a).1 (gconj a).2 p10 q10 p11 q11 p12 q12 _ (T0.rg 4 rfl rfl) (T0.rg 6 rfl rfl) ⟨RR.out _ T0.x, T0.rf 8 rfl⟩).mono ?_; rintro e z0 ⟨rfl, x1⟩
        have T1 := T0.ext x1
        clear x1 T0 C4 C5 C6
        have C7 := T1.c6 7 rfl
        have C8 := T1.c6 8 rfl
        have C9 := T1.c6 9 rfl
        go_wp2_with fail
        refine (one_any (gneg a).1 (gneg a).2 p13 q13 p14 q14 p15 q15 _ (T1.rg 9 rfl rfl) (T1.rg 11 rfl rfl) (T1.rg 13 rfl rfl)).mono ?_; rintro e z1 ⟨rfl, x1⟩
        have T2 := T1.ext x1
        clear x1 T1 C7 C8 C9
        have C13 := T2.c6 13 rfl
        have C14 := T2.c6 14 rfl
        have C15 := T2.c6 15 rfl
        go_wp2_with fail
        refine (one_any (gint x y) 0 p3 q3 p4 q4 p5 q5 _ (T2.rg 18 rfl rfl) (T2.rg 20 rfl rfl) (T2.rg 22 rfl rfl)).mono ?_; rintro e z2 ⟨rfl, x1⟩
        have T3 := T2.ext x1
        clear x1 T2 C13 C14 C15
        have C10 := T3.c3 10 rfl
        have C12 := T3.c3 12 rfl
        go_wp2_with fail
        refine (kSame (gnorm a).1 p16 p18 _ (T3.rf 15 rfl) (T3.rf 17 rfl)).mono ?_; rintro e z3 ⟨rfl, x1⟩
        have T4 := T3.ext x1
        clear x1 T3 C10 C12
        have C11 := T4.c3 11 rfl
        have C12 := T4.c3 12 rfl
        go_wp2_with fail
        refine (kSame (gnorm a).1 p17 p18 _ (T4.rf 16 rfl) (T4.rf 17 rfl)).mono ?_; rintro e z4 ⟨rfl, x1⟩
        have T5 := T4.ext x1
        clear x1 T4 C11 C12
        have C2 := T5.c6 2 rfl
        have C0 := T5.c6 0 rfl
        go_wp2_with fail
        refine (kKeptG a p1 q1 p q w.heap.size _ (T5.r 0 _ _ rfl) (T5.r 1 _ _ rfl) (ha.ext T5.x) FA.out.1 FA.out.2).mono ?_; rintro e z5 ⟨rfl, x1⟩
        have T6 := T5.ext x1
        clear x1 T5 C2 C0
        have C3 := T6.c6 3 rfl
        have C1 := T6.c6 1 rfl
        go_wp2_with fail
        refine (kKeptG b p2 q2 r s w.heap.size _ (T6.r 2 _ _ rfl) (T6.r 3 _ _ rfl) (hb.ext T6.x) FB.out.1 FB.out.2).mono ?_; rintro e z6 ⟨rfl, x1⟩
        have T7 := T6.ext x1
        clear x1 T6 C3 C1
        go_upto_region 20 with fail
        have C2 := T7.c6 2 rfl
        have qz2 := (T7.v 2 _ _ rfl).lt
        have C4 := T7.c6 4 rfl
        have qz4 := (T7.v 4 _ _ rfl).lt
        have C5 := T7.c6 5 rfl
        have qz5 := (T7.v 5 _ _ rfl).lt
        have C7 := T7.c6 7 rfl
        have qz7 := (T7.v 7 _ _ rfl).lt
        have C8 := T7.c6 8 rfl
        have qz8 := (T7.v 8 _ _ rfl).lt
        have C13 := T7.c6 13 rfl
        have qz13 := (T7.v 13 _ _ rfl).lt
        have C14 := T7.c6 14 rfl
        have qz14 := (T7.v 14 _ _ rfl).lt
        have C10 := T7.c3 10 rfl
        have qz10 := (T7.v 10 _ _ rfl).lt
        have C11 := T7.c3 11 rfl
        have qz11 := (T7.v 11 _ _ rfl).lt
        have FC := gconj_few ha.wf FA.out
        have FN := gneg_few ha.wf
        have FM := (gnorm_good a).few
        have FW := Lib.hid (show ∀ z : Adr × Fr, z ∈ ([(p1, a.re), (q1, a.im), (p10, (gconj a).1.re), (q10, (gconj a).1.im), (p11, (gconj a).1.re), (q11, (gconj a).1.im), (p13, (gneg a).1.re), (q13, (gneg a).1.im), (p14, (gneg a).1.re), (q14, (gneg a).1.im), (p3, (gint x y).re), (q3, (gint x y).im), (p4, (gint x y).re), (q4, (gint x y).im)] ++ [(p16, (gnorm a).1), (p17, (gnorm a).1)] : List (Adr × Fr)) → Few z.2 from (List.forall_mem_cons.2 ⟨FA.out.1, (List.forall_mem_cons.2 ⟨FA.out.2, (List.forall_mem_cons.2 ⟨FC.1, (List.forall_mem_cons.2 ⟨FC.2, (List.forall_mem_cons.2 ⟨FC.1, (List.forall_mem_cons.2 ⟨FC.2, (List.forall_mem_cons.2 ⟨FN.1, (List.forall_mem_cons.2 ⟨FN.2, (List.forall_mem_cons.2 ⟨FN.1, (List.forall_mem_cons.2 ⟨FN.2, (List.forall_mem_cons.2 ⟨fsmall_few _ _, (List.forall_mem_cons.2 ⟨fsmall_few _ _, (List.forall_mem_cons.2 ⟨fsmall_few _ _, (List.forall_mem_cons.2 ⟨fsmall_few _ _, (List.forall_mem_cons.2 ⟨FM, (List.forall_mem_cons.2 ⟨FM, (fun x hx => absurd hx (List.not_mem_nil))⟩)⟩)⟩)⟩)⟩)⟩)⟩)⟩)⟩)⟩)⟩)⟩)⟩)⟩)⟩)⟩))
        clear FC FN FM
        have TT := ((((T7).unlent (i := 0) rfl ha.wf.re)).unlent (i := 1) rfl ha.wf.im)
        simp only [List.set_cons_zero, List.set_cons_succ] at TT
        have HI : Hid (∀ i ∈ [0, 1, 4, 5, 6, 7, 9, 10, 11, 12, 18, 19, 20, 21, 15, 16], i < 24) := by unfold Hid; decide
        have HN : Hid ([0, 1, 4, 5, 6, 7, 9, 10, 11, 12, 18, 19, 20, 21, 15, 16] : List Nat).Nodup := by unfold Hid; decide
        have HP := Lib.hid (show ∀ (i : Nat) (p : Adr) (f : Fr), ([(p1, a.re), (q1, a.im), (p10, (gconj a).1.re), (q10, (gconj a).1.im), (p11, (gconj a).1.re), (q11, (gconj a).1.im), (p13, (gneg a).1.re), (q13, (gneg a).1.im), (p14, (gneg a).1.re), (q14, (gneg a).1.im), (p3, (gint x y).re), (q3, (gint x y).im), (p4, (gint x y).re), (q4, (gint x y).im)] ++ [(p16, (gnorm a).1), (p17, (gnorm a).1)] : List (Adr × Fr))[i]? = some (p, f) → OF z6 w.heap.size p f from TT.rl HI.out)
        have HD := Lib.hid (show ∀ (i j : Nat) (p : Adr) (f : Fr) (q : Adr) (h : Fr), i ≠ j → ([(p1, a.re), (q1, a.im), (p10, (gconj a).1.re), (q10, (gconj a).1.im), (p11, (gconj a).1.re), (q11, (gconj a).1.im), (p13, (gneg a).1.re), (q13, (gneg a).1.im), (p14, (gneg a).1.re), (q14, (gneg a).1.im), (p3, (gint x y).re), (q3, (gint x y).im), (p4, (gint x y).re), (q4, (gint x y).im)] ++ [(p16, (gnorm a).1), (p17, (gnorm a).1)] : List (Adr × Fr))[i]? = some (p, f) → ([(p1, a.re), (q1, a.im), (p10, (gconj a).1.re), (q10, (gconj a).1.im), (p11, (gconj a).1.re), (q11, (gconj a).1.im), (p13, (gneg a).1.re), (q13, (gneg a).1.im), (p14, (gneg a).1.re), (q14, (gneg a).1.im), (p3, (gint x y).re), (q3, (gint x y).im), (p4, (gint x y).re), (q4, (gint x y).im)] ++ [(p16, (gnorm a).1), (p17, (gnorm a).1)] : List (Adr × Fr))[j]? = some (q, h) → p.Dis q from TT.disl HI.out HN.out)
        obtain ⟨O, hO⟩ : ∃ O : Nat → Bool, ∀ b, O b = true ↔ ∀ (j : Nat) (p : Adr) (f : Fr), ([(p1, a.re), (q1, a.im), (p10, (gconj a).1.re), (q10, (gconj a).1.im), (p11, (gconj a).1.re), (q11, (gconj a).1.im), (p13, (gneg a).1.re), (q13, (gneg a).1.im), (p14, (gneg a).1.re), (q14, (gneg a).1.im), (p3, (gint x y).re), (q3, (gint x y).im), (p4, (gint x y).re), (q4, (gint x y).im)] ++ [(p16, (gnorm a).1), (p17, (gnorm a).1)] : List (Adr × Fr))[j]? = some (p, f) → p.Off b := ⟨fun b => @decide _ (Classical.propDecidable (∀ (j : Nat) (p : Adr) (f : Fr), ([(p1, a.re), (q1, a.im), (p10, (gconj a).1.re), (q10, (gconj a).1.im), (p11, (gconj a).1.re), (q11, (gconj a).1.im), (p13, (gneg a).1.re), (q13, (gneg a).1.im), (p14, (gneg a).1.re), (q14, (gneg a).1.im), (p3, (gint x y).re), (q3, (gint x y).im), (p4, (gint x y).re), (q4, (gint x y).im)] ++ [(p16, (gnorm a).1), (p17, (gnorm a).1)] : List (Adr × Fr))[j]? = some (p, f) → p.Off b)), fun b => @decide_eq_true_iff _ (Classical.propDecidable _)⟩
        have ob2 := (hO _).2 (TT.off HI.out 2 rfl)
        have ob4 := (hO _).2 (TT.off HI.out 4 rfl)
        have ob5 := (hO _).2 (TT.off HI.out 5 rfl)
        have ob7 := (hO _).2 (TT.off HI.out 7 rfl)
        have ob8 := (hO _).2 (TT.off HI.out 8 rfl)
        have ob13 := (hO _).2 (TT.off HI.out 13 rfl)
        have ob14 := (hO _).2 (TT.off HI.out 14 rfl)
        have ob10 := (hO _).2 (TT.off HI.out 10 rfl)
        have ob11 := (hO _).2 (TT.off HI.out 11 rfl)
        have HO := Lib.hid hO
        have XW := Lib.hid T7.x
        clear hO TT
        have K0 : Skz z6 z6 := ⟨fun _ _ _ => rfl, Nat.le_refl _⟩
        go_region_held3 (Sko O z6) (first | (with_reducible exact K3) | (refine Sko.of ?_; ((repeat (first | (with_reducible refine Skz.alloc ?_) | (with_reducible refine Skz.drew ?_))); (first | (with_reducible exact K2) | (with_reducible exact K1) | (with_reducible exact K0)))))
          (first
            | (go_at_call 57; ((with_reducible refine (kParts [(p1, a.re), (q1, a.im), (p10, (gconj a).1.re), (q10, (gconj a).1.im), (p11, (gconj a).1.re), (q11, (gconj a).1.im), (p13, (gneg a).1.re), (q13, (gneg a).1.im), (p14, (gneg a).1.re), (q14, (gneg a).1.im), (p3, (gint x y).re), (q3, (gint x y).im), (p4, (gint x y).re), (q4, (gint x y).im)] 7 _ _ _ ?hL ?hc ?hg ?hn).mono ?_); (case hL => rfl); (case hc => ((try with_reducible refine CellsAt.drew ?_); first | ((with_reducible refine CellsAt.alloc ?_ _); (try with_reducible refine CellsAt.drew ?_); (with_reducible refine cellsAt_new' (by first | with_reducible rfl | (simp only [World.size_alloc, World.size_drew]; done)) ?_); (simp only [cellsF]; done)) | ((with_reducible refine cellsAt_new' (by first | with_reducible rfl | (simp only [World.size_alloc, World.size_drew]; done)) ?_); (simp only [cellsF]; done)))); (case hg => (simp only [World.size_alloc, World.size_drew]; omega)); (case hn => decide)); rintro e wy ⟨v, rfl, ow, x1⟩; have hz := Ext.size x1; simp only [World.size_alloc, World.size_drew] at hz; have OW := Lib.hid (show wy.ownsRow z6.heap.size 24 3 v 14 (cellsF [(p1, a.re), (q1, a.im), (p10, (gconj a).1.re), (q10, (gconj a).1.im), (p11, (gconj a).1.re), (q11, (gconj a).1.im), (p13, (gneg a).1.re), (q13, (gneg a).1.im), (p14, (gneg a).1.re), (q14, (gneg a).1.im), (p3, (gint x y).re), (q3, (gint x y).im), (p4, (gint x y).re), (q4, (gint x y).im)]) from ownsRow_lower ow (by simp only [World.size_alloc, World.size_drew]; omega)); have X1 := Lib.hid x1; have K1 : Skz z6 wy := Skz.ext (by (repeat (first | (with_reducible refine Skz.alloc ?_) | (with_reducible refine Skz.drew ?_))); exact K0) x1; have X2 := Lib.hid (show Ext z6 wy from Ext.trans (by (repeat (first | (with_reducible refine Ext.drew ?_) | (with_reducible refine Ext.alloc ?_ _))); exact Ext.refl _) x1); clear ow x1)
            | (go_at_call 37; ((with_reducible refine (kApartS ([(p1, a.re), (q1, a.im), (p10, (gconj a).1.re), (q10, (gconj a).1.im), (p11, (gconj a).1.re), (q11, (gconj a).1.im), (p13, (gneg a).1.re), (q13, (gneg a).1.im), (p14, (gneg a).1.re), (q14, (gneg a).1.im), (p3, (gint x y).re), (q3, (gint x y).im), (p4, (gint x y).re), (q4, (gint x y).im)] ++ [(p16, (gnorm a).1), (p17, (gnorm a).1)]) _ _ w _ ?hc ?hr ?hd ?h0 ?hn ?hn2 _ ?hl).mono ?_); (case hc => exact cellsAt_row OA.out); (case hr => exact fun i p f h => ⟨(HP.out i p f h).ext X3.out, FW.out (p, f) (List.mem_of_getElem? h)⟩); (case hd => exact HD.out); (case h0 => exact Below.join XW.out X3.out); (case hl => rfl); (case hn => (simp only [List.cons_append, List.length_cons]; omega)); (case hn2 => (simp only [List.cons_append, List.nil_append, List.length_cons, List.length_nil]; omega))); rintro e wd ⟨rfl, x11, z11, k11⟩; have XE := Lib.hid x11; have K3 : Sko O z6 wd := Sko.apart (Sko.of K2) (fun b h => (HO.out b).1 h) z11 k11; clear x11 z11 k11)
            | ((with_reducible refine at_app ?_); refine step_appF rfl _ _ rfl z6.heap.size v 14 [(p1, a.re), (q1, a.im), (p10, (gconj a).1.re), (q10, (gconj a).1.im), (p11, (gconj a).1.re), (q11, (gconj a).1.im), (p13, (gneg a).1.re), (q13, (gneg a).1.im), (p14, (gneg a).1.re), (q14, (gneg a).1.im), (p3, (gint x y).re), (q3, (gint x y).im), (p4, (gint x y).re), (q4, (gint x y).im)] [(p16, (gnorm a).1), (p17, (gnorm a).1)] rfl (by first | (with_reducible exact OW.out) | exact ownsRow_ext OW.out (by (repeat (first | (with_reducible refine Ext.drew ?_) | (with_reducible refine Ext.alloc ?_ _))); exact Ext.refl _)) _ 2 _ rfl rfl (by intro j u hu; rw [add_plain0]; revert j u; show CellsAt _ [(p16, (gnorm a).1), (p17, (gnorm a).1)] _; first | (((try with_reducible refine CellsAt.drew ?_); first | ((with_reducible refine CellsAt.alloc ?_ _); (try with_reducible refine CellsAt.drew ?_); (with_reducible refine cellsAt_new' (by first | with_reducible rfl | (simp only [World.size_alloc, World.size_drew]; done)) ?_); (simp only [cellsF]; done)) | ((with_reducible refine cellsAt_new' (by first | with_reducible rfl | (simp only [World.size_alloc, World.size_drew]; done)) ?_); (simp only [cellsF]; done)))) | (refine CellsAt.ext ?_ X1.out; ((try with_reducible refine CellsAt.drew ?_); first | ((with_reducible refine CellsAt.alloc ?_ _); (try with_reducible refine CellsAt.drew ?_); (with_reducible refine cellsAt_new' (by first | with_reducible rfl | (simp only [World.size_alloc, World.size_drew]; done)) ?_); (simp only [cellsF]; done)) | ((with_reducible refine cellsAt_new' (by first | with_reducible rfl | (simp only [World.size_alloc, World.size_drew]; done)) ?_); (simp only [cellsF]; done))))) (by decide) (by decide) (by decide) (by have := K1.2; (try simp only [World.size_alloc, World.size_drew]); omega) ?_; intro g2 cap wc2 hown hgrow hat hlt; have OA := Lib.hid hown; have K2 : Skz z6 wc2 := Skz.grown (by (repeat (first | (with_reducible refine Skz.alloc ?_) | (with_reducible refine Skz.drew ?_))); exact K1) hgrow (ownsRow_ge OW.out); have X3 := Lib.hid (show Ext z6 wc2 from Ext.grown (by (repeat (first | (with_reducible refine Ext.drew ?_) | (with_reducible refine Ext.alloc ?_ _))); exact X2.out) hgrow (ownsRow_ge OW.out)); clear hown hgrow hat hlt)
            )
        all_goals
          go_wp2_with fail
          go_ret
          exact ⟨rfl, XE.out⟩

end Go.Proofs.YtifonmdcicegdaaGreat

/- Arguments that come in: words, fractions, lists of fractions. -/
namespace Go.Proofs.YtifonmdcicegdaaGreat
open Go.ChangeShapes Go.WideShapes Go.ChangeAt Go.RowKit Go.Joins Go.Deep
set_option linter.unusedVariables false

section
variable {H : Type} {enc : TypeId × Value → H} {P : Program} {w : World} {base : Nat} {spare : Nat → Bool} {held : Bool}
theorem open_slice_fields {t e : TypeId} {fs : Array Field} {fuel : Nat} {cs : List Value} {x : DataW H × List MemPlace} (ht : P.underlying t = some (.slice e)) (he : P.underlying e = some (.struct fs))
    (hone : oneCellFields P fs = true) (hC : P.cellsOf e = fs.size) (h : DataW.trod enc P w base spare held fuel t cs = some x) :
    (cs = [.slice none 0 0] ∧ x = (.nil, [])) ∨
    ∃ (a : Addr) (len cap m : Nat) (D : Nat → DataW H) (Pl : Nat → List MemPlace), cs = [.slice (some a) len cap] ∧ base ≤ a.block ∧ len ≤ cap ∧ cap ≤ maxLen ∧ m = (if spare a.block then cap else len) ∧
      x = (.slice ((List.range len).map D) ((List.range (m - len)).map fun j => D (len + j)), MemPlace.row a (m * fs.size) ++ (List.range m).flatMap Pl) ∧
      ∀ i, i < m → ∃ (ys : List (DataW H × List MemPlace)) (n : Nat), D i = .agg (ys.map (·.1)) ∧ Pl i = ys.flatMap (·.2) ∧ ys.length = fs.size ∧
        ∀ (j : Nat) (f : Field), fs[j]? = some f → ∃ (v : Value) (y : DataW H × List MemPlace), w.cell? (a.add (i * fs.size + j)) = some v ∧ ys[j]? = some y ∧ DataW.trod enc P w base spare held n f.type [v] = some y := by
  rcases open_slice ht h with h0 | ⟨a, len, cap, m, n, D, Pl, hcs, hb, hl, hm, hmm, hx, hi⟩
  · exact .inl h0
  · refine .inr ⟨a, len, cap, m, D, Pl, hcs, hb, hl, hm, hmm, by rw [hC] at hx; exact hx, fun i him => ?_⟩
    obtain ⟨cs', hc, ht'⟩ := hi i him
    rw [hC] at hc
    obtain ⟨ys, n', hn', hy, hlen, hyl, hf⟩ := DataW.trod_struct he ht'
    obtain ⟨_, hcl, hat⟩ := World.cells?_some hc
    simp only [Prod.mk.injEq] at hy
    refine ⟨ys, n', hy.1, hy.2, hyl, fun j f hj => ?_⟩
    obtain ⟨ho, hk⟩ := hone_of hone j f hj
    have hjl : j < fs.size := (Array.getElem?_eq_some_iff.1 hj).1
    have hcell := hat j hjl
    have hv : cs'[j]? = some (cs'[j]'(by omega)) := List.getElem?_eq_getElem (by omega)
    have h1 := hf j f hj
    rw [ho, hk] at h1
    have hone' : (cs'.drop j).take 1 = [cs'[j]'(by omega)] := by
      rw [List.drop_eq_getElem_cons (by omega)]
      rfl
    rw [hone'] at h1
    have hys : ys[j]? = some (ys[j]'(by omega)) := List.getElem?_eq_getElem (by omega)
    refine ⟨_, _, ?_, hys, h1.trans hys⟩
    rw [← Go.Deep.add_add, hcell, hv]
end

theorem mk_own : ownKnob Tryz.prog.godebug = none := by kernel_rfl
theorem mk_laidOut : laidOutB Tryz.prog = true := by kernel_rfl

/-- a slice of words that came in -/
theorem rd_in {H : Type} {enc : TypeId × Value → H} {W : World} {c : Value} {fuel : Nat} {y : DataW H × List MemPlace} (hf : DataW.trod enc Tryz.prog W 0 (fun _ => true) true fuel 22 [c] = some y) :
    ∃ (A : Option Addr) (l cap : Nat) (xs : List Int), c = .slice A l cap ∧ xs.length = l ∧ Rd W A cap xs ∧ Wf xs := by
  rcases open_ints Tryz.underlying22 Tryz.underlying144 (by kernel_rfl) hf with ⟨hcs, _⟩ | ⟨x, l, cap, zs, hcs, _, hl, hm, hz, _, hcell, hwz⟩
  · simp at hcs
    subst hcs
    exact ⟨none, 0, 0, [], rfl, rfl, Rd.nil W, wf_nil⟩
  · simp at hcs
    subst hcs
    simp at hz
    simp only [maxLen] at hm
    have hlen : (zs.take l).length = l := by rw [List.length_take]; omega
    refine ⟨some x, l, cap, zs.take l, rfl, hlen, ⟨by omega, by omega, (fun e => by cases e), fun j hj => ⟨x, rfl, ?_⟩⟩, ?_⟩
    · rw [hlen] at hj
      rw [nth_take _ _ _ hj]
      exact hcell j (by omega)
    · intro n hn
      have := bounds_u32 (hwz n (List.mem_of_mem_take hn))
      omega

/-- a slice of fractions that came in -/
theorem frs_in {H : Type} {enc : TypeId × Value → H} {W : World} {c : Value} {fuel : Nat} {y : DataW H × List MemPlace} (hf : DataW.trod enc Tryz.prog W 0 (fun _ => true) true fuel 26 [c] = some y) :
    ∃ (A : Option Addr) (l cap : Nat) (P : Nat → Option Addr) (C : Nat → Nat) (L : Nat → Fr), c = .slice A l cap ∧ FsA A l P C L W ∧ (∀ j, j < l → (L j).Wf) ∧ l ≤ 9223372036854775807 := by
  rcases open_slice_fields Tryz.underlying26 Tryz.underlying24 (by kernel_rfl) (by kernel_rfl) hf with ⟨hcs, _⟩ | ⟨x, l, cap, m, D, Pl, hcs, _, hl, hm, hmm, _, hi⟩
  · simp at hcs
    subst hcs
    exact ⟨none, 0, 0, fun _ => none, fun _ => 0, fun _ => Fr.zero, rfl, ⟨fun j hj => by omega, fun gr o e => by cases e⟩, fun j hj => by omega, by omega⟩
  · simp at hcs
    subst hcs
    simp only [if_true] at hmm
    subst hmm
    simp only [maxLen] at hm
    have each : ∀ j, j < l → ∃ z : Fr × (Option Addr × Nat) × (Option Addr × Nat), W.cell? (x.add (j * 3 + 0)) = some (.bool z.1.neg) ∧ W.cell? (x.add (j * 3 + 1)) = some (.slice z.2.1.1 z.1.num.length z.2.1.2) ∧ W.cell? (x.add (j * 3 + 2)) = some (.slice z.2.2.1 z.1.den.length z.2.2.2) ∧ Rd W z.2.1.1 z.2.1.2 z.1.num ∧ Rd W z.2.2.1 z.2.2.2 z.1.den ∧ z.1.Wf := by
      intro j hj
      obtain ⟨ys, n, _, _, _, hfld⟩ := hi j (by omega)
      obtain ⟨v0, y0, hc0, _, t0⟩ := hfld 0 _ rfl
      obtain ⟨v1, y1, hc1, _, t1⟩ := hfld 1 _ rfl
      obtain ⟨v2, y2, hc2, _, t2⟩ := hfld 2 _ rfl
      obtain ⟨s0, hs0, _⟩ := DataW.trod_bool Tryz.underlying4 t0
      obtain ⟨A0, l0, cap0, xs, e1, hl0, hR0, hw0⟩ := rd_in t1
      obtain ⟨A1, l1, cap1, ys', e2, hl1, hR1, hw1⟩ := rd_in t2
      simp at hs0
      subst hs0 e1 e2 hl0 hl1
      exact ⟨(⟨s0, xs, ys'⟩, (A0, cap0), (A1, cap1)), hc0, hc1, hc2, hR0, hR1, ⟨hw0, hw1⟩⟩
    haveI : Inhabited Fr := ⟨Fr.zero⟩
    obtain ⟨z, hz⟩ := choose_lt each
    have hsp : ∀ j, j < l → ∃ gr o, some x = some (⟨gr, o, none⟩ : Addr) := by
      intro j hj
      obtain ⟨h0, _⟩ := hz 0 (by omega)
      have e : x.add (0 * 3 + 0) = x := rfl
      rw [e] at h0
      obtain ⟨g, o, s⟩ := x
      cases s with
      | none => exact ⟨g, o, rfl⟩
      | some s =>
        exfalso
        unfold World.cell? at h0
        split at h0 <;> simp at h0
    refine ⟨some x, l, m, fun j => if j % 2 = 0 then (z (j / 2)).2.1.1 else (z (j / 2)).2.2.1, fun j => if j % 2 = 0 then (z (j / 2)).2.1.2 else (z (j / 2)).2.2.2, fun j => (z j).1, rfl, ⟨hsp, fun gr o e => ?_⟩, fun j hj => (hz j hj).2.2.2.2.2, by omega⟩
    cases e
    have e1 : ∀ j, (2 * j) % 2 = 0 := fun j => by omega
    have e2 : ∀ j, ¬ (2 * j + 1) % 2 = 0 := fun j => by omega
    have e3 : ∀ j, 2 * j / 2 = j := fun j => by omega
    have e4 : ∀ j, (2 * j + 1) / 2 = j := fun j => by omega
    refine ⟨fun j hj => ?_, fun j hj => ?_, fun j hj => ?_, fun j hj => ?_, fun j hj => ?_⟩
    · have := (hz j hj).1; rw [add_plain] at this; exact this
    · have := (hz j hj).2.1; rw [add_plain] at this; simp only [e1, e3, if_true]; exact this
    · have := (hz j hj).2.2.1; rw [add_plain] at this; simp only [e2, e4, if_false]; exact this
    · have := (hz j hj).2.2.2.1; simp only [e1, e3, if_true]; exact this
    · have := (hz j hj).2.2.2.2.1; simp only [e2, e4, if_false]; exact this

set_option maxRecDepth 100000 in
/-- a fraction that came in by value -/
theorem fr_in {H : Type} {enc : TypeId × Value → H} {W : World} {b0 : Nat} {v : Value} {d : DataW H} {p : List MemPlace} (hv : Value.okWide Tryz.prog W .any b0 24 v) (h : DataW.Trod enc Tryz.prog W 0 (fun _ => true) true 24 v d p) :
    ∃ (f : Fr) (A : Option Addr) (c : Nat) (B : Option Addr) (e : Nat), v = .agg #[.bool f.neg, .slice A f.num.length c, .slice B f.den.length e] ∧ Rd W A c f.num ∧ Rd W B e f.den ∧ f.Wf := by
  obtain ⟨b0, c0, c1, y0, z0, z1, m0, hv0, _, _, e0, g0, g1⟩ := open_agg3 Tryz.underlying24 (by kernel_rfl) (by kernel_rfl) hv h
  obtain ⟨s0, hs0, _⟩ := DataW.trod_bool Tryz.underlying4 e0
  obtain ⟨A0, l0, cap0, xs, hc0, hl0, hR0, hw0⟩ := rd_in g0
  obtain ⟨A1, l1, cap1, ys, hc1, hl1, hR1, hw1⟩ := rd_in g1
  simp at hs0
  subst hs0 hc0 hc1 hv0 hl0 hl1
  exact ⟨⟨s0, xs, ys⟩, A0, cap0, A1, cap1, rfl, hR0, hR1, ⟨hw0, hw1⟩⟩

end Go.Proofs.YtifonmdcicegdaaGreat

/- An api.Gauss that came in by value. -/
namespace Go.Proofs.YtifonmdcicegdaaGreat
open Go Go.RowKit Go.ChangeShapes Go.WideShapes Go.ChangeAt Go.Joins Go.Deep

theorem array6' {α : Type} {cs : Array α} (h : cs.size = 6) : ∃ c0 c1 c2 c3 c4 c5, cs = #[c0, c1, c2, c3, c4, c5] := by
  obtain ⟨l⟩ := cs
  match l, h with
  | [c0, c1, c2, c3, c4, c5], _ => exact ⟨c0, c1, c2, c3, c4, c5, rfl⟩
set_option maxRecDepth 100000 in
theorem fr_cells {H : Type} {enc : TypeId × Value → H} {W : World} {n : Nat} {x0 x1 x2 : Value} {y : DataW H × List MemPlace} (h : DataW.trod enc Tryz.prog W 0 (fun _ => true) true n 24 [x0, x1, x2] = some y) :
    ∃ (f : Fr) (p : Adr), x0 = .bool f.neg ∧ x1 = .slice p.A f.num.length p.c ∧ x2 = .slice p.B f.den.length p.d ∧ RF W p f := by
  obtain ⟨y0, y1, y2, m, _, _, e0, g0, g1⟩ := trod_struct3 Tryz.underlying24 h
  have e9 : DataW.trod enc Tryz.prog W 0 (fun _ => true) true m 4 [x0] = some y0 := e0
  obtain ⟨s0, hs0, _⟩ := DataW.trod_bool Tryz.underlying4 e9
  clear e0 e9
  obtain ⟨A0, l0, cap0, xs, hc0, hl0, hR0, hw0⟩ := rd_in g0
  obtain ⟨A1, l1, cap1, ys, hc1, hl1, hR1, hw1⟩ := rd_in g1
  simp at hs0
  subst hs0 hc0 hc1 hl0 hl1
  exact ⟨⟨s0, xs, ys⟩, ⟨A0, cap0, A1, cap1⟩, rfl, rfl, rfl, ⟨hR0, hR1, ⟨hw0, hw1⟩⟩⟩
set_option maxRecDepth 100000 in
theorem ga_in {H : Type} {enc : TypeId × Value → H} {W : World} {b0 : Nat} {v : Value} {d : DataW H} {ps : List MemPlace} (hv : Value.okWide Tryz.prog W .any b0 46 v) (h : DataW.Trod enc Tryz.prog W 0 (fun _ => true) true 46 v d ps) :
    ∃ (a : Ga) (p q : Adr), v = .agg #[.bool a.re.neg, .slice p.A a.re.num.length p.c, .slice p.B a.re.den.length p.d, .bool a.im.neg, .slice q.A a.im.num.length q.c, .slice q.B a.im.den.length q.d] ∧ RG W p q a := by
  obtain ⟨cs, rfl, hsz⟩ := okWide_struct Tryz.underlying46 hv
  obtain ⟨c0, c1, c2, c3, c4, c5, rfl⟩ := array6' (hsz.trans (by kernel_rfl))
  obtain ⟨fuel, hf⟩ := h
  obtain ⟨y0, y1, n, _, _, h0, h1⟩ := trod_struct2 Tryz.underlying46 hf
  obtain ⟨f, p, rfl, rfl, rfl, hp⟩ := fr_cells (x0 := c0) (x1 := c1) (x2 := c2) h0
  obtain ⟨g, q, rfl, rfl, rfl, hq⟩ := fr_cells (x0 := c3) (x1 := c4) (x2 := c5) h1
  exact ⟨⟨f, g⟩, p, q, rfl, ⟨hp, hq⟩⟩

end Go.Proofs.YtifonmdcicegdaaGreat

