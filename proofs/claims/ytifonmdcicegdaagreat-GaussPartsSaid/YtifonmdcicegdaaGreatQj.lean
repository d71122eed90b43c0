/- Texts of this claim, joined: U6 U7 U8 U9 G1. -/
import Derived.Test.YtifonmdcicegdaaGreatQi
/- gauss: product, norm. -/
namespace Go.Proofs.YtifonmdcicegdaaGreat
open Go Go.RowKit

/-- both parts are made, and the way's error -/
def ProdP (gw : Nat) (w : World) (t : Fr × Fr × Int) (e : Ending) (w' : World) : Prop :=
  ∃ p q : Adr, e = .returned (.tuple #[.agg #[.bool t.1.neg, .slice p.A t.1.num.length p.c, .slice p.B t.1.den.length p.d], .agg #[.bool t.2.1.neg, .slice q.A t.2.1.num.length q.c, .slice q.B t.2.1.den.length q.d]]) ∧ OF w' w.heap.size p t.1 ∧ OF w' w.heap.size q t.2.1 ∧ p.Dis q ∧ w.grownBy w' (some gw) ∧ Way gw t.2.2 w'

theorem ProdP.mk {wb w w' : World} {gw i j : Nat} {V : List (Nat × List Value)} {R : List (Adr × Fr)} {t : Fr × Fr × Int} {p q : Adr} (S : Sta wb w (some gw) V R w') (hv : V[0]? = some (gw, [.int .i64 t.2.2])) (hi : R[i]? = some (p, t.1)) (hj : R[j]? = some (q, t.2.1)) (hij : i < j) :
    ProdP gw w t (.returned (.tuple #[.agg #[.bool t.1.neg, .slice p.A t.1.num.length p.c, .slice p.B t.1.den.length p.d], .agg #[.bool t.2.1.neg, .slice q.A t.2.1.num.length q.c, .slice q.B t.2.1.den.length q.d]])) w' :=
  ⟨p, q, rfl, S.r i _ _ hi, S.r j _ _ hj, S.rd i j _ _ _ _ hij hi hj, S.g, S.way 0 hv⟩
theorem WayF.mk {wb w w' : World} {gw i : Nat} {V : List (Nat × List Value)} {R : List (Adr × Fr)} {t : Fr × Int} {p : Adr} (S : Sta wb w (some gw) V R w') (hv : V[0]? = some (gw, [.int .i64 t.2])) (hi : R[i]? = some (p, t.1)) :
    WayF gw w t (.returned (.agg #[.bool t.1.neg, .slice p.A t.1.num.length p.c, .slice p.B t.1.den.length p.d])) w' :=
  ⟨p, rfl, S.r i _ _ hi, S.g, S.way 0 hv⟩

set_option maxRecDepth 8000 in
set_option maxHeartbeats 4000000 in
theorem prod_any (gw : Nat) (e0 : Int) (a b : Ga) (p q r s : Adr) (w : World) (hw : Way gw e0 w) (ha : KG gw w p q a) (hb : KG gw w r s b) :
    Calls Tryz.prog 174 #[.pointer (some ⟨gw, 0, none⟩), .agg #[.bool a.re.neg, .slice p.A a.re.num.length p.c, .slice p.B a.re.den.length p.d, .bool a.im.neg, .slice q.A a.im.num.length q.c, .slice q.B a.im.den.length q.d], .agg #[.bool b.re.neg, .slice r.A b.re.num.length r.c, .slice r.B b.re.den.length r.d, .bool b.im.neg, .slice s.A b.im.num.length s.c, .slice s.B b.im.den.length s.d]] w (ProdP gw w (wprod e0 a b)) := by
  go_enter Tryz.func174, Tryz.ntmps174
  go_upto_region 1 with fail
  go_name_world W0 hW
  have S0 : Sta (bare w) w (some gw) _ _ W0 := hW ▸ ((((Sta.startw hw).new _ _).new _ _).new _ _).new _ _
  clear hW
  simp only [World.size_alloc, List.nil_append, List.cons_append] at S0
  have C1 := S0.c6 1 rfl
  have C2 := S0.c6 2 rfl
  go_wp2_with fail
  obtain ⟨t1, ht1⟩ : ∃ t, t = wmul e0 a.re b.re := ⟨_, rfl⟩
  have Ht1 := Lib.hid ht1
  clear ht1
  refine (wMulT Ht1.out (S0.way 0 rfl) (ha _ S0.g).re (hb _ S0.g).re).mono ?_; rintro e w1 ⟨p1, rfl, o1, g1, y1⟩
  have S1 := S0.step 0 rfl g1 y1 o1
  clear g1 y1 o1
  clear C1 C2
  go_upto_region 2 with fail
  go_name_world W2 hW
  have S2 : Sta (bare w) w (some gw) _ _ W2 := hW ▸ S1.new _ _
  clear hW
  have C1 := S2.c6 1 rfl
  have C2 := S2.c6 2 rfl
  go_wp2_with fail
  obtain ⟨t2, ht2⟩ : ∃ t, t = wmul t1.2 a.im b.im := ⟨_, rfl⟩
  have Ht2 := Lib.hid ht2
  clear ht2
  refine (wMulT Ht2.out (S2.way 0 rfl) (ha _ S2.g).im (hb _ S2.g).im).mono ?_; rintro e w3 ⟨p2, rfl, o1, g1, y1⟩
  have S3 := S2.step 0 rfl g1 y1 o1
  clear g1 y1 o1
  clear C1 C2
  go_upto_region 3 with fail
  go_name_world W4 hW
  have S4 : Sta (bare w) w (some gw) _ _ W4 := hW ▸ S3.new _ _
  clear hW
  have C5 := S4.c3 5 rfl
  have C6 := S4.c3 6 rfl
  go_wp2_with fail
  obtain ⟨t3, ht3⟩ : ∃ t, t = wsub t2.2 t1.1 t2.1 := ⟨_, rfl⟩
  have Ht3 := Lib.hid ht3
  clear ht3
  refine (wSubT Ht3.out (S4.way 0 rfl) (S4.rf 0 rfl) (S4.rf 1 rfl)).mono ?_; rintro e w5 ⟨p3, rfl, o1, g1, y1⟩
  have S5 := S4.step 0 rfl g1 y1 o1
  clear g1 y1 o1
  clear C5 C6
  have Z := S5.c3 3 rfl
  have ZF := S5.f3 3 rfl
  go_upto_region 4 with fail
  go_name_world W6 hW
  have S6 : Sta (bare w) w (some gw) _ _ W6 := hW ▸ S5.set3 (i := 3) rfl
  clear hW
  clear Z ZF
  have C1 := S6.c6 1 rfl
  have C2 := S6.c6 2 rfl
  go_wp2_with fail
  obtain ⟨t4, ht4⟩ : ∃ t, t = wmul t3.2 a.re b.im := ⟨_, rfl⟩
  have Ht4 := Lib.hid ht4
  clear ht4
  refine (wMulT Ht4.out (S6.way 0 rfl) (ha _ S6.g).re (hb _ S6.g).im).mono ?_; rintro e w7 ⟨p4, rfl, o1, g1, y1⟩
  have S7 := S6.step 0 rfl g1 y1 o1
  clear g1 y1 o1
  clear C1 C2
  have Z := S7.c3 5 rfl
  have ZF := S7.f3 5 rfl
  go_upto_region 5 with fail
  go_name_world W8 hW
  have S8 : Sta (bare w) w (some gw) _ _ W8 := hW ▸ S7.set3 (i := 5) rfl
  clear hW
  clear Z ZF
  have C1 := S8.c6 1 rfl
  have C2 := S8.c6 2 rfl
  go_wp2_with fail
  obtain ⟨t5, ht5⟩ : ∃ t, t = wmul t4.2 a.im b.re := ⟨_, rfl⟩
  have Ht5 := Lib.hid ht5
  clear ht5
  refine (wMulT Ht5.out (S8.way 0 rfl) (ha _ S8.g).im (hb _ S8.g).re).mono ?_; rintro e w9 ⟨p5, rfl, o1, g1, y1⟩
  have S9 := S8.step 0 rfl g1 y1 o1
  clear g1 y1 o1
  clear C1 C2
  have Z := S9.c3 6 rfl
  have ZF := S9.f3 6 rfl
  go_upto_region 6 with fail
  go_name_world Wa hW
  have Sa : Sta (bare w) w (some gw) _ _ Wa := hW ▸ S9.set3 (i := 6) rfl
  clear hW
  clear Z ZF
  obtain ⟨t6, ht6⟩ : ∃ t, t = wadd t5.2 t4.1 t5.1 := ⟨_, rfl⟩
  have Ht6 := Lib.hid ht6
  clear ht6
  have HT := Lib.hid (show wprod e0 a b = (t3.1, t6.1, t6.2) by rw [Ht6.out, Ht5.out, Ht4.out, Ht3.out, Ht2.out, Ht1.out]; rfl)
  have C3 := Sa.c3 3 rfl
  have C5 := Sa.c3 5 rfl
  have C6 := Sa.c3 6 rfl
  have q3 := (Sa.v 3 _ _ rfl).lt
  have n3 := Sa.ne 3 0 rfl rfl (by decide)
  have m3 := Sa.ne 3 4 rfl rfl (by decide)
  have q5 := (Sa.v 5 _ _ rfl).lt
  have n5 := Sa.ne 5 0 rfl rfl (by decide)
  have m5 := Sa.ne 5 4 rfl rfl (by decide)
  have q6 := (Sa.v 6 _ _ rfl).lt
  have n6 := Sa.ne 6 0 rfl rfl (by decide)
  have m6 := Sa.ne 6 4 rfl rfl (by decide)
  have SD := Sa.drew
  have HA2 := Lib.hid (wAddT Ht6.out (SD.way 0 rfl) (SD.rf 3 rfl) (SD.rf 4 rfl))
  obtain ⟨k4, hk4⟩ : ∃ k, k = w.heap.size + 1 + 1 + 1 := ⟨_, rfl⟩
  rw [← hk4] at Sa SD m3 m5 m6
  try rw [← hk4]
  have HK := Lib.hid hk4
  clear hk4
  go_region_held3 (Sk Wa Wa.heap.size gw k4) ((first | (with_reducible exact Sk.drew (Sk.refl _ _ _ _)) | (with_reducible exact K1) | (with_reducible exact K2) | ((repeat (with_reducible refine Sk.set ?_)); (with_reducible exact K2))))
    ((go_at_call 166; ((with_reducible refine HA2.out.mono ?_)); rintro e w3 ⟨p6, rfl, o3, g3, y3⟩; have Sb := SD.step 0 rfl g3 y3 o3; have K1 := Sk.by1 (Sk.drew (Sk.refl Wa Wa.heap.size gw k4)) g3 (Nat.le_refl _); have K2 := Sk.same3 K1 (Sb.v 3 _ _ rfl); have Z := Sb.c3 3 rfl; have ZF := Sb.f3 3 rfl; have Y := Sb.c3 4 rfl; have YF := Sb.f3 4 rfl; clear g3 y3 o3))
  clear C3 C5 C6 K1 K2
  go_wp2_with fail
  rw [HT.out]
  exact bodyPost_ret (v := .tuple #[.agg #[.bool t3.1.neg, .slice p3.A t3.1.num.length p3.c, .slice p3.B t3.1.den.length p3.d], .agg #[.bool t6.1.neg, .slice p6.A t6.1.num.length p6.c, .slice p6.B t6.1.den.length p6.d]]) (by simp [results, Tryz.results174, go_sem, Z, Y]) rfl (ProdP.mk (t := (t3.1, t6.1, t6.2)) (i := 2) (j := 5) ((Sb.set3 (i := 3) rfl).set3 (i := 4) rfl) rfl rfl rfl (by decide))

set_option maxRecDepth 8000 in
set_option maxHeartbeats 4000000 in
theorem norm_any (gw : Nat) (e0 : Int) (a : Ga) (p q : Adr) (w : World) (hw : Way gw e0 w) (ha : KG gw w p q a) :
    Calls Tryz.prog 169 #[.pointer (some ⟨gw, 0, none⟩), .agg #[.bool a.re.neg, .slice p.A a.re.num.length p.c, .slice p.B a.re.den.length p.d, .bool a.im.neg, .slice q.A a.im.num.length q.c, .slice q.B a.im.den.length q.d]] w (WayF gw w (wnorm e0 a)) := by
  go_enter Tryz.func169, Tryz.ntmps169
  go_upto_region 1 with fail
  go_name_world W0 hW
  have S0 : Sta (bare w) w (some gw) _ _ W0 := hW ▸ ((Sta.startw hw).new _ _).new _ _
  clear hW
  simp only [World.size_alloc, List.nil_append, List.cons_append] at S0
  have C1 := S0.c6 1 rfl
  go_wp2_with fail
  obtain ⟨t1, ht1⟩ : ∃ t, t = wmul e0 a.re a.re := ⟨_, rfl⟩
  have Ht1 := Lib.hid ht1
  clear ht1
  refine (wMulT Ht1.out (S0.way 0 rfl) (ha _ S0.g).re (ha _ S0.g).re).mono ?_; rintro e w1 ⟨p1, rfl, o1, g1, y1⟩
  have S1 := S0.step 0 rfl g1 y1 o1
  clear g1 y1 o1
  clear C1
  go_upto_region 2 with fail
  go_name_world W2 hW
  have S2 : Sta (bare w) w (some gw) _ _ W2 := hW ▸ S1.new _ _
  clear hW
  have C1 := S2.c6 1 rfl
  go_wp2_with fail
  obtain ⟨t2, ht2⟩ : ∃ t, t = wmul t1.2 a.im a.im := ⟨_, rfl⟩
  have Ht2 := Lib.hid ht2
  clear ht2
  refine (wMulT Ht2.out (S2.way 0 rfl) (ha _ S2.g).im (ha _ S2.g).im).mono ?_; rintro e w3 ⟨p2, rfl, o1, g1, y1⟩
  have S3 := S2.step 0 rfl g1 y1 o1
  clear g1 y1 o1
  clear C1
  go_upto_region 3 with fail
  go_name_world W4 hW
  have S4 : Sta (bare w) w (some gw) _ _ W4 := hW ▸ S3.new _ _
  clear hW
  have C3 := S4.c3 3 rfl
  have C4 := S4.c3 4 rfl
  go_wp2_with fail
  obtain ⟨t3, ht3⟩ : ∃ t, t = wadd t2.2 t1.1 t2.1 := ⟨_, rfl⟩
  have Ht3 := Lib.hid ht3
  clear ht3
  refine (wAddT Ht3.out (S4.way 0 rfl) (S4.rf 0 rfl) (S4.rf 1 rfl)).mono ?_; rintro e w5 ⟨p3, rfl, o1, g1, y1⟩
  have S5 := S4.step 0 rfl g1 y1 o1
  clear g1 y1 o1
  clear C3 C4
  have Z := S5.c3 2 rfl
  have ZF := S5.f3 2 rfl
  go_wp2_with fail
  have HT := Lib.hid (show wnorm e0 a = t3 by rw [Ht3.out, Ht2.out, Ht1.out]; rfl)
  rw [HT.out]
  exact bodyPost_ret (v := .agg #[.bool t3.1.neg, .slice p3.A t3.1.num.length p3.c, .slice p3.B t3.1.den.length p3.d]) (by simp [results, Tryz.results169, go_sem, Z]) rfl (WayF.mk (i := 2) (S5.set3 (i := 2) rfl) rfl rfl)

end Go.Proofs.YtifonmdcicegdaaGreat

/- gauss.Mul, turned, Scale. -/
namespace Go.Proofs.YtifonmdcicegdaaGreat
open Go Go.RowKit

set_option maxRecDepth 8000 in
set_option maxHeartbeats 4000000 in
theorem ga_Mul (a b : Ga) (p q r s : Adr) (w : World) (ha : RG w p q a) (hb : RG w r s b) :
    Calls Tryz.prog 63 #[.agg #[.bool a.re.neg, .slice p.A a.re.num.length p.c, .slice p.B a.re.den.length p.d, .bool a.im.neg, .slice q.A a.im.num.length q.c, .slice q.B a.im.den.length q.d], .agg #[.bool b.re.neg, .slice r.A b.re.num.length r.c, .slice r.B b.re.den.length r.d, .bool b.im.neg, .slice s.A b.im.num.length s.c, .slice s.B b.im.den.length s.d]] w (TG w (gmul a b)) := by
  go_enter Tryz.func63, Tryz.ntmps63
  go_upto_region 1 with fail
  go_name_world W0 hW
  have S0 : Sta w w none _ _ W0 := hW ▸ (((Sta.start w).new _ _).new _ _).new _ _
  clear hW
  simp only [World.size_alloc, List.nil_append, List.cons_append] at S0
  have C0 := S0.c6 0 rfl
  have C1 := S0.c6 1 rfl
  go_wp2_with fail
  refine (asked2 _ a b p q r s _ (Var.new W0 _ _) (ha.ext (Ext.alloc S0.x _)) (hb.ext (Ext.alloc S0.x _))).mono ?_; rintro e w1 ⟨gw, rfl, hge, y1, x1⟩
  have S1 := S0.anon.made x1 hge y1
  clear hge y1 x1
  clear C0 C1
  have C0 := S1.c6 0 rfl
  have C1 := S1.c6 1 rfl
  go_wp2_with fail
  obtain ⟨t1, ht1⟩ : ∃ t, t = wprod (gchk2 a b) a b := ⟨_, rfl⟩
  have Ht1 := Lib.hid ht1
  clear ht1
  have HT := Lib.hid (show gmul a b = gtell t1.2.2 t1.1 t1.2.1 by rw [Ht1.out]; rfl)
  refine (Ht1.out ▸ prod_any gw _ a b p q r s w1 (S1.way 3 rfl) (KG.of S1.x (S1.vw 3 _ _ rfl) ha) (KG.of S1.x (S1.vw 3 _ _ rfl) hb) : Calls _ _ _ _ (ProdP gw w1 t1)).mono ?_; rintro e w2 ⟨p1, p2, rfl, o1, o2, dd, g1, y1⟩
  have S2 := S1.step2 3 rfl g1 y1 o1 o2 dd
  clear g1 y1 o1 o2 dd
  clear C0 C1
  go_upto_region 3 with fail
  go_name_world W3 hW
  have S3 : Sta w w none _ _ W3 := hW ▸ (S2.new _ _).new _ _
  clear hW
  simp only [World.size_alloc] at S3
  have C4 := S3.c3 4 rfl
  have C5 := S3.c3 5 rfl
  go_wp2_with fail
  refine (told_of gw _ t1.1 t1.2.1 p1 p2 _ W3 (S3.way 3 rfl) (S3.r 0 _ _ rfl) (S3.r 1 _ _ rfl) (S3.rd 0 1 _ _ _ _ (by decide) rfl rfl)).mono ?_; rintro e w9 ⟨p5, p6, rfl, o6, f6, x4⟩
  have S9 := S3.ext x4
  clear x4
  clear C4 C5
  have Z := S9.c6 2 rfl
  have ZF := S9.f6 2 rfl
  go_wp2_with fail
  rw [HT.out]
  exact bodyPost_ret (v := tgv _ p5 p6) (by simp [results, Tryz.results63, go_sem, tgv, Z]) rfl (TG.mk6 S9.below o6 (f6 _ (S9.ro 0 _ _ 2 _ _ rfl rfl) (S9.ro 1 _ _ 2 _ _ rfl rfl)) (by omega))

set_option maxRecDepth 8000 in
set_option maxHeartbeats 4000000 in
theorem gturned_any (a : Ga) (p q : Adr) (w : World) (ha : RG w p q a) :
    Calls Tryz.prog 175 #[.agg #[.bool a.re.neg, .slice p.A a.re.num.length p.c, .slice p.B a.re.den.length p.d, .bool a.im.neg, .slice q.A a.im.num.length q.c, .slice q.B a.im.den.length q.d]] w fun e w' => ∃ p1 : Adr, e = .returned (.agg #[.bool a.re.neg, .slice p.A a.re.num.length p.c, .slice p.B a.re.den.length p.d, .bool (fneg a.im).1.neg, .slice p1.A (fneg a.im).1.num.length p1.c, .slice p1.B (fneg a.im).1.den.length p1.d]) ∧ OF w' w.heap.size p1 (fneg a.im).1 ∧ Below w.heap.size w w' := by
  go_enter Tryz.func175, Tryz.ntmps175
  go_upto_region 1 with fail
  go_name_world W0 hW
  have S0 : Sta w w none _ _ W0 := hW ▸ ((Sta.start w).new _ _).new _ _
  clear hW
  simp only [World.size_alloc, List.nil_append, List.cons_append] at S0
  have C0 := S0.c6 0 rfl
  go_wp2_with fail
  obtain ⟨t1, ht1⟩ : ∃ t, t = fneg a.im := ⟨_, rfl⟩
  have Ht1 := Lib.hid ht1
  clear ht1
  refine (Ht1.out ▸ rNeg a.im q W0 (ha.im.ext S0.x) : Calls _ _ _ _ (TF W0 t1)).mono ?_; rintro e w1 ⟨p1, rfl, o1, x1⟩
  have S1 := S0.call x1 o1
  clear o1 x1
  clear C0
  go_upto_region 2 with fail
  go_name_world W2 hW
  have S2 : Sta w w none _ _ W2 := hW ▸ S1.new _ _
  clear hW
  have C0 := S2.c6 0 rfl
  have C2 := S2.c3 2 rfl
  have Z := S2.c6 1 rfl
  have ZF := S2.f6 1 rfl
  go_wp2_with fail
  rw [← Ht1.out]
  exact bodyPost_ret (v := .agg #[.bool a.re.neg, .slice p.A a.re.num.length p.c, .slice p.B a.re.den.length p.d, .bool t1.1.neg, .slice p1.A t1.1.num.length p1.c, .slice p1.B t1.1.den.length p1.d]) (by simp [results, Tryz.results175, go_sem, Z]) rfl ⟨p1, rfl, (S2.set6 (i := 1) rfl).r 0 _ _ rfl, (S2.set6 (i := 1) rfl).below⟩

theorem chkL3 (e : Int) (a b c : Fr) : chkL e (fun j => if j = 0 then a else if j = 1 then b else c) 3 = if e ≠ 0 then e else if fchk a ≠ 0 then fchk a else fchk2 b c := by
  show (if (if (if e ≠ 0 then e else fchk a) ≠ 0 then (if e ≠ 0 then e else fchk a) else fchk b) ≠ 0 then (if (if e ≠ 0 then e else fchk a) ≠ 0 then (if e ≠ 0 then e else fchk a) else fchk b) else fchk c) = _
  unfold fchk2
  by_cases h : e ≠ 0
  · simp [h]
  · by_cases h1 : fchk a ≠ 0
    · simp [h, h1]
    · simp [h, h1]

set_option maxRecDepth 8000 in
set_option maxHeartbeats 4000000 in
theorem ga_Scale (c : Fr) (a : Ga) (r p q : Adr) (w : World) (hc : RF w r c) (ha : RG w p q a) :
    Calls Tryz.prog 67 #[.agg #[.bool c.neg, .slice r.A c.num.length r.c, .slice r.B c.den.length r.d], .agg #[.bool a.re.neg, .slice p.A a.re.num.length p.c, .slice p.B a.re.den.length p.d, .bool a.im.neg, .slice q.A a.im.num.length q.c, .slice q.B a.im.den.length q.d]] w (TG w (gscale c a)) := by
  go_enter Tryz.func67, Tryz.ntmps67
  go_upto_region 2 with fail
  go_name_world W0 hW
  have S0 : Sta w w none _ _ W0 := hW ▸ ((((Sta.start w).new _ _).new _ _).new _ _).new _ _
  clear hW
  simp only [World.size_alloc, List.nil_append, List.cons_append] at S0
  have C0 := S0.c3 0 rfl
  have C1 := S0.c6 1 rfl
  go_wp2_with fail
  refine (gwcheck_any _ 0 _ 3 (fun j => if j = 0 then r else if j = 1 then p else q) (fun j => if j = 0 then c else if j = 1 then a.re else a.im) w _ ((S0.way 3 rfl).ext (Ext.alloc (Ext.refl W0) _)) ?hv ?hr (Ext.alloc S0.x _) (by omega) ?hg (S0.vw 3 _ _ rfl)).mono ?_
  case hv =>
    have v := Var.new W0 [.bool c.neg, .slice r.A c.num.length r.c, .slice r.B c.den.length r.d, .bool a.re.neg, .slice p.A a.re.num.length p.c, .slice p.B a.re.den.length p.d, .bool a.im.neg, .slice q.A a.im.num.length q.c, .slice q.B a.im.den.length q.d] 24
    intro j hj
    match j, hj with
    | 0, _ => exact ⟨v.at_ 0 _ rfl, v.at_ 1 _ rfl, v.at_ 2 _ rfl⟩
    | 1, _ => exact ⟨v.at_ 3 _ rfl, v.at_ 4 _ rfl, v.at_ 5 _ rfl⟩
    | 2, _ => exact ⟨v.at_ 6 _ rfl, v.at_ 7 _ rfl, v.at_ 8 _ rfl⟩
  case hr =>
    intro j hj
    match j, hj with
    | 0, _ => exact hc
    | 1, _ => exact ha.re
    | 2, _ => exact ha.im
  case hg => exact Nat.ne_of_gt (S0.v 3 _ _ rfl).lt
  rintro e w1 ⟨rfl, g1, y1⟩
  rw [chkL3] at y1
  obtain ⟨e0, he0⟩ : ∃ e0, e0 = (if fchk c ≠ 0 then fchk c else gchk a) := ⟨_, rfl⟩
  have S1 := S0.anon.row1 (i := 3) rfl g1 (Way.var (show Way _ e0 w1 by rw [he0]; exact y1))
  have He0 := Lib.hid he0
  clear g1 y1 he0
  obtain ⟨gw, hgw⟩ : ∃ gw, gw = w.heap.size + 1 + 1 + 1 := ⟨_, rfl⟩
  rw [← hgw] at S1
  try rw [← hgw]
  have HGW := Lib.hid hgw
  clear hgw
  clear C0 C1
  have C0 := S1.c3 0 rfl
  have C1 := S1.c6 1 rfl
  go_wp2_with fail
  obtain ⟨t1, ht1⟩ : ∃ t, t = wmul e0 c a.re := ⟨_, rfl⟩
  have Ht1 := Lib.hid ht1
  clear ht1
  refine (wMulT Ht1.out (S1.way 3 rfl) (hc.ext S1.x) (ha.re.ext S1.x)).mono ?_; rintro e w2 ⟨p1, rfl, o1, g1, y1⟩
  have S2 := S1.step 3 rfl g1 y1 o1
  clear g1 y1 o1
  clear C0 C1
  go_upto_region 4 with fail
  go_name_world W3 hW
  have S3 : Sta w w none _ _ W3 := hW ▸ S2.new _ _
  clear hW
  obtain ⟨t2, ht2⟩ : ∃ t, t = wmul t1.2 c a.im := ⟨_, rfl⟩
  have Ht2 := Lib.hid ht2
  clear ht2
  have HT := Lib.hid (show gscale c a = gtell t2.2 t1.1 t2.1 by rw [Ht2.out, Ht1.out, He0.out]; rfl)
  have C0 := S3.c3 0 rfl
  have C1 := S3.c6 1 rfl
  have C4 := S3.c3 4 rfl
  have q0 := (S3.v 0 _ _ rfl).lt
  have n0 := S3.ne 0 3 rfl rfl (by decide)
  have m0 := S3.ne 0 2 rfl rfl (by decide)
  have q1 := (S3.v 1 _ _ rfl).lt
  have n1 := S3.ne 1 3 rfl rfl (by decide)
  have m1 := S3.ne 1 2 rfl rfl (by decide)
  have q4 := (S3.v 4 _ _ rfl).lt
  have n4 := S3.ne 4 3 rfl rfl (by decide)
  have m4 := S3.ne 4 2 rfl rfl (by decide)
  have SD := S3.drew
  have HA2 := Lib.hid (wMulT Ht2.out (SD.way 3 rfl) (hc.ext SD.x) (ha.im.ext SD.x))
  go_region_held3 (Sk W3 W3.heap.size gw (w.heap.size + 1 + 1)) ((first | (with_reducible exact Sk.drew (Sk.refl _ _ _ _)) | (with_reducible exact K1) | (with_reducible exact K2) | (with_reducible exact K3) | ((repeat (with_reducible refine Sk.set ?_)); (with_reducible assumption))))
    (first
      | (go_at_call 178; ((with_reducible refine HA2.out.mono ?_)); rintro e w3 ⟨p3, rfl, o3, g3, y3⟩; have S4 := SD.step 3 rfl g3 y3 o3; have z3 : W3.heap.size ≤ w3.heap.size := g3.size; have K1 := Sk.by1 (Sk.drew (Sk.refl W3 W3.heap.size gw (w.heap.size + 1 + 1))) g3 (Nat.le_refl _); have HT2 := Lib.hid (told_of gw _ t1.1 _ p1 p3 _ w3 (S4.way 3 rfl) (S4.r 0 _ _ rfl) (S4.r 1 _ _ rfl) (S4.rd 0 1 _ _ _ _ (by decide) rfl rfl)); clear g3 y3 o3)
      | (go_at_call 167; ((with_reducible refine HT2.out.mono ?_)); rintro e w4 ⟨p5, p6, rfl, o6, f6, x4⟩; have S9 := S4.ext x4; have K2 := Sk.ext K1 x4 z3; have Z := S9.c6 2 rfl; have ZF := S9.f6 2 rfl; clear x4))
  clear C0 C1 C4
  clear K1 K2
  go_wp2_with fail
  rw [HT.out]
  exact bodyPost_ret (v := tgv _ p5 p6) (by simp [results, Tryz.results67, go_sem, tgv, Z]) rfl (TG.mk6 S9.below o6 (f6 _ (S9.ro 0 _ _ 2 _ _ rfl rfl) (S9.ro 1 _ _ 2 _ _ rfl rfl)) (by omega))

end Go.Proofs.YtifonmdcicegdaaGreat

/- gauss.Neg, Conj, Norm, Int. -/
namespace Go.Proofs.YtifonmdcicegdaaGreat
open Go Go.RowKit

set_option maxRecDepth 8000 in
set_option maxHeartbeats 4000000 in
theorem ga_Neg (a : Ga) (p q : Adr) (w : World) (ha : RG w p q a) :
    Calls Tryz.prog 48 #[.agg #[.bool a.re.neg, .slice p.A a.re.num.length p.c, .slice p.B a.re.den.length p.d, .bool a.im.neg, .slice q.A a.im.num.length q.c, .slice q.B a.im.den.length q.d]] w (TG w (gneg a)) := by
  go_enter Tryz.func48, Tryz.ntmps48
  go_upto_region 1 with fail
  go_name_world W0 hW
  have S0 : Sta w w none _ _ W0 := hW ▸ ((Sta.start w).new _ _).new _ _
  clear hW
  simp only [World.size_alloc, List.nil_append, List.cons_append] at S0
  have C0 := S0.c6 0 rfl
  go_wp2_with fail
  refine (asked1 _ a p q _ (Var.new W0 _ _) (ha.ext (Ext.alloc S0.x _))).mono ?_; rintro e w1 ⟨gw, rfl, hge, y1, x1⟩
  have S1 := S0.anon.made x1 hge y1
  clear hge y1 x1
  clear C0
  have C0 := S1.c6 0 rfl
  go_wp2_with fail
  refine (rNeg a.re p w1 (ha.re.ext S1.x)).mono ?_; rintro e w2 ⟨p0, rfl, o0, x0⟩
  have S2 := S1.ext x0
  go_wp2_with fail
  obtain ⟨t1, ht1⟩ : ∃ t, t = stp (gchk a) (fneg a.re) := ⟨_, rfl⟩
  have Ht1 := Lib.hid ht1
  clear ht1
  refine (Ht1.out ▸ wMade gw _ (fneg a.re) p0 w1.heap.size w2 (S2.way 2 rfl) o0 (o0.offLo (S1.v 2 _ _ rfl).lt) : Calls _ _ _ _ (fun e w' => ∃ p' : Adr, e = .returned (.agg #[.bool t1.1.neg, .slice p'.A t1.1.num.length p'.c, .slice p'.B t1.1.den.length p'.d]) ∧ OF w' w1.heap.size p' t1.1 ∧ w2.grownBy w' (some gw) ∧ Way gw t1.2 w')).mono ?_; rintro e w3 ⟨p1, rfl, o1, g1, y1⟩
  have S3 := S1.stepx x0 2 rfl g1 y1 o1
  clear o0 x0 g1 y1 o1 S2
  clear C0
  go_upto_region 3 with fail
  go_name_world W3 hW
  have S5 : Sta w w none _ _ W3 := hW ▸ S3.new _ _
  clear hW
  obtain ⟨t2, ht2⟩ : ∃ t, t = fneg a.im := ⟨_, rfl⟩
  have Ht2 := Lib.hid ht2
  clear ht2
  have HT := Lib.hid (show gneg a = gtell (stp t1.2 t2).2 t1.1 (stp t1.2 t2).1 by rw [Ht2.out, Ht1.out]; exact gneg_way ha.wf)
  have C0 := S5.c6 0 rfl
  have C3 := S5.c3 3 rfl
  have q0 := (S5.v 0 _ _ rfl).lt
  have n0 := S5.ne 0 2 rfl rfl (by decide)
  have m0 := S5.ne 0 1 rfl rfl (by decide)
  have q3 := (S5.v 3 _ _ rfl).lt
  have n3 := S5.ne 3 2 rfl rfl (by decide)
  have m3 := S5.ne 3 1 rfl rfl (by decide)
  have SD := S5.drew
  have HA2 := Lib.hid (Ht2.out ▸ rNeg a.im q W3.drew (ha.im.ext SD.x) : Calls _ _ _ _ (TF W3.drew t2))
  go_region_held3 (Sk W3 W3.heap.size gw (w.heap.size + 1)) ((first | (with_reducible exact Sk.drew (Sk.refl _ _ _ _)) | (with_reducible exact K1) | (with_reducible exact K2) | (with_reducible exact K3) | ((repeat (with_reducible refine Sk.set ?_)); (with_reducible assumption))))
    (first
      | (go_at_call 23; ((with_reducible refine HA2.out.mono ?_)); rintro e w3 ⟨p2, rfl, o2, x2⟩; have SX := SD.ext x2; have z3 : W3.heap.size ≤ w3.heap.size := Ext.size (w := W3.drew) x2; have K1 := Sk.ext (Sk.drew (Sk.refl W3 W3.heap.size gw (w.heap.size + 1))) x2 (Nat.le_refl _); have HA3 := Lib.hid (wMade gw _ t2 p2 W3.drew.heap.size w3 (SX.way 2 rfl) o2 (o2.offLo (SD.v 2 _ _ rfl).lt)); have HX2 := Lib.hid x2; clear x2 o2)
      | (go_at_call 168; ((with_reducible refine HA3.out.mono ?_)); rintro e w4 ⟨p3, rfl, o3, g3, y3⟩; have S4 := SD.stepx HX2.out 2 rfl g3 y3 o3; have z4 := Nat.le_trans z3 g3.size; have K2 := Sk.by1 K1 g3 z3; have HT2 := Lib.hid (told_of gw _ t1.1 _ p1 p3 _ w4 (S4.way 2 rfl) (S4.r 0 _ _ rfl) (S4.r 1 _ _ rfl) (S4.rd 0 1 _ _ _ _ (by decide) rfl rfl)); clear g3 y3 o3)
      | (go_at_call 167; ((with_reducible refine HT2.out.mono ?_)); rintro e w5 ⟨p5, p6, rfl, o6, f6, x4⟩; have S9 := S4.ext x4; have K3 := Sk.ext K2 x4 z4; have Z := S9.c6 1 rfl; have ZF := S9.f6 1 rfl; clear x4))
  clear C0 C3
  clear K1 K2 K3
  go_wp2_with fail
  rw [HT.out]
  exact bodyPost_ret (v := tgv _ p5 p6) (by simp [results, Tryz.results48, go_sem, tgv, Z]) rfl (TG.mk6 S9.below o6 (f6 _ (S9.ro 0 _ _ 1 _ _ rfl rfl) (S9.ro 1 _ _ 1 _ _ rfl rfl)) (by omega))

theorem fsmall_nought : fsmall 0 1 = (enc 0, 0) := by
  unfold fsmall
  rw [if_neg (by decide), show (0 : Int).natAbs = 0 from rfl, sg_zero, show mkRat 0 (Int.natAbs 1) = 0 from rfl]
  exact tell_ok (lng_of (by rw [show (0 : Rat).num.natAbs = 0 from rfl, wd_zero]; decide) (by rw [show (0 : Rat).den = 1 from rfl, wd_one]; decide))

set_option maxRecDepth 8000 in
set_option maxHeartbeats 4000000 in
theorem ga_Conj (a : Ga) (p q : Adr) (w : World) (ha : RG w p q a) :
    Calls Tryz.prog 46 #[.agg #[.bool a.re.neg, .slice p.A a.re.num.length p.c, .slice p.B a.re.den.length p.d, .bool a.im.neg, .slice q.A a.im.num.length q.c, .slice q.B a.im.den.length q.d]] w (TG w (gconj a)) := by
  go_enter Tryz.func46, Tryz.ntmps46
  go_upto_region 1 with fail
  go_name_world W0 hW
  have S0 : Sta w w none _ _ W0 := hW ▸ ((Sta.start w).new _ _).new _ _
  clear hW
  simp only [World.size_alloc, List.nil_append, List.cons_append] at S0
  have C0 := S0.c6 0 rfl
  go_wp2_with fail
  refine (asked1 _ a p q _ (Var.new W0 _ _) (ha.ext (Ext.alloc S0.x _))).mono ?_; rintro e w1 ⟨gw, rfl, hge, y1, x1⟩
  have S1 := S0.anon.made x1 hge y1
  clear hge y1 x1
  clear C0
  go_wp2_with fail
  refine (rSmall 0 1 w1 (by decide) (by decide) (by decide) (by decide)).mono ?_
  rw [fsmall_nought]
  obtain ⟨z, hz⟩ : ∃ z, z = enc 0 := ⟨_, rfl⟩
  rw [← hz]
  have HZ := Lib.hid hz
  clear hz
  rintro e w2 ⟨p0, rfl, o0, x0⟩
  have S2 := S1.call x0 o0
  clear o0 x0
  go_upto_region 3 with fail
  go_name_world W2 hW
  have S3 : Sta w w none _ _ W2 := hW ▸ S2.new _ _
  clear hW
  have C0 := S3.c6 0 rfl
  have C3 := S3.c3 3 rfl
  go_wp2_with fail
  obtain ⟨t1, ht1⟩ : ∃ t, t = wadd (gchk a) a.re z := ⟨_, rfl⟩
  have Ht1 := Lib.hid ht1
  clear ht1
  refine (wAddT Ht1.out (S3.way 2 rfl) (ha.re.ext S3.x) (S3.rf 0 rfl)).mono ?_; rintro e w3 ⟨p1, rfl, o1, g1, y1⟩
  have S4 := S3.step 2 rfl g1 y1 o1
  clear g1 y1 o1
  clear C0 C3
  go_upto_region 4 with fail
  go_name_world W3 hW
  have S5 : Sta w w none _ _ W3 := hW ▸ S4.new _ _
  clear hW
  obtain ⟨t2, ht2⟩ : ∃ t, t = fneg a.im := ⟨_, rfl⟩
  have Ht2 := Lib.hid ht2
  clear ht2
  have HT := Lib.hid (show gconj a = gtell (stp t1.2 t2).2 t1.1 (stp t1.2 t2).1 by rw [Ht2.out, Ht1.out, HZ.out]; exact gconj_way ha.wf)
  have C0 := S5.c6 0 rfl
  have C4 := S5.c3 4 rfl
  have q0 := (S5.v 0 _ _ rfl).lt
  have n0 := S5.ne 0 2 rfl rfl (by decide)
  have m0 := S5.ne 0 1 rfl rfl (by decide)
  have q4 := (S5.v 4 _ _ rfl).lt
  have n4 := S5.ne 4 2 rfl rfl (by decide)
  have m4 := S5.ne 4 1 rfl rfl (by decide)
  have SD := S5.drew
  have HA2 := Lib.hid (Ht2.out ▸ rNeg a.im q W3.drew (ha.im.ext SD.x) : Calls _ _ _ _ (TF W3.drew t2))
  go_region_held3 (Sk W3 W3.heap.size gw (w.heap.size + 1)) ((first | (with_reducible exact Sk.drew (Sk.refl _ _ _ _)) | (with_reducible exact K1) | (with_reducible exact K2) | (with_reducible exact K3) | ((repeat (with_reducible refine Sk.set ?_)); (with_reducible assumption))))
    (first
      | (go_at_call 23; ((with_reducible refine HA2.out.mono ?_)); rintro e w3 ⟨p2, rfl, o2, x2⟩; have SX := SD.ext x2; have z3 : W3.heap.size ≤ w3.heap.size := Ext.size (w := W3.drew) x2; have K1 := Sk.ext (Sk.drew (Sk.refl W3 W3.heap.size gw (w.heap.size + 1))) x2 (Nat.le_refl _); have HA3 := Lib.hid (wMade gw _ t2 p2 W3.drew.heap.size w3 (SX.way 2 rfl) o2 (o2.offLo (SD.v 2 _ _ rfl).lt)); have HX2 := Lib.hid x2; clear x2 o2)
      | (go_at_call 168; ((with_reducible refine HA3.out.mono ?_)); rintro e w4 ⟨p3, rfl, o3, g3, y3⟩; have S4 := SD.stepx HX2.out 2 rfl g3 y3 o3; have z4 := Nat.le_trans z3 g3.size; have K2 := Sk.by1 K1 g3 z3; have HT2 := Lib.hid (told_of gw _ t1.1 _ p1 p3 _ w4 (S4.way 2 rfl) (S4.r 1 _ _ rfl) (S4.r 2 _ _ rfl) (S4.rd 1 2 _ _ _ _ (by decide) rfl rfl)); clear g3 y3 o3)
      | (go_at_call 167; ((with_reducible refine HT2.out.mono ?_)); rintro e w5 ⟨p5, p6, rfl, o6, f6, x4⟩; have S9 := S4.ext x4; have K3 := Sk.ext K2 x4 z4; have Z := S9.c6 1 rfl; have ZF := S9.f6 1 rfl; clear x4))
  clear C0 C4
  clear K1 K2 K3
  go_wp2_with fail
  rw [HT.out]
  exact bodyPost_ret (v := tgv _ p5 p6) (by simp [results, Tryz.results46, go_sem, tgv, Z]) rfl (TG.mk6 S9.below o6 (f6 _ (S9.ro 1 _ _ 1 _ _ rfl rfl) (S9.ro 2 _ _ 1 _ _ rfl rfl)) (by omega))

set_option maxRecDepth 8000 in
set_option maxHeartbeats 4000000 in
theorem ga_Norm (a : Ga) (p q : Adr) (w : World) (ha : RG w p q a) :
    Calls Tryz.prog 50 #[.agg #[.bool a.re.neg, .slice p.A a.re.num.length p.c, .slice p.B a.re.den.length p.d, .bool a.im.neg, .slice q.A a.im.num.length q.c, .slice q.B a.im.den.length q.d]] w (TF w (gnorm a)) := by
  go_enter Tryz.func50, Tryz.ntmps50
  go_upto_region 1 with fail
  go_name_world W0 hW
  have S0 : Sta w w none _ _ W0 := hW ▸ ((Sta.start w).new _ _).new _ _
  clear hW
  simp only [World.size_alloc, List.nil_append, List.cons_append] at S0
  have C0 := S0.c6 0 rfl
  go_wp2_with fail
  refine (asked1 _ a p q _ (Var.new W0 _ _) (ha.ext (Ext.alloc S0.x _))).mono ?_; rintro e w1 ⟨gw, rfl, hge, y1, x1⟩
  have S1 := S0.anon.made x1 hge y1
  clear hge y1 x1
  clear C0
  have C0 := S1.c6 0 rfl
  go_wp2_with fail
  obtain ⟨t1, ht1⟩ : ∃ t, t = wnorm (gchk a) a := ⟨_, rfl⟩
  have Ht1 := Lib.hid ht1
  clear ht1
  refine (Ht1.out ▸ norm_any gw _ a p q w1 (S1.way 2 rfl) (KG.of S1.x (S1.vw 2 _ _ rfl) ha) : Calls _ _ _ _ (WayF gw w1 t1)).mono ?_; rintro e w2 ⟨p1, rfl, o1, g1, y1⟩
  have S2 := S1.step 2 rfl g1 y1 o1
  clear g1 y1 o1
  clear C0
  go_upto_region 3 with fail
  go_name_world W3 hW
  have S3 : Sta w w none _ _ W3 := hW ▸ S2.new _ _
  clear hW
  have Y := (S3.way 2 rfl).c
  have YF := (S3.way 2 rfl).f 0
  by_cases h0 : t1.2 ≠ 0
  · have hb : (t1.2 != 0) = true := bne_iff_ne.2 h0
    have HT := Lib.hid (show gnorm a = (Fr.zero, t1.2) by unfold gnorm; rw [← Ht1.out]; exact if_pos h0)
    clear h0
    have Z := S3.c3 1 rfl
    have ZF := S3.f3 1 rfl
    have hne := S3.ne 2 1 rfl rfl (by decide)
    go_wp2_with fail
    go_region
    all_goals
      go_wp2_with fail
      rw [HT.out]
      exact bodyPost_ret (v := .tuple #[.agg #[.bool false, .slice none 0 0, .slice none 0 0], .int .i64 t1.2]) (by simp [results, Tryz.results50, go_sem, Z]) rfl ⟨Adr.nil, rfl, OF.nil _ _, (S3.drew.set3 (i := 1) rfl).below⟩
  · have h1 : t1.2 = 0 := by simpa using h0
    have hb : (t1.2 != 0) = false := bne_eq_false_iff_eq.2 h1
    have HT := Lib.hid (show gnorm a = (t1.1, 0) by unfold gnorm; rw [← Ht1.out]; simp only [if_neg h0]; rw [← h1])
    clear h0 h1
    have Z := S3.c3 1 rfl
    have ZF := S3.f3 1 rfl
    have C3 := S3.c3 3 rfl
    go_wp2_with fail
    rw [HT.out]
    exact bodyPost_ret (v := .tuple #[.agg #[.bool t1.1.neg, .slice p1.A t1.1.num.length p1.c, .slice p1.B t1.1.den.length p1.d], .int .i64 0]) (by simp [results, Tryz.results50, go_sem, Z]) rfl ⟨p1, rfl, (S3.set3 (i := 1) rfl).r 0 _ _ rfl, (S3.set3 (i := 1) rfl).below⟩

set_option maxRecDepth 8000 in
set_option maxHeartbeats 4000000 in
theorem ga_Int (x y : Int) (w : World) (h0 : -9223372036854775808 ≤ x) (h1 : x ≤ 9223372036854775807) (k0 : -9223372036854775808 ≤ y) (k1 : y ≤ 9223372036854775807) :
    Calls Tryz.prog 52 #[.int .i64 x, .int .i64 y] w (PG w (gint x y)) := by
  have HX := Lib.hid (fun wx => rSmall x 1 wx h0 h1 (by decide) (by decide))
  have HY := Lib.hid (fun wx => rSmall y 1 wx k0 k1 (by decide) (by decide))
  unfold gint
  obtain ⟨t1, ht1⟩ : ∃ t, t = fsmall x 1 := ⟨_, rfl⟩
  obtain ⟨t2, ht2⟩ : ∃ t, t = fsmall y 1 := ⟨_, rfl⟩
  rw [← ht1] at HX ⊢
  rw [← ht2] at HY ⊢
  clear ht1 ht2 h0 h1 k0 k1
  go_enter Tryz.func52, Tryz.ntmps52
  go_upto_region 1 with fail
  go_name_world W0 hW
  have S0 : Sta w w none _ _ W0 := hW ▸ (Sta.start w).new _ _
  clear hW
  simp only [List.nil_append] at S0
  go_wp2_with fail
  refine (HX.out W0).mono ?_; rintro e w1 ⟨p1, rfl, o1, x1⟩
  have S1 := S0.call x1 o1
  clear o1 x1
  go_upto_region 2 with fail
  go_name_world W2 hW
  have S2 : Sta w w none _ _ W2 := hW ▸ S1.new _ _
  clear hW
  go_wp2_with fail
  refine (HY.out W2).mono ?_; rintro e w3 ⟨p2, rfl, o2, x2⟩
  have S3 := S2.call x2 o2
  clear o2 x2
  go_upto_region 3 with fail
  go_name_world W4 hW
  have S4 : Sta w w none _ _ W4 := hW ▸ S3.new _ _
  clear hW
  have C1 := S4.c3 1 rfl
  have C2 := S4.c3 2 rfl
  have Z := S4.c6 0 rfl
  have ZF := S4.f6 0 rfl
  go_wp2_with fail
  exact bodyPost_ret (v := .agg #[.bool t1.1.neg, .slice p1.A t1.1.num.length p1.c, .slice p1.B t1.1.den.length p1.d, .bool t2.1.neg, .slice p2.A t2.1.num.length p2.c, .slice p2.B t2.1.den.length p2.d]) (by simp [results, Tryz.results52, go_sem, Z]) rfl (PG.mk (a := ⟨t1.1, t2.1⟩) (i := 0) (j := 1) (S4.set6 (i := 0) rfl) rfl rfl (by decide))

end Go.Proofs.YtifonmdcicegdaaGreat

/- gauss.Check, Zero, Same. -/
namespace Go.Proofs.YtifonmdcicegdaaGreat
open Go Go.RowKit

set_option maxRecDepth 8000 in
set_option maxHeartbeats 4000000 in
theorem ga_Check (a : Ga) (p q : Adr) (w : World) (ha : RG w p q a) :
    Calls Tryz.prog 40 #[.agg #[.bool a.re.neg, .slice p.A a.re.num.length p.c, .slice p.B a.re.den.length p.d, .bool a.im.neg, .slice q.A a.im.num.length q.c, .slice q.B a.im.den.length q.d]] w fun e w' => e = .returned (.int .i64 (gchk a)) ∧ Below w.heap.size w w' := by
  go_enter Tryz.func40, Tryz.ntmps40
  go_upto_region 1 with fail
  go_name_world W0 hW
  have S0 : Sta w w none _ _ W0 := hW ▸ (Sta.start w).new _ _
  clear hW
  simp only [List.nil_append] at S0
  have C0 := S0.c6 0 rfl
  go_wp2_with fail
  refine (asked1 _ a p q _ (Var.new W0 _ _) (ha.ext (Ext.alloc S0.x _))).mono ?_; rintro e w1 ⟨gw, rfl, hge, y1, x1⟩
  have S1 := S0.anon.made x1 hge y1
  clear hge y1 x1
  clear C0
  have Y := (S1.way 1 rfl).c
  go_wp2_with fail
  go_ret
  exact ⟨rfl, S1.below⟩

set_option maxRecDepth 8000 in
set_option maxHeartbeats 4000000 in
theorem ga_Zero (a : Ga) (p q : Adr) (w : World) (ha : RG w p q a) :
    Calls Tryz.prog 44 #[.agg #[.bool a.re.neg, .slice p.A a.re.num.length p.c, .slice p.B a.re.den.length p.d, .bool a.im.neg, .slice q.A a.im.num.length q.c, .slice q.B a.im.den.length q.d]] w fun e w' => e = .returned (.bool (gzero a)) ∧ Below w.heap.size w w' := by
  by_cases h0 : gchk a ≠ 0
  · have HZ := Lib.hid (show gzero a = false from decide_eq_false fun h => h0 h.1)
    have hb : (gchk a == 0) = false := beq_eq_false_iff_ne.2 h0
    clear h0
    go_enter Tryz.func44, Tryz.ntmps44
    go_upto_region 1 with fail
    go_name_world W0 hW
    have S0 : Sta w w none _ _ W0 := hW ▸ (Sta.start w).new _ _
    clear hW
    simp only [List.nil_append] at S0
    have C0 := S0.c6 0 rfl
    go_wp2_with fail
    refine (asked1 _ a p q _ (Var.new W0 _ _) (ha.ext (Ext.alloc S0.x _))).mono ?_; rintro e w1 ⟨gw, rfl, hge, y1, x1⟩
    have S1 := S0.anon.made x1 hge y1
    clear hge y1 x1
    clear C0
    have Y := (S1.way 1 rfl).c
    have C0 := S1.c6 0 rfl
    go_wp2_with fail
    rw [HZ.out]
    go_ret
    exact ⟨rfl, S1.below⟩
  · have h1 : gchk a = 0 := by simpa using h0
    have hb : (gchk a == 0) = true := beq_iff_eq.2 h1
    by_cases h2 : a.re.num.length = 0
    · have hc : ((a.re.num.length : Int) == 0) = true := beq_iff_eq.2 (by omega)
      by_cases h3 : a.im.num.length = 0
      · have HZ := Lib.hid (show gzero a = true from decide_eq_true ⟨h1, h2, h3⟩)
        have hd : ((a.im.num.length : Int) == 0) = true := beq_iff_eq.2 (by omega)
        clear h0 h1 h2 h3
        go_enter Tryz.func44, Tryz.ntmps44
        go_upto_region 1 with fail
        go_name_world W0 hW
        have S0 : Sta w w none _ _ W0 := hW ▸ (Sta.start w).new _ _
        clear hW
        simp only [List.nil_append] at S0
        have C0 := S0.c6 0 rfl
        go_wp2_with fail
        refine (asked1 _ a p q _ (Var.new W0 _ _) (ha.ext (Ext.alloc S0.x _))).mono ?_; rintro e w1 ⟨gw, rfl, hge, y1, x1⟩
        have S1 := S0.anon.made x1 hge y1
        clear hge y1 x1
        clear C0
        have Y := (S1.way 1 rfl).c
        have C0 := S1.c6 0 rfl
        go_wp2_with fail
        rw [HZ.out]
        go_ret
        exact ⟨rfl, S1.below⟩
      · have HZ := Lib.hid (show gzero a = false from decide_eq_false fun h => h3 h.2.2)
        have hd : ((a.im.num.length : Int) == 0) = false := beq_eq_false_iff_ne.2 (by omega)
        clear h0 h1 h2 h3
        go_enter Tryz.func44, Tryz.ntmps44
        go_upto_region 1 with fail
        go_name_world W0 hW
        have S0 : Sta w w none _ _ W0 := hW ▸ (Sta.start w).new _ _
        clear hW
        simp only [List.nil_append] at S0
        have C0 := S0.c6 0 rfl
        go_wp2_with fail
        refine (asked1 _ a p q _ (Var.new W0 _ _) (ha.ext (Ext.alloc S0.x _))).mono ?_; rintro e w1 ⟨gw, rfl, hge, y1, x1⟩
        have S1 := S0.anon.made x1 hge y1
        clear hge y1 x1
        clear C0
        have Y := (S1.way 1 rfl).c
        have C0 := S1.c6 0 rfl
        go_wp2_with fail
        rw [HZ.out]
        go_ret
        exact ⟨rfl, S1.below⟩
    · have HZ := Lib.hid (show gzero a = false from decide_eq_false fun h => h2 h.2.1)
      have hc : ((a.re.num.length : Int) == 0) = false := beq_eq_false_iff_ne.2 (by omega)
      clear h0 h1 h2
      go_enter Tryz.func44, Tryz.ntmps44
      go_upto_region 1 with fail
      go_name_world W0 hW
      have S0 : Sta w w none _ _ W0 := hW ▸ (Sta.start w).new _ _
      clear hW
      simp only [List.nil_append] at S0
      have C0 := S0.c6 0 rfl
      go_wp2_with fail
      refine (asked1 _ a p q _ (Var.new W0 _ _) (ha.ext (Ext.alloc S0.x _))).mono ?_; rintro e w1 ⟨gw, rfl, hge, y1, x1⟩
      have S1 := S0.anon.made x1 hge y1
      clear hge y1 x1
      clear C0
      have Y := (S1.way 1 rfl).c
      have C0 := S1.c6 0 rfl
      go_wp2_with fail
      rw [HZ.out]
      go_ret
      exact ⟨rfl, S1.below⟩

set_option maxRecDepth 8000 in
set_option maxHeartbeats 4000000 in
theorem ga_Same (a b : Ga) (p q r s : Adr) (w : World) (ha : RG w p q a) (hb : RG w r s b) :
    Calls Tryz.prog 42 #[.agg #[.bool a.re.neg, .slice p.A a.re.num.length p.c, .slice p.B a.re.den.length p.d, .bool a.im.neg, .slice q.A a.im.num.length q.c, .slice q.B a.im.den.length q.d], .agg #[.bool b.re.neg, .slice r.A b.re.num.length r.c, .slice r.B b.re.den.length r.d, .bool b.im.neg, .slice s.A b.im.num.length s.c, .slice s.B b.im.den.length s.d]] w fun e w' => e = .returned (.bool (gsame a b)) ∧ Below w.heap.size w w' := by
  have hs := gsame_cases a b
  by_cases h0 : gchk2 a b ≠ 0
  · have HZ := Lib.hid (show gsame a b = false by rw [hs, decide_eq_false h0]; rfl)
    have hb' : (gchk2 a b == 0) = false := beq_eq_false_iff_ne.2 h0
    clear h0 hs
    go_enter Tryz.func42, Tryz.ntmps42
    go_upto_region 1 with fail
    go_name_world W0 hW
    have S0 : Sta w w none _ _ W0 := hW ▸ ((Sta.start w).new _ _).new _ _
    clear hW
    simp only [World.size_alloc, List.nil_append, List.cons_append] at S0
    have C0 := S0.c6 0 rfl
    have C1 := S0.c6 1 rfl
    go_wp2_with fail
    refine (asked2 _ a b p q r s _ (Var.new W0 _ _) (ha.ext (Ext.alloc S0.x _)) (hb.ext (Ext.alloc S0.x _))).mono ?_; rintro e w1 ⟨gw, rfl, hge, y1, x1⟩
    have S1 := S0.anon.made x1 hge y1
    clear hge y1 x1
    clear C0 C1
    have Y := (S1.way 2 rfl).c
    have C0 := S1.c6 0 rfl
    have C1 := S1.c6 1 rfl
    go_wp2_with fail
    rw [HZ.out]
    go_ret
    exact ⟨rfl, S1.below⟩
  · have h1 : gchk2 a b = 0 := by simpa using h0
    have hb' : (gchk2 a b == 0) = true := beq_iff_eq.2 h1
    rw [decide_eq_true h1] at hs
    by_cases h2 : a.re = b.re
    · have HB1 := Lib.hid (decide_eq_true h2)
      rw [decide_eq_true h2] at hs
      by_cases h3 : a.im = b.im
      · have HB2 := Lib.hid (decide_eq_true h3)
        have HZ := Lib.hid (show gsame a b = true by rw [hs, decide_eq_true h3]; rfl)
        clear h0 h1 h2 h3 hs
        go_enter Tryz.func42, Tryz.ntmps42
        go_upto_region 1 with fail
        go_name_world W0 hW
        have S0 : Sta w w none _ _ W0 := hW ▸ ((Sta.start w).new _ _).new _ _
        clear hW
        simp only [World.size_alloc, List.nil_append, List.cons_append] at S0
        have C0 := S0.c6 0 rfl
        have C1 := S0.c6 1 rfl
        go_wp2_with fail
        refine (asked2 _ a b p q r s _ (Var.new W0 _ _) (ha.ext (Ext.alloc S0.x _)) (hb.ext (Ext.alloc S0.x _))).mono ?_; rintro e w1 ⟨gw, rfl, hge, y1, x1⟩
        have S1 := S0.anon.made x1 hge y1
        clear hge y1 x1
        clear C0 C1
        have Y := (S1.way 2 rfl).c
        have C0 := S1.c6 0 rfl
        have C1 := S1.c6 1 rfl
        go_wp2_with fail
        refine (rSame a.re b.re p r w1 (ha.re.ext S1.x) (hb.re.ext S1.x)).mono ?_; rintro e w2 ⟨rfl, x2⟩
        rw [HB1.out]
        have S2 := S1.ext x2
        clear x2
        clear C0 C1
        have C0 := S2.c6 0 rfl
        have C1 := S2.c6 1 rfl
        go_wp2_with fail
        refine (rSame a.im b.im q s w2 (ha.im.ext S2.x) (hb.im.ext S2.x)).mono ?_; rintro e w3 ⟨rfl, x3⟩
        rw [HB2.out]
        have S3 := S2.ext x3
        clear x3
        go_wp2_with fail
        rw [HZ.out]
        go_ret
        exact ⟨rfl, S3.below⟩
      · have HB2 := Lib.hid (decide_eq_false h3)
        have HZ := Lib.hid (show gsame a b = false by rw [hs, decide_eq_false h3]; rfl)
        clear h0 h1 h2 h3 hs
        go_enter Tryz.func42, Tryz.ntmps42
        go_upto_region 1 with fail
        go_name_world W0 hW
        have S0 : Sta w w none _ _ W0 := hW ▸ ((Sta.start w).new _ _).new _ _
        clear hW
        simp only [World.size_alloc, List.nil_append, List.cons_append] at S0
        have C0 := S0.c6 0 rfl
        have C1 := S0.c6 1 rfl
        go_wp2_with fail
        refine (asked2 _ a b p q r s _ (Var.new W0 _ _) (ha.ext (Ext.alloc S0.x _)) (hb.ext (Ext.alloc S0.x _))).mono ?_; rintro e w1 ⟨gw, rfl, hge, y1, x1⟩
        have S1 := S0.anon.made x1 hge y1
        clear hge y1 x1
        clear C0 C1
        have Y := (S1.way 2 rfl).c
        have C0 := S1.c6 0 rfl
        have C1 := S1.c6 1 rfl
        go_wp2_with fail
        refine (rSame a.re b.re p r w1 (ha.re.ext S1.x) (hb.re.ext S1.x)).mono ?_; rintro e w2 ⟨rfl, x2⟩
        rw [HB1.out]
        have S2 := S1.ext x2
        clear x2
        clear C0 C1
        have C0 := S2.c6 0 rfl
        have C1 := S2.c6 1 rfl
        go_wp2_with fail
        refine (rSame a.im b.im q s w2 (ha.im.ext S2.x) (hb.im.ext S2.x)).mono ?_; rintro e w3 ⟨rfl, x3⟩
        rw [HB2.out]
        have S3 := S2.ext x3
        clear x3
        go_wp2_with fail
        rw [HZ.out]
        go_ret
        exact ⟨rfl, S3.below⟩
    · have HB1 := Lib.hid (decide_eq_false h2)
      have HZ := Lib.hid (show gsame a b = false by rw [hs, decide_eq_false h2]; rfl)
      clear h0 h1 h2 hs
      go_enter Tryz.func42, Tryz.ntmps42
      go_upto_region 1 with fail
      go_name_world W0 hW
      have S0 : Sta w w none _ _ W0 := hW ▸ ((Sta.start w).new _ _).new _ _
      clear hW
      simp only [World.size_alloc, List.nil_append, List.cons_append] at S0
      have C0 := S0.c6 0 rfl
      have C1 := S0.c6 1 rfl
      go_wp2_with fail
      refine (asked2 _ a b p q r s _ (Var.new W0 _ _) (ha.ext (Ext.alloc S0.x _)) (hb.ext (Ext.alloc S0.x _))).mono ?_; rintro e w1 ⟨gw, rfl, hge, y1, x1⟩
      have S1 := S0.anon.made x1 hge y1
      clear hge y1 x1
      clear C0 C1
      have Y := (S1.way 2 rfl).c
      have C0 := S1.c6 0 rfl
      have C1 := S1.c6 1 rfl
      go_wp2_with fail
      refine (rSame a.re b.re p r w1 (ha.re.ext S1.x) (hb.re.ext S1.x)).mono ?_; rintro e w2 ⟨rfl, x2⟩
      rw [HB1.out]
      have S2 := S1.ext x2
      clear x2
      clear C0 C1
      have C0 := S2.c6 0 rfl
      have C1 := S2.c6 1 rfl
      go_wp2_with fail
      rw [HZ.out]
      go_ret
      exact ⟨rfl, S2.below⟩

end Go.Proofs.YtifonmdcicegdaaGreat

/- The reference's looks at words: Check, both, told, Trim, word, Compare, Of. -/
namespace Go.Proofs.YtifonmdcicegdaaGreat
open Go Go.RowKit

set_option maxHeartbeats 400000 in
theorem gcheck_any (A : Option Addr) (xs : List Int) (c : Nat) (w : World) (h : Rd w A c xs) :
    Calls Tryz.prog 274 #[.slice A xs.length c] w fun e w' => e = .returned (.int .i64 (chk xs)) ∧ w = w' := by
  have hl := h.lim
  have hc := h.cap
  have HA := Lib.hid h.at_
  clear h
  by_cases h1 : 8192 < xs.length
  · have HE := Lib.hid (show chk xs = 3 by unfold chk; rw [if_pos h1])
    go_enter Tryz.func274, Tryz.ntmps274
    go_wp2
    go_ret
    exact ⟨by rw [HE.out]; rfl, rfl⟩
  · by_cases h0 : xs.length = 0
    · have HE := Lib.hid (show chk xs = 0 by unfold chk; rw [if_neg h1, if_neg]; rintro ⟨h2, _⟩; exact h2 (List.eq_nil_of_length_eq_zero h0))
      have hn' : ¬ (0 < xs.length) := by omega
      clear h0
      go_enter Tryz.func274, Tryz.ntmps274
      go_wp2
      go_ret
      exact ⟨by rw [HE.out]; rfl, rfl⟩
    · obtain ⟨k, hk⟩ := Nat.exists_eq_succ_of_ne_zero h0
      obtain ⟨a, rfl, hcell⟩ := HA.out k (by omega)
      have hp : 0 < xs.length := by omega
      have hi : ((xs.length : Int) - 1).toNat = k := by omega
      by_cases hz : nth xs k = 0
      · have HE := Lib.hid (show chk xs = 11 by
          unfold chk; rw [if_neg h1, if_pos ⟨fun e => by simp [e] at hp, by rw [hk]; exact hz⟩])
        rw [hz] at hcell
        clear hz hk h0
        go_enter Tryz.func274, Tryz.ntmps274
        go_wp2
        go_ret
        exact ⟨by rw [HE.out]; rfl, rfl⟩
      · have HE := Lib.hid (show chk xs = 0 by
          unfold chk; rw [if_neg h1, if_neg]; rintro ⟨_, h2⟩; rw [hk] at h2; exact hz h2)
        have hz' : (nth xs k == 0) = false := by simpa using hz
        clear hz hk h0
        go_enter Tryz.func274, Tryz.ntmps274
        go_wp2
        go_ret
        exact ⟨by rw [HE.out]; rfl, rfl⟩

set_option maxHeartbeats 400000 in
theorem gboth_ok (A B : Option Addr) (m n : Nat) (c d : Nat) (w : World) (h : Rd w A c (wd m)) (k : Rd w B d (wd n)) (hm : (wd m).length ≤ 8192) (hn : (wd n).length ≤ 8192) :
    Calls Tryz.prog 237 #[.slice A (wd m).length c, .slice B (wd n).length d] w fun e w' => e = .returned (.int .i64 0) ∧ w = w' := by
  have H := Lib.hid (gcheck_any A _ c w h)
  have K := Lib.hid (gcheck_any B _ d w k)
  rw [chk_wd m hm] at H
  rw [chk_wd n hn] at K
  clear h k
  go_enter Tryz.func237, Tryz.ntmps237
  go_wp2_with fail
  refine H.out.mono ?_; rintro e w' ⟨rfl, rfl⟩
  go_wp2_with fail
  refine K.out.mono ?_; rintro e w' ⟨rfl, rfl⟩
  go_wp2_with fail
  go_ret
  exact ⟨rfl, rfl⟩

theorem gtold_ok (A : Option Addr) (n c : Nat) (w : World) (hn : n ≤ 8192) :
    Calls Tryz.prog 239 #[.slice A n c] w fun e w' => e = .returned (.tuple #[.slice A n c, .int .i64 0]) ∧ w = w' := by
  go_enter Tryz.func239, Tryz.ntmps239
  go_wp2
  go_ret2
  exact ⟨rfl, rfl⟩

set_option maxHeartbeats 400000 in
theorem gtrim_any (A : Option Addr) (xs : List Int) (c l n : Nat) (w : World) (h : Rd w A c xs) (hl : xs.length = l) (hw : Wf xs) (hv : val xs = n) (hm : l ≤ 35184372088832) :
    Calls Tryz.prog 275 #[.slice A l c] w fun e w' => ∃ A' c', e = .returned (.slice A' (wd n).length c') ∧ Own w' w.heap.size A' c' (wd n) ∧ Ext w w' := by
  subst hl
  have ht : xs.take (tl xs xs.length) = wd n := by rw [tl_all hw, hv]; rfl
  have hlim := h.lim
  have hc := h.cap
  have H := Lib.hid h
  have HTK := Lib.hid ht
  clear h ht hw hv
  go_enter Tryz.func275, Tryz.ntmps275
  go_wp2
  go_loop [3] (fun i => ∃ k : Nat, k ≤ xs.length ∧ Hid (tl xs k = tl xs xs.length) ∧ i = .int .i64 k) (fun i => (intOf i).toNat)
  case atStart => exact ⟨xs.length, by omega, rfl, rfl⟩
  case round =>
    obtain ⟨k, hk, hj, rfl⟩ := hrel
    have hfin : nth xs (k - 1) ≠ 0 ∨ k = 0 → k = tl xs xs.length := by
      intro h
      rw [← hj.out]
      cases k with
      | zero => rfl
      | succ k =>
        rcases h with h | h
        · exact (tl_here xs k h).symm
        · omega
    have hgo : nth xs (k - 1) = 0 ∧ 0 < k ∨ (nth xs (k - 1) ≠ 0 ∨ k = 0) := by
      by_cases h1 : nth xs (k - 1) = 0
      · by_cases h2 : k = 0
        · exact .inr (.inr h2)
        · exact .inl ⟨h1, by omega⟩
      · exact .inr (.inl h1)
    rcases hgo with ⟨hz, hp⟩ | hstop
    · obtain ⟨j, rfl⟩ : ∃ j, k = j + 1 := ⟨k - 1, by omega⟩
      obtain ⟨a, rfl, hcell⟩ := H.out.at_ j (by omega)
      simp only [Nat.add_sub_cancel] at hz
      have HJ := Lib.hid ((tl_zero xs j hz).symm.trans hj.out)
      rw [hz] at hcell
      clear hz hfin
      go_wp2
      go_round
      case rel => exact ⟨j, by omega, HJ.out, by go_num⟩
      case measure => simp [intOf]
    · have HK := Lib.hid (hfin hstop)
      have HTa := Lib.hid (show xs.take k = wd n by rw [HK.out]; exact HTK.out)
      have HLk := Lib.hid (show (wd n).length = k by rw [← HTa.out, List.length_take]; omega)
      have HRd := Lib.hid (show Rd w A c (wd n) by rw [← HTa.out]; exact H.out.take k)
      clear hfin
      have hst : k = 0 ∨ (∃ j a, k = j + 1 ∧ A = some a ∧ w.cell? (a.add j) = some (.int .u32 (nth xs j)) ∧ (nth xs j == 0) = false) := by
        cases k with
        | zero => exact .inl rfl
        | succ j =>
          refine .inr ⟨j, ?_⟩
          obtain ⟨a, ha, hcell⟩ := H.out.at_ j (by omega)
          refine ⟨a, rfl, ha, hcell, ?_⟩
          rcases hstop with h | h
          · exact beq_eq_false_iff_ne.2 h
          · omega
      clear hstop
      rcases hst with rfl | ⟨j, a, rfl, rfl, hcell, hz'⟩
      · go_wp2_with (at_builtin; refine wpList_app rfl _ _ rfl w.heap.size none 0 [] 0 rfl rfl (Own.nil _ _) _ _ (wd n) _ HLk.out rfl HRd.out (by omega) (Nat.le_refl _) ?_; intro A' c' w1 hO hg)
        have HO := Lib.hid hO
        have HX : Hid (Ext w w1) := (Ext.refl w).grownNone hg
        clear hO hg
        go_wp2_with fail
        go_ret
        exact ⟨A', c', by rw [HLk.out]; simp, HO.out, HX.out⟩
      · go_wp2_with (at_builtin; refine wpList_app rfl _ _ rfl w.heap.size none 0 [] 0 rfl rfl (Own.nil _ _) _ _ (wd n) _ HLk.out rfl HRd.out (by omega) (Nat.le_refl _) ?_; intro A' c' w1 hO hg)
        have HO := Lib.hid hO
        have HX : Hid (Ext w w1) := (Ext.refl w).grownNone hg
        clear hO hg
        go_wp2_with fail
        go_ret
        exact ⟨A', c', by rw [HLk.out]; simp, HO.out, HX.out⟩

set_option maxHeartbeats 400000 in
theorem gword_any (A : Option Addr) (xs : List Int) (c l k : Nat) (w : World) (h : Rd w A c xs) (hl : xs.length = l) :
    Calls Tryz.prog 282 #[.slice A l c, .int .i64 k] w fun e w' => e = .returned (.int .u32 (nth xs k)) ∧ w = w' := by
  subst hl
  have hlim := h.lim
  by_cases hk : k < xs.length
  · obtain ⟨a, rfl, hcell⟩ := h.at_ k hk
    clear h
    go_enter Tryz.func282, Tryz.ntmps282
    go_wp2
    go_ret
    exact ⟨rfl, rfl⟩
  · have HE := Lib.hid (nth_out xs k (by omega))
    clear h
    go_enter Tryz.func282, Tryz.ntmps282
    go_wp2
    go_ret
    exact ⟨by rw [HE.out]; rfl, rfl⟩

end Go.Proofs.YtifonmdcicegdaaGreat

