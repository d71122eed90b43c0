/- Texts of this claim, joined: U12 Y4 U13 U14 Y5 U15. -/
import Derived.Deep.AppendLies
import Derived.Test.YtifonmdcicegdaaGreatQn
/- The reference of gauss: pair, Norm. -/
namespace Go.Proofs.YtifonmdcicegdaaGreat
open Go Go.RowKit

set_option maxRecDepth 8000 in
set_option maxHeartbeats 4000000 in
theorem ra_pair (l : Bool) (a b c d : Fr) (p q r s : Adr) (w : World) (ha : RF w p a) (hb : RF w q b) (hc : RF w r c) (hd : RF w s d) :
    Calls Tryz.prog 170 #[.agg #[.bool a.neg, .slice p.A a.num.length p.c, .slice p.B a.den.length p.d], .agg #[.bool b.neg, .slice q.A b.num.length q.c, .slice q.B b.den.length q.d], .agg #[.bool c.neg, .slice r.A c.num.length r.c, .slice r.B c.den.length r.d], .agg #[.bool d.neg, .slice s.A d.num.length s.c, .slice s.B d.den.length s.d], .bool l] w (TF w (wpair 0 a b c d l)) := by
  obtain ⟨t1, ht1⟩ : ∃ t, t = fmul a b := ⟨_, rfl⟩
  have Ht1 := Lib.hid ht1
  clear ht1
  obtain ⟨t2, ht2⟩ : ∃ t, t = fmul c d := ⟨_, rfl⟩
  have Ht2 := Lib.hid ht2
  clear ht2
  have HC1 := Lib.hid (fun wx (x : Below w.heap.size w wx) => (Ht1.out ▸ nMul a b p q wx (ha.ext x) (hb.ext x) : Calls _ _ _ _ (TF wx t1)))
  have HC2 := Lib.hid (fun wx (x : Below w.heap.size w wx) => (Ht2.out ▸ nMul c d r s wx (hc.ext x) (hd.ext x) : Calls _ _ _ _ (TF wx t2)))
  by_cases h0 : t1.2 ≠ 0
  · have HZ := Lib.hid (show wpair 0 a b c d l = (Fr.zero, t1.2) by rw [Ht1.out]; exact wpair_1 (by rw [← Ht1.out]; exact h0))
    have hb' : (t1.2 != 0) = true := bne_iff_ne.2 h0
    clear h0
    go_enter Tryz.func170, Tryz.ntmps170
    go_upto_region 1 with fail
    go_name_world W0 hW
    have S0 : Sta w w none _ _ W0 := hW ▸ (((((Sta.start w).new _ _).new _ _).new _ _).new _ _).new _ _
    clear hW
    simp only [World.size_alloc, List.nil_append, List.cons_append] at S0
    have C0 := S0.c3 0 rfl
    have C1 := S0.c3 1 rfl
    go_wp2_with fail
    refine (HC1.out W0 S0.x).mono ?_; rintro e w1 ⟨p1, rfl, o1, x1⟩
    have S1 := S0.call x1 o1
    clear o1 x1
    clear C0 C1
    go_upto_region 2 with fail
    go_name_world W2 hW
    have S2 : Sta w w none _ _ W2 := hW ▸ S1.new _ _
    clear hW
    have Z := S2.c3 4 rfl
    have ZF := S2.f3 4 rfl
    go_wp2_with fail
    rw [HZ.out]
    exact bodyPost_ret (v := .tuple #[.agg #[.bool false, .slice none 0 0, .slice none 0 0], .int .i64 t1.2]) (by simp [results, Tryz.results170, go_sem, Z]) rfl ⟨Adr.nil, rfl, OF.nil _ _, (S2.set3 (i := 4) rfl).below⟩
  · have h1 : t1.2 = 0 := by simpa using h0
    have hb' : (t1.2 != 0) = false := bne_eq_false_iff_eq.2 h1
    have H1 := Lib.hid h1
    clear h0 h1
    by_cases h0 : t2.2 ≠ 0
    · have HZ := Lib.hid (show wpair 0 a b c d l = (Fr.zero, t2.2) by rw [Ht2.out]; exact wpair_2 (by rw [← Ht1.out]; exact H1.out) (by rw [← Ht2.out]; exact h0))
      have hc' : (t2.2 != 0) = true := bne_iff_ne.2 h0
      clear h0
      go_enter Tryz.func170, Tryz.ntmps170
      go_upto_region 1 with fail
      go_name_world W0 hW
      have S0 : Sta w w none _ _ W0 := hW ▸ (((((Sta.start w).new _ _).new _ _).new _ _).new _ _).new _ _
      clear hW
      simp only [World.size_alloc, List.nil_append, List.cons_append] at S0
      have C0 := S0.c3 0 rfl
      have C1 := S0.c3 1 rfl
      go_wp2_with fail
      refine (HC1.out W0 S0.x).mono ?_; rintro e w1 ⟨p1, rfl, o1, x1⟩
      have S1 := S0.call x1 o1
      clear o1 x1
      clear C0 C1
      go_upto_region 4 with fail
      go_name_world W2 hW
      have S2 : Sta w w none _ _ W2 := hW ▸ S1.new _ _
      clear hW
      have C2 := S2.c3 2 rfl
      have C3 := S2.c3 3 rfl
      go_wp2_with fail
      refine (HC2.out W2 S2.x).mono ?_; rintro e w3 ⟨p2, rfl, o1, x1⟩
      have S3 := S2.call x1 o1
      clear o1 x1
      clear C2 C3
      go_upto_region 5 with fail
      go_name_world W4 hW
      have S4 : Sta w w none _ _ W4 := hW ▸ S3.new _ _
      clear hW
      have Z := S4.c3 4 rfl
      have ZF := S4.f3 4 rfl
      go_wp2_with fail
      rw [HZ.out]
      exact bodyPost_ret (v := .tuple #[.agg #[.bool false, .slice none 0 0, .slice none 0 0], .int .i64 t2.2]) (by simp [results, Tryz.results170, go_sem, Z]) rfl ⟨Adr.nil, rfl, OF.nil _ _, (S4.set3 (i := 4) rfl).below⟩
    · have h1 : t2.2 = 0 := by simpa using h0
      have hc' : (t2.2 != 0) = false := bne_eq_false_iff_eq.2 h1
      have H2 := Lib.hid h1
      clear h0 h1
      cases l with
      | true =>
        obtain ⟨t3, ht3⟩ : ∃ t, t = fsub t1.1 t2.1 := ⟨_, rfl⟩
        have Ht3 := Lib.hid ht3
        clear ht3
        have HZ := Lib.hid (show wpair 0 a b c d true = t3 by rw [Ht3.out, Ht1.out, Ht2.out]; exact wpair_3 (by rw [← Ht1.out]; exact H1.out) (by rw [← Ht2.out]; exact H2.out))
        go_enter Tryz.func170, Tryz.ntmps170
        go_upto_region 1 with fail
        go_name_world W0 hW
        have S0 : Sta w w none _ _ W0 := hW ▸ (((((Sta.start w).new _ _).new _ _).new _ _).new _ _).new _ _
        clear hW
        simp only [World.size_alloc, List.nil_append, List.cons_append] at S0
        have C0 := S0.c3 0 rfl
        have C1 := S0.c3 1 rfl
        go_wp2_with fail
        refine (HC1.out W0 S0.x).mono ?_; rintro e w1 ⟨p1, rfl, o1, x1⟩
        have S1 := S0.call x1 o1
        clear o1 x1
        clear C0 C1
        go_upto_region 4 with fail
        go_name_world W2 hW
        have S2 : Sta w w none _ _ W2 := hW ▸ S1.new _ _
        clear hW
        have C2 := S2.c3 2 rfl
        have C3 := S2.c3 3 rfl
        go_wp2_with fail
        refine (HC2.out W2 S2.x).mono ?_; rintro e w3 ⟨p2, rfl, o1, x1⟩
        have S3 := S2.call x1 o1
        clear o1 x1
        clear C2 C3
        go_upto_region 8 with fail
        go_name_world W4 hW
        have S4 : Sta w w none _ _ W4 := hW ▸ S3.new _ _
        clear hW
        have C5 := S4.c3 5 rfl
        have C6 := S4.c3 6 rfl
        go_wp2_with fail
        refine (Ht3.out ▸ nSub t1.1 t2.1 p1 p2 W4 (S4.rf 0 rfl) (S4.rf 1 rfl) : Calls _ _ _ _ (TF W4 t3)).mono ?_; rintro e w5 ⟨p3, rfl, o1, x1⟩
        have S5 := S4.call x1 o1
        clear o1 x1
        clear C5 C6
        have Z := S5.c3 4 rfl
        have ZF := S5.f3 4 rfl
        go_wp2_with fail
        rw [HZ.out]
        exact bodyPost_ret (v := .tuple #[.agg #[.bool t3.1.neg, .slice p3.A t3.1.num.length p3.c, .slice p3.B t3.1.den.length p3.d], .int .i64 t3.2]) (by simp [results, Tryz.results170, go_sem, Z]) rfl ⟨p3, rfl, (S5.set3 (i := 4) rfl).r 2 _ _ rfl, (S5.set3 (i := 4) rfl).below⟩
      | false =>
        obtain ⟨t3, ht3⟩ : ∃ t, t = fadd t1.1 t2.1 := ⟨_, rfl⟩
        have Ht3 := Lib.hid ht3
        clear ht3
        have HZ := Lib.hid (show wpair 0 a b c d false = t3 by rw [Ht3.out, Ht1.out, Ht2.out]; exact wpair_4 (by rw [← Ht1.out]; exact H1.out) (by rw [← Ht2.out]; exact H2.out))
        go_enter Tryz.func170, Tryz.ntmps170
        go_upto_region 1 with fail
        go_name_world W0 hW
        have S0 : Sta w w none _ _ W0 := hW ▸ (((((Sta.start w).new _ _).new _ _).new _ _).new _ _).new _ _
        clear hW
        simp only [World.size_alloc, List.nil_append, List.cons_append] at S0
        have C0 := S0.c3 0 rfl
        have C1 := S0.c3 1 rfl
        go_wp2_with fail
        refine (HC1.out W0 S0.x).mono ?_; rintro e w1 ⟨p1, rfl, o1, x1⟩
        have S1 := S0.call x1 o1
        clear o1 x1
        clear C0 C1
        go_upto_region 4 with fail
        go_name_world W2 hW
        have S2 : Sta w w none _ _ W2 := hW ▸ S1.new _ _
        clear hW
        have C2 := S2.c3 2 rfl
        have C3 := S2.c3 3 rfl
        go_wp2_with fail
        refine (HC2.out W2 S2.x).mono ?_; rintro e w3 ⟨p2, rfl, o1, x1⟩
        have S3 := S2.call x1 o1
        clear o1 x1
        clear C2 C3
        go_upto_region 9 with fail
        go_name_world W4 hW
        have S4 : Sta w w none _ _ W4 := hW ▸ S3.new _ _
        clear hW
        have C5 := S4.c3 5 rfl
        have C6 := S4.c3 6 rfl
        go_wp2_with fail
        refine (Ht3.out ▸ nAdd t1.1 t2.1 p1 p2 W4 (S4.rf 0 rfl) (S4.rf 1 rfl) : Calls _ _ _ _ (TF W4 t3)).mono ?_; rintro e w5 ⟨p3, rfl, o1, x1⟩
        have S5 := S4.call x1 o1
        clear o1 x1
        clear C5 C6
        have Z := S5.c3 4 rfl
        have ZF := S5.f3 4 rfl
        go_wp2_with fail
        rw [HZ.out]
        exact bodyPost_ret (v := .tuple #[.agg #[.bool t3.1.neg, .slice p3.A t3.1.num.length p3.c, .slice p3.B t3.1.den.length p3.d], .int .i64 t3.2]) (by simp [results, Tryz.results170, go_sem, Z]) rfl ⟨p3, rfl, (S5.set3 (i := 4) rfl).r 2 _ _ rfl, (S5.set3 (i := 4) rfl).below⟩

set_option maxRecDepth 8000 in
set_option maxHeartbeats 4000000 in
theorem ra_Norm (a : Ga) (p q : Adr) (w : World) (ha : RG w p q a) :
    Calls Tryz.prog 51 #[.agg #[.bool a.re.neg, .slice p.A a.re.num.length p.c, .slice p.B a.re.den.length p.d, .bool a.im.neg, .slice q.A a.im.num.length q.c, .slice q.B a.im.den.length q.d]] w (TF w (gnorm a)) := by
  by_cases h0 : gchk a ≠ 0
  · have HZ := Lib.hid (gnorm_1 h0)
    have hb : (gchk a != 0) = true := bne_iff_ne.2 h0
    clear h0
    go_enter Tryz.func51, Tryz.ntmps51
    go_upto_region 1 with fail
    go_name_world W0 hW
    have S0 : Sta w w none _ _ W0 := hW ▸ ((Sta.start w).new _ _).new _ _
    clear hW
    simp only [World.size_alloc, List.nil_append, List.cons_append] at S0
    have C0 := S0.c6 0 rfl
    go_wp2_with fail
    refine (ra_Check a p q W0 (ha.ext S0.x)).mono ?_; rintro e w1 ⟨rfl, x1⟩
    have S1 := S0.ext x1
    clear x1
    clear C0
    have Z := S1.c3 1 rfl
    have ZF := S1.f3 1 rfl
    go_wp2_with fail
    rw [HZ.out]
    exact bodyPost_ret (v := .tuple #[.agg #[.bool false, .slice none 0 0, .slice none 0 0], .int .i64 (gchk a)]) (by simp [results, Tryz.results51, go_sem, Z]) rfl ⟨Adr.nil, rfl, OF.nil _ _, (S1.set3 (i := 1) rfl).below⟩
  · have h1 : gchk a = 0 := by simpa using h0
    have HZ := Lib.hid (gnorm_2 h1)
    have hb : (gchk a != 0) = false := bne_eq_false_iff_eq.2 h1
    clear h0 h1
    obtain ⟨t1, ht1⟩ : ∃ t, t = wpair 0 a.re a.re a.im a.im false := ⟨_, rfl⟩
    have Ht1 := Lib.hid ht1
    clear ht1
    go_enter Tryz.func51, Tryz.ntmps51
    go_upto_region 1 with fail
    go_name_world W0 hW
    have S0 : Sta w w none _ _ W0 := hW ▸ ((Sta.start w).new _ _).new _ _
    clear hW
    simp only [World.size_alloc, List.nil_append, List.cons_append] at S0
    have C0 := S0.c6 0 rfl
    go_wp2_with fail
    refine (ra_Check a p q W0 (ha.ext S0.x)).mono ?_; rintro e w1 ⟨rfl, x1⟩
    have S1 := S0.ext x1
    clear x1
    clear C0
    have C0 := S1.c6 0 rfl
    go_wp2_with fail
    refine (Ht1.out ▸ ra_pair false a.re a.re a.im a.im p p q q w1 (ha.re.ext S1.x) (ha.re.ext S1.x) (ha.im.ext S1.x) (ha.im.ext S1.x) : Calls _ _ _ _ (TF w1 t1)).mono ?_; rintro e w2 ⟨p1, rfl, o1, x1⟩
    have S2 := S1.call x1 o1
    clear o1 x1
    clear C0
    have Z := S2.c3 1 rfl
    have ZF := S2.f3 1 rfl
    go_wp2_with fail
    rw [HZ.out, ← Ht1.out]
    exact bodyPost_ret (v := .tuple #[.agg #[.bool t1.1.neg, .slice p1.A t1.1.num.length p1.c, .slice p1.B t1.1.den.length p1.d], .int .i64 t1.2]) (by simp [results, Tryz.results51, go_sem, Z]) rfl ⟨p1, rfl, (S2.set3 (i := 1) rfl).r 0 _ _ rfl, (S2.set3 (i := 1) rfl).below⟩

end Go.Proofs.YtifonmdcicegdaaGreat

/- The statements' kit over fractions at addresses. -/
namespace Go.Proofs.YtifonmdcicegdaaGreat
open Go Go.RowKit

/-- a fraction's words with what stands behind them when it is lent -/
def lentF (f : Fr) : Fr := ⟨f.neg, f.num ++ marks, f.den ++ marks⟩
theorem OF.unlent {w : World} {base : Nat} {p : Adr} {f : Fr} (h : OF w base p (lentF f)) (wf : f.Wf) : OF w base p f := ⟨own_pre h.num rfl, own_pre h.den rfl, h.ap, wf⟩
theorem wf_app {xs ys : List Int} (h : Wf xs) (k : Wf ys) : Wf (xs ++ ys) := fun x hx => (List.mem_append.1 hx).elim (h x) (k x)
theorem lentF_wf {f : Fr} (h : f.Wf) : (lentF f).Wf := ⟨wf_app h.num wf_marks, wf_app h.den wf_marks⟩
/-- few enough words -/
def Few (f : Fr) : Prop := f.num.length ≤ 1000000 ∧ f.den.length ≤ 1000000
theorem few_zero : Few Fr.zero := ⟨Nat.zero_le _, Nat.zero_le _⟩
theorem few_enc {q : Rat} (h : ¬ lng q = true) : Few (enc q) := by
  have h1 := not_lng h
  exact ⟨by show (wd _).length ≤ _; omega, by show (wd _).length ≤ _; omega⟩
theorem Good.few {t : Fr × Int} (h : Good t) : Few t.1 := by
  by_cases e : t.2 = 0
  · obtain ⟨q, hq, hl⟩ := h.1 e; rw [hq]; exact few_enc hl
  · rw [h.2 e]; exact few_zero
theorem fneg_few {a : Fr} (wa : a.Wf) : Few (fneg a).1 := by
  by_cases h : fchk a ≠ 0
  · unfold fneg; rw [if_pos h]; exact few_zero
  · obtain ⟨q, rfl, lq⟩ := fchk_ok wa (by simpa using h)
    rw [fneg_enc lq]
    exact few_enc (by rw [lng_negQ]; exact lq)
/-- few words in both parts -/
def FewG (a : Ga) : Prop := Few a.re ∧ Few a.im
theorem gconj_few {a : Ga} (wa : a.Wf) (h : FewG a) : FewG (gconj a).1 := by
  by_cases h0 : gchk a ≠ 0
  · rw [gconj_1 h0]; exact ⟨few_zero, few_zero⟩
  · rw [gconj_2 (by simpa using h0)]; exact ⟨h.1, fneg_few wa.im⟩
theorem gneg_few {a : Ga} (wa : a.Wf) : FewG (gneg a).1 := by
  by_cases h0 : gchk a ≠ 0
  · rw [gneg_1 h0]; exact ⟨few_zero, few_zero⟩
  · rw [gneg_2 (by simpa using h0)]; exact ⟨fneg_few wa.re, fneg_few wa.im⟩
theorem gnorm_good (a : Ga) : Good (gnorm a) := by
  by_cases h0 : gchk a ≠ 0
  · rw [gnorm_1 h0]; exact ⟨fun e => absurd e h0, fun _ => rfl⟩
  · rw [gnorm_2 (by simpa using h0)]; exact wpair_good _ _ _ _ _ _
theorem fsmall_few (n d : Int) : Few (fsmall n d).1 := by
  unfold fsmall
  split
  · exact few_zero
  · exact (tell_good _).few
theorem kLent (f : Fr) (p : Adr) (w : World) (h : RF w p f) (hm : Few f) : Calls Tryz.prog 13 #[.agg #[.bool f.neg, .slice p.A f.num.length p.c, .slice p.B f.den.length p.d]] w fun e w' =>
    ∃ p' : Adr, e = .returned (.agg #[.bool f.neg, .slice p'.A f.num.length p'.c, .slice p'.B f.den.length p'.d]) ∧ OF w' w.heap.size p' (lentF f) ∧ Below w.heap.size w w' :=
  (klentR_any f _ _ _ _ w h.num h.den hm.1 hm.2).mono fun _ _ ⟨A, c, B, d, h1, h2, h3, h4, h5⟩ => ⟨⟨A, c, B, d⟩, h1, ⟨h2, h3, h4, lentF_wf h.wf⟩, h5⟩
theorem kKept (f : Fr) (p q : Adr) (base : Nat) (w : World) (h : OF w base p (lentF f)) (k : RF w q f) (hm : Few f) : Calls Tryz.prog 36 #[.agg #[.bool f.neg, .slice p.A f.num.length p.c, .slice p.B f.den.length p.d], .agg #[.bool f.neg, .slice q.A f.num.length q.c, .slice q.B f.den.length q.d]] w fun e w' => e = .returned (.bool true) ∧ Below w.heap.size w w' :=
  kkeptR_any f _ _ _ _ _ _ _ _ w h.num.rd h.den.rd k.num k.den hm.1 hm.2
theorem kSame (f : Fr) (p q : Adr) (w : World) (h : RF w p f) (k : RF w q f) : Calls Tryz.prog 55 #[.agg #[.bool f.neg, .slice p.A f.num.length p.c, .slice p.B f.den.length p.d], .agg #[.bool f.neg, .slice q.A f.num.length q.c, .slice q.B f.den.length q.d]] w fun e w' => e = .returned (.bool true) ∧ Below w.heap.size w w' :=
  ksameR_any f.neg f.neg _ _ _ _ f.num f.den f.num f.den _ _ _ _ w h.num h.den k.num k.den true (decide_eq_true rfl)

end Go.Proofs.YtifonmdcicegdaaGreat

/- law04: small, Small, heavy, one; LentGauss, KeptGauss, SameGauss. -/
namespace Go.Proofs.YtifonmdcicegdaaGreat
open Go Go.RowKit

set_option maxRecDepth 8000 in
set_option maxHeartbeats 4000000 in
theorem kLentG (a : Ga) (p q : Adr) (w : World) (ha : RG w p q a) (hm : Few a.re) (hm' : Few a.im) :
    Calls Tryz.prog 39 #[.agg #[.bool a.re.neg, .slice p.A a.re.num.length p.c, .slice p.B a.re.den.length p.d, .bool a.im.neg, .slice q.A a.im.num.length q.c, .slice q.B a.im.den.length q.d]] w fun e w' => ∃ p' q' : Adr, e = .returned (.agg #[.bool a.re.neg, .slice p'.A a.re.num.length p'.c, .slice p'.B a.re.den.length p'.d, .bool a.im.neg, .slice q'.A a.im.num.length q'.c, .slice q'.B a.im.den.length q'.d]) ∧ OF w' w.heap.size p' (lentF a.re) ∧ OF w' w.heap.size q' (lentF a.im) ∧ p'.Dis q' ∧ Below w.heap.size w w' := by
  go_enter Tryz.func39, Tryz.ntmps39
  go_upto_region 1 with fail
  go_name_world W3 hW
  have S0 : Sta w w none _ _ W3 := hW ▸ ((Sta.start w).new _ _).new _ _
  clear hW
  simp only [World.size_alloc, List.nil_append, List.cons_append] at S0
  have C0 := S0.c6 0 rfl
  have q0 := (S0.v 0 _ _ rfl).lt
  have m0 := S0.ne 0 1 rfl rfl (by decide)
  have SD := S0.drew
  have HA2 := Lib.hid (kLent a.re p W3.drew (ha.re.ext SD.x) hm)
  go_region_held3 (Sk W3 W3.heap.size (w.heap.size + 1) (w.heap.size + 1)) ((first | (with_reducible exact Sk.drew (Sk.refl _ _ _ _)) | (with_reducible exact K1) | (with_reducible exact K2) | (with_reducible exact K3) | ((repeat (with_reducible refine Sk.set ?_)); (with_reducible assumption))))
    (first
      | (go_at_call 13; ((with_reducible refine HA2.out.mono ?_)); rintro e w3 ⟨p1, rfl, o1, x1⟩; have S1 := SD.call x1 o1; have z3 : W3.heap.size ≤ w3.heap.size := Ext.size (w := W3.drew) x1; have K1 := Sk.ext (Sk.drew (Sk.refl W3 W3.heap.size (w.heap.size + 1) (w.heap.size + 1))) x1 (Nat.le_refl _); have HA3 := Lib.hid (kLent a.im q w3 (ha.im.ext S1.x) hm'); clear x1 o1)
      | (go_at_call 13; ((with_reducible refine HA3.out.mono ?_)); rintro e w4 ⟨p2, rfl, o1, x1⟩; have S2 := S1.call x1 o1; have K2 := Sk.ext K1 x1 z3; have Z := S2.c6 1 rfl; have ZF := S2.f6 1 rfl; clear x1 o1))
  clear C0 K1 K2
  go_wp2_with fail
  exact bodyPost_ret (v := .agg #[.bool a.re.neg, .slice p1.A a.re.num.length p1.c, .slice p1.B a.re.den.length p1.d, .bool a.im.neg, .slice p2.A a.im.num.length p2.c, .slice p2.B a.im.den.length p2.d]) (by simp [results, Tryz.results39, go_sem, Z]) rfl ⟨p1, p2, rfl, (S2.set6 (i := 1) rfl).r 0 _ _ rfl, (S2.set6 (i := 1) rfl).r 1 _ _ rfl, S2.rd 0 1 _ _ _ _ (by decide) rfl rfl, (S2.set6 (i := 1) rfl).below⟩

set_option maxRecDepth 8000 in
set_option maxHeartbeats 4000000 in
theorem kKeptG (a : Ga) (p q r s : Adr) (base : Nat) (w : World) (h1 : OF w base p (lentF a.re)) (h2 : OF w base q (lentF a.im)) (hb : RG w r s a) (hm : Few a.re) (hm' : Few a.im) :
    Calls Tryz.prog 56 #[.agg #[.bool a.re.neg, .slice p.A a.re.num.length p.c, .slice p.B a.re.den.length p.d, .bool a.im.neg, .slice q.A a.im.num.length q.c, .slice q.B a.im.den.length q.d], .agg #[.bool a.re.neg, .slice r.A a.re.num.length r.c, .slice r.B a.re.den.length r.d, .bool a.im.neg, .slice s.A a.im.num.length s.c, .slice s.B a.im.den.length s.d]] w fun e w' => e = .returned (.bool true) ∧ Below w.heap.size w w' := by
  go_enter Tryz.func56, Tryz.ntmps56
  go_upto_region 1 with fail
  go_name_world W0 hW
  have S0 : Sta w w none _ _ W0 := hW ▸ ((Sta.start w).new _ _).new _ _
  clear hW
  simp only [World.size_alloc, List.nil_append, List.cons_append] at S0
  have C0 := S0.c6 0 rfl
  have C1 := S0.c6 1 rfl
  go_wp2_with fail
  refine (kKept a.re p r base W0 (h1.ext S0.x) (hb.re.ext S0.x) hm).mono ?_; rintro e w1 ⟨rfl, x1⟩
  have S1 := S0.ext x1
  clear x1
  clear C0 C1
  have C0 := S1.c6 0 rfl
  have C1 := S1.c6 1 rfl
  go_wp2_with fail
  refine (kKept a.im q s base w1 (h2.ext S1.x) (hb.im.ext S1.x) hm').mono ?_; rintro e w2 ⟨rfl, x1⟩
  have S2 := S1.ext x1
  clear x1
  go_wp2_with fail
  go_ret
  exact ⟨rfl, S2.below⟩

set_option maxRecDepth 8000 in
set_option maxHeartbeats 4000000 in
theorem kSameG (a : Ga) (p q r s : Adr) (w : World) (ha : RG w p q a) (hb : RG w r s a) :
    Calls Tryz.prog 89 #[.agg #[.bool a.re.neg, .slice p.A a.re.num.length p.c, .slice p.B a.re.den.length p.d, .bool a.im.neg, .slice q.A a.im.num.length q.c, .slice q.B a.im.den.length q.d], .agg #[.bool a.re.neg, .slice r.A a.re.num.length r.c, .slice r.B a.re.den.length r.d, .bool a.im.neg, .slice s.A a.im.num.length s.c, .slice s.B a.im.den.length s.d]] w fun e w' => e = .returned (.bool true) ∧ Below w.heap.size w w' := by
  go_enter Tryz.func89, Tryz.ntmps89
  go_upto_region 1 with fail
  go_name_world W0 hW
  have S0 : Sta w w none _ _ W0 := hW ▸ ((Sta.start w).new _ _).new _ _
  clear hW
  simp only [World.size_alloc, List.nil_append, List.cons_append] at S0
  have C0 := S0.c6 0 rfl
  have C1 := S0.c6 1 rfl
  go_wp2_with fail
  refine (kSame a.re p r W0 (ha.re.ext S0.x) (hb.re.ext S0.x)).mono ?_; rintro e w1 ⟨rfl, x1⟩
  have S1 := S0.ext x1
  clear x1
  clear C0 C1
  have C0 := S1.c6 0 rfl
  have C1 := S1.c6 1 rfl
  go_wp2_with fail
  refine (kSame a.im q s w1 (ha.im.ext S1.x) (hb.im.ext S1.x)).mono ?_; rintro e w2 ⟨rfl, x1⟩
  have S2 := S1.ext x1
  clear x1
  go_wp2_with fail
  go_ret
  exact ⟨rfl, S2.below⟩

set_option maxRecDepth 8000 in
set_option maxHeartbeats 4000000 in
theorem one_any (a : Ga) (x : Int) (p q r s t u : Adr) (w : World) (ha : RG w p q a) (hb : RG w r s a) (hc : RG w t u a) :
    Calls Tryz.prog 54 #[.agg #[.bool a.re.neg, .slice p.A a.re.num.length p.c, .slice p.B a.re.den.length p.d, .bool a.im.neg, .slice q.A a.im.num.length q.c, .slice q.B a.im.den.length q.d], .agg #[.bool a.re.neg, .slice r.A a.re.num.length r.c, .slice r.B a.re.den.length r.d, .bool a.im.neg, .slice s.A a.im.num.length s.c, .slice s.B a.im.den.length s.d], .agg #[.bool a.re.neg, .slice t.A a.re.num.length t.c, .slice t.B a.re.den.length t.d, .bool a.im.neg, .slice u.A a.im.num.length u.c, .slice u.B a.im.den.length u.d], .int .i64 x, .int .i64 x, .int .i64 x] w fun e w' => e = .returned (.bool true) ∧ Below w.heap.size w w' := by
  go_enter Tryz.func54, Tryz.ntmps54
  go_upto_region 1 with fail
  go_name_world W0 hW
  have S0 : Sta w w none _ _ W0 := hW ▸ (((Sta.start w).new _ _).new _ _).new _ _
  clear hW
  simp only [World.size_alloc, List.nil_append, List.cons_append] at S0
  have C0 := S0.c6 0 rfl
  have C2 := S0.c6 2 rfl
  go_wp2_with fail
  refine (kSameG a p q t u W0 (ha.ext S0.x) (hc.ext S0.x)).mono ?_; rintro e w1 ⟨rfl, x1⟩
  have S1 := S0.ext x1
  clear x1
  clear C0 C2
  have C1 := S1.c6 1 rfl
  have C2 := S1.c6 2 rfl
  go_wp2_with fail
  refine (kSameG a r s t u w1 (hb.ext S1.x) (hc.ext S1.x)).mono ?_; rintro e w2 ⟨rfl, x1⟩
  have S2 := S1.ext x1
  clear x1
  go_wp2_with fail
  go_ret
  exact ⟨by simp, S2.below⟩

end Go.Proofs.YtifonmdcicegdaaGreat

/- law04: small, Small, heavy. -/
namespace Go.Proofs.YtifonmdcicegdaaGreat
open Go Go.RowKit

theorem fewW_any (A : Option Addr) (n c : Nat) (w : World) (hn : n ≤ 9223372036854775807) (b : Bool) (hb : isLong n = b) :
    Calls Tryz.prog 172 #[.slice A n c, .int .i64 60] w fun e w' => e = .returned (.bool (!b)) ∧ w' = w := by
  unfold isLong at hb
  have HB := Lib.hid hb
  clear hb
  by_cases h1 : n ≤ 60
  · obtain rfl : b = false := by rw [← HB.out]; exact decide_eq_false (by omega)
    go_enter Tryz.func172, Tryz.ntmps172
    go_wp2
    go_ret
    exact ⟨rfl, rfl⟩
  · by_cases h2 : 2048 < n
    · by_cases h3 : n < 2057
      · obtain rfl : b = false := by rw [← HB.out]; exact decide_eq_false (by omega)
        go_enter Tryz.func172, Tryz.ntmps172
        go_wp2
        go_ret
        exact ⟨(by first | rfl | (simp; omega)), rfl⟩
      · obtain rfl : b = true := by rw [← HB.out]; exact decide_eq_true (by omega)
        go_enter Tryz.func172, Tryz.ntmps172
        go_wp2
        go_ret
        exact ⟨(by first | rfl | (simp; omega)), rfl⟩
    · obtain rfl : b = true := by rw [← HB.out]; exact decide_eq_true (by omega)
      go_enter Tryz.func172, Tryz.ntmps172
      go_wp2
      go_ret
      exact ⟨(by first | rfl | (simp; omega)), rfl⟩

/-- has a fraction too many words? -/
def longF (f : Fr) : Bool := isLong f.num.length || isLong f.den.length
set_option maxRecDepth 4000 in
set_option maxHeartbeats 1000000 in
theorem Small_any (a : Fr) (p : Adr) (w : World) (ha : RF w p a) (b : Bool) (hb : longF a = b) :
    Calls Tryz.prog 58 #[.agg #[.bool a.neg, .slice p.A a.num.length p.c, .slice p.B a.den.length p.d], .int .i64 60] w fun e w' => e = .returned (.bool (!b)) ∧ Below w.heap.size w w' := by
  unfold longF at hb
  have hl := ha.num.lim
  have hl' := ha.den.lim
  obtain ⟨c, hc⟩ : ∃ c, isLong a.num.length = c := ⟨_, rfl⟩
  obtain ⟨d, hd⟩ : ∃ d, isLong a.den.length = d := ⟨_, rfl⟩
  rw [hc, hd] at hb
  have HC := Lib.hid hc
  have HD := Lib.hid hd
  clear hc hd
  subst hb
  have H1 := Lib.hid (fun wx => fewW_any p.A a.num.length p.c wx hl c HC.out)
  have H2 := Lib.hid (fun wx => fewW_any p.B a.den.length p.d wx hl' d HD.out)
  clear hl hl'
  cases c
  · cases d
    · go_enter Tryz.func58, Tryz.ntmps58
      go_upto_region 1 with fail
      go_name_world W0 hW
      have S0 : Sta w w none _ _ W0 := hW ▸ (Sta.start w).new _ _
      clear hW
      simp only [List.nil_append] at S0
      have C0 := S0.c3 0 rfl
      go_wp2_with fail
      refine (H1.out _).mono ?_; rintro e w1 ⟨rfl, rfl⟩
      go_wp2_with fail
      refine (H2.out _).mono ?_; rintro e w2 ⟨rfl, rfl⟩
      go_wp2_with fail
      go_ret
      exact ⟨rfl, S0.below⟩
    · go_enter Tryz.func58, Tryz.ntmps58
      go_upto_region 1 with fail
      go_name_world W0 hW
      have S0 : Sta w w none _ _ W0 := hW ▸ (Sta.start w).new _ _
      clear hW
      simp only [List.nil_append] at S0
      have C0 := S0.c3 0 rfl
      go_wp2_with fail
      refine (H1.out _).mono ?_; rintro e w1 ⟨rfl, rfl⟩
      go_wp2_with fail
      refine (H2.out _).mono ?_; rintro e w2 ⟨rfl, rfl⟩
      go_wp2_with fail
      go_ret
      exact ⟨rfl, S0.below⟩
  · go_enter Tryz.func58, Tryz.ntmps58
    go_upto_region 1 with fail
    go_name_world W0 hW
    have S0 : Sta w w none _ _ W0 := hW ▸ (Sta.start w).new _ _
    clear hW
    simp only [List.nil_append] at S0
    have C0 := S0.c3 0 rfl
    go_wp2_with fail
    refine (H1.out _).mono ?_; rintro e w1 ⟨rfl, rfl⟩
    go_wp2_with fail
    go_ret
    exact ⟨by simp, S0.below⟩

def heavyB (a : Ga) : Bool := longF a.re || longF a.im
set_option maxRecDepth 4000 in
set_option maxHeartbeats 1000000 in
theorem heavy_any (a : Ga) (p q : Adr) (w : World) (ha : RG w p q a) (b : Bool) (hb : heavyB a = b) :
    Calls Tryz.prog 38 #[.agg #[.bool a.re.neg, .slice p.A a.re.num.length p.c, .slice p.B a.re.den.length p.d, .bool a.im.neg, .slice q.A a.im.num.length q.c, .slice q.B a.im.den.length q.d]] w fun e w' => e = .returned (.bool b) ∧ Below w.heap.size w w' := by
  unfold heavyB at hb
  obtain ⟨c, hc⟩ : ∃ c, longF a.re = c := ⟨_, rfl⟩
  obtain ⟨d, hd⟩ : ∃ d, longF a.im = d := ⟨_, rfl⟩
  rw [hc, hd] at hb
  have HC := Lib.hid hc
  have HD := Lib.hid hd
  clear hc hd
  subst hb
  cases c
  · cases d
    · go_enter Tryz.func38, Tryz.ntmps38
      go_upto_region 1 with fail
      go_name_world W0 hW
      have S0 : Sta w w none _ _ W0 := hW ▸ (Sta.start w).new _ _
      clear hW
      simp only [List.nil_append] at S0
      have C0 := S0.c6 0 rfl
      go_wp2_with fail
      refine (Small_any a.re p W0 (ha.re.ext S0.x) _ HC.out).mono ?_; rintro e w1 ⟨rfl, x1⟩
      have S1 := S0.ext x1
      clear x1
      clear C0
      have C0 := S1.c6 0 rfl
      go_wp2_with fail
      refine (Small_any a.im q w1 (ha.im.ext S1.x) _ HD.out).mono ?_; rintro e w2 ⟨rfl, x1⟩
      have S2 := S1.ext x1
      clear x1
      go_wp2_with fail
      go_ret
      exact ⟨rfl, S2.below⟩
    · go_enter Tryz.func38, Tryz.ntmps38
      go_upto_region 1 with fail
      go_name_world W0 hW
      have S0 : Sta w w none _ _ W0 := hW ▸ (Sta.start w).new _ _
      clear hW
      simp only [List.nil_append] at S0
      have C0 := S0.c6 0 rfl
      go_wp2_with fail
      refine (Small_any a.re p W0 (ha.re.ext S0.x) _ HC.out).mono ?_; rintro e w1 ⟨rfl, x1⟩
      have S1 := S0.ext x1
      clear x1
      clear C0
      have C0 := S1.c6 0 rfl
      go_wp2_with fail
      refine (Small_any a.im q w1 (ha.im.ext S1.x) _ HD.out).mono ?_; rintro e w2 ⟨rfl, x1⟩
      have S2 := S1.ext x1
      clear x1
      go_wp2_with fail
      go_ret
      exact ⟨rfl, S2.below⟩
  · go_enter Tryz.func38, Tryz.ntmps38
    go_upto_region 1 with fail
    go_name_world W0 hW
    have S0 : Sta w w none _ _ W0 := hW ▸ (Sta.start w).new _ _
    clear hW
    simp only [List.nil_append] at S0
    have C0 := S0.c6 0 rfl
    go_wp2_with fail
    refine (Small_any a.re p W0 (ha.re.ext S0.x) _ HC.out).mono ?_; rintro e w1 ⟨rfl, x1⟩
    have S1 := S0.ext x1
    clear x1
    clear C0
    have C0 := S1.c6 0 rfl
    go_wp2_with fail
    go_ret
    exact ⟨by simp, S1.below⟩

theorem few_of {f : Fr} (h : longF f = false) : Few f := by
  unfold longF isLong at h
  simp only [Bool.or_eq_false_iff, decide_eq_false_iff_not] at h
  exact ⟨by omega, by omega⟩
theorem heavy_few {a : Ga} (h : heavyB a = false) : Few a.re ∧ Few a.im := by
  unfold heavyB at h
  simp only [Bool.or_eq_false_iff] at h
  exact ⟨few_of h.1, few_of h.2⟩

end Go.Proofs.YtifonmdcicegdaaGreat

/- Lists of fractions at addresses: their cells; do they lie apart? -/
namespace Go.Proofs.YtifonmdcicegdaaGreat
open Go Go.RowKit

/-- the cells of fractions side by side -/
def cellsF : List (Adr × Fr) → List Value
  | [] => []
  | (p, f) :: L => .bool f.neg :: .slice p.A f.num.length p.c :: .slice p.B f.den.length p.d :: cellsF L
theorem cellsF_len : ∀ L : List (Adr × Fr), (cellsF L).length = L.length * 3
  | [] => rfl
  | (p, f) :: L => by simp only [cellsF, List.length_cons, cellsF_len L]; omega
theorem cellsF_app : ∀ L M : List (Adr × Fr), cellsF (L ++ M) = cellsF L ++ cellsF M
  | [], M => rfl
  | (p, f) :: L, M => by simp only [List.cons_append, cellsF, cellsF_app L M]
theorem cellsF_at : ∀ (L : List (Adr × Fr)) (i : Nat) (p : Adr) (f : Fr), L[i]? = some (p, f) → (cellsF L)[i * 3]? = some (.bool f.neg) ∧ (cellsF L)[i * 3 + 1]? = some (.slice p.A f.num.length p.c) ∧ (cellsF L)[i * 3 + 2]? = some (.slice p.B f.den.length p.d)
  | [], i, p, f, h => by simp at h
  | (q, g) :: L, 0, p, f, h => by simp at h; obtain ⟨rfl, rfl⟩ := h; exact ⟨rfl, rfl, rfl⟩
  | (q, g) :: L, i + 1, p, f, h => by
    obtain ⟨h1, h2, h3⟩ := cellsF_at L i p f (by simpa using h)
    rw [show (i + 1) * 3 = i * 3 + 1 + 1 + 1 by omega]
    simp only [cellsF, List.getElem?_cons_succ]
    exact ⟨h1, h2, h3⟩
theorem cellsF_one (L : List (Adr × Fr)) : ∀ u ∈ cellsF L, u.oneCell' = true := by
  induction L with
  | nil => intro u hu; simp [cellsF] at hu
  | cons x L ih =>
    intro u hu
    obtain ⟨p, f⟩ := x
    simp only [cellsF, List.mem_cons] at hu
    rcases hu with rfl | rfl | rfl | hu
    · rfl
    · rfl
    · rfl
    · exact ih u hu
theorem cellsF_take (L : List (Adr × Fr)) (k : Nat) : cellsF (L.take k) = (cellsF L).take (k * 3) := by
  have h := cellsF_app (L.take k) (L.drop k)
  rw [List.take_append_drop] at h
  have e : (cellsF L).take (k * 3) = (cellsF (L.take k) ++ cellsF (L.drop k)).take (k * 3) := by rw [← h]
  rw [e]
  have hl : (cellsF (L.take k)).length ≤ k * 3 := by rw [cellsF_len, List.length_take]; omega
  by_cases hk : k ≤ L.length
  · have hl2 : (cellsF (L.take k)).length = k * 3 := by rw [cellsF_len, List.length_take]; omega
    rw [← hl2, List.take_left']
    rfl
  · rw [show L.drop k = [] from List.drop_of_length_le (by omega)]
    simp only [cellsF, List.append_nil]
    exact (List.take_of_length_le hl).symm
/-- a block or row holds them -/
def CellsAt (g : Nat) (L : List (Adr × Fr)) (w : World) : Prop := ∀ j u, (cellsF L)[j]? = some u → w.cell? ⟨g, j, none⟩ = some u
theorem CellsAt.ext {g : Nat} {L : List (Adr × Fr)} {w w' : World} (h : CellsAt g L w) (x : Ext w w') : CellsAt g L w' := fun j u hu => x.cell (h j u hu)
theorem Var.cellsAt {g : Nat} {L : List (Adr × Fr)} {w : World} (h : Var g (cellsF L) w) : CellsAt g L w := h.at_

/-- the list's fractions, by an index over 2 n rows -/
def rowA (L : List (Adr × Fr)) (j : Nat) : Option Addr := if j % 2 = 0 then ((L[j / 2]?).map (·.1.A)).getD none else ((L[j / 2]?).map (·.1.B)).getD none
def rowC (L : List (Adr × Fr)) (j : Nat) : Nat := if j % 2 = 0 then ((L[j / 2]?).map (·.1.c)).getD 0 else ((L[j / 2]?).map (·.1.d)).getD 0
def rowX (L : List (Adr × Fr)) (j : Nat) : List Int := if j % 2 = 0 then ((L[j / 2]?).map (·.2.num)).getD [] else ((L[j / 2]?).map (·.2.den)).getD []
theorem row_even {L : List (Adr × Fr)} {i : Nat} {p : Adr} {f : Fr} (h : L[i]? = some (p, f)) : rowA L (2 * i) = p.A ∧ rowC L (2 * i) = p.c ∧ rowX L (2 * i) = f.num := by
  have e1 : 2 * i % 2 = 0 := by omega
  have e2 : 2 * i / 2 = i := by omega
  simp [rowA, rowC, rowX, e1, e2, h]
theorem row_odd {L : List (Adr × Fr)} {i : Nat} {p : Adr} {f : Fr} (h : L[i]? = some (p, f)) : rowA L (2 * i + 1) = p.B ∧ rowC L (2 * i + 1) = p.d ∧ rowX L (2 * i + 1) = f.den := by
  have e1 : (2 * i + 1) % 2 = 1 := by omega
  have e2 : (2 * i + 1) / 2 = i := by omega
  simp [rowA, rowC, rowX, e1, e2, h]
theorem kApart (L : List (Adr × Fr)) (g c : Nat) (w0 w : World) (hc : CellsAt g L w) (hr : ∀ (i : Nat) (p : Adr) (f : Fr), L[i]? = some (p, f) → OF w w0.heap.size p f ∧ Few f)
    (hd : ∀ (i j : Nat) (p : Adr) (f : Fr) (q : Adr) (h : Fr), i ≠ j → L[i]? = some (p, f) → L[j]? = some (q, h) → p.Dis q) (h0 : Below w0.heap.size w0 w) (hn : 0 < L.length) (hn2 : L.length ≤ 10000) (n : Nat) (hl : L.length = n) :
    Calls Tryz.prog 37 #[.slice (some ⟨g, 0, none⟩) n c] w fun e w' => e = .returned (.bool true) ∧ Below w0.heap.size w0 w' := by
  subst hl
  have at_ : ∀ i, i < L.length → ∃ p f, L[i]? = some (p, f) := fun i hi => ⟨_, _, List.getElem?_eq_getElem hi⟩
  have par : ∀ j, j < 2 * L.length → ∃ i p f, L[i]? = some (p, f) ∧ (j = 2 * i ∨ j = 2 * i + 1) := fun j hj => by
    obtain ⟨p, f, h⟩ := at_ (j / 2) (by omega)
    exact ⟨j / 2, p, f, h, by omega⟩
  refine kapartR_any w0 w g 0 L.length c (rowA L) (rowC L) (rowX L) ⟨fun j hj => ?_, fun j hj => ?_⟩ h0 hn hn2 (fun j hj => ?_) (fun i j hi hj hij a b ha hb => ?_) (fun j hj => ?_)
  · obtain ⟨p, f, h⟩ := at_ j hj
    obtain ⟨e1, e2, e3⟩ := row_even h
    rw [e1, e2, e3, Nat.zero_add]
    exact hc _ _ (cellsF_at L j p f h).2.1
  · obtain ⟨p, f, h⟩ := at_ j hj
    obtain ⟨e1, e2, e3⟩ := row_odd h
    rw [e1, e2, e3, Nat.zero_add]
    exact hc _ _ (cellsF_at L j p f h).2.2
  · obtain ⟨i, p, f, h, rfl | rfl⟩ := par j hj
    · obtain ⟨e1, e2, e3⟩ := row_even h
      rw [e1, e2, e3]; exact (hr i p f h).1.num
    · obtain ⟨e1, e2, e3⟩ := row_odd h
      rw [e1, e2, e3]; exact (hr i p f h).1.den
  · obtain ⟨k, p, f, h, ek⟩ := par i hi
    obtain ⟨l, q, t, h', el⟩ := par j hj
    obtain ⟨a1, _, _⟩ := row_even h
    obtain ⟨a2, _, _⟩ := row_odd h
    obtain ⟨b1, _, _⟩ := row_even h'
    obtain ⟨b2, _, _⟩ := row_odd h'
    by_cases e : k = l
    · subst e
      rw [h] at h'
      cases h'
      have ap := (hr k p f h).1.ap
      rcases ek with rfl | rfl <;> rcases el with rfl | rfl
      · exact absurd rfl hij
      · rw [a1] at ha; rw [b2] at hb; exact ap a b ha hb
      · rw [a2] at ha; rw [b1] at hb; exact (ap b a hb ha).symm
      · exact absurd rfl hij
    · have D := hd k l p f q t e h h'
      rcases ek with rfl | rfl <;> rcases el with rfl | rfl
      · rw [a1] at ha; rw [b1] at hb; exact D.aa a b ha hb
      · rw [a1] at ha; rw [b2] at hb; exact D.ab a b ha hb
      · rw [a2] at ha; rw [b1] at hb; exact D.ba a b ha hb
      · rw [a2] at ha; rw [b2] at hb; exact D.bb a b ha hb
  · obtain ⟨i, p, f, h, rfl | rfl⟩ := par j hj
    · obtain ⟨e1, e2, e3⟩ := row_even h
      rw [e3]; exact ⟨(hr i p f h).2.1, (hr i p f h).1.wf.num⟩
    · obtain ⟨e1, e2, e3⟩ := row_odd h
      rw [e3]; exact ⟨(hr i p f h).2.2, (hr i p f h).1.wf.den⟩

/-- rows picked out of a state's -/
def pick {α : Type} (R : List α) : List Nat → List α
  | [] => []
  | i :: I => match R[i]? with
    | some x => x :: pick R I
    | none => pick R I
theorem pick_at {α : Type} {R : List α} : ∀ (I : List Nat) (k : Nat) (x : α), (∀ i ∈ I, i < R.length) → (pick R I)[k]? = some x → ∃ i, I[k]? = some i ∧ R[i]? = some x
  | [], k, x, _, h => by simp [pick] at h
  | i :: I, k, x, hI, h => by
    have hi := hI i (by simp)
    have e : R[i]? = some R[i] := List.getElem?_eq_getElem hi
    simp only [pick, e] at h
    cases k with
    | zero => simp at h; subst h; exact ⟨i, rfl, e⟩
    | succ k =>
      obtain ⟨j, h1, h2⟩ := pick_at I k x (fun j hj => hI j (by simp [hj])) (by simpa using h)
      exact ⟨j, by simpa using h1, h2⟩
section
variable {wb w0 w w' : World} {row : Option Nat} {V : List (Nat × List Value)} {R : List (Adr × Fr)}
theorem Sta.disl (S : Sta wb w0 row V R w) {I : List Nat} (hI : ∀ i ∈ I, i < R.length) (hd : I.Nodup) (i j : Nat) (p : Adr) (f : Fr) (q : Adr) (h : Fr) (hij : i ≠ j) (h1 : (pick R I)[i]? = some (p, f)) (h2 : (pick R I)[j]? = some (q, h)) : p.Dis q := by
  obtain ⟨a, ha, h3⟩ := pick_at I i _ hI h1
  obtain ⟨b, hb, h4⟩ := pick_at I j _ hI h2
  have hab : a ≠ b := fun e => by
    subst e
    obtain ⟨hi, ei⟩ := List.getElem?_eq_some_iff.1 ha
    obtain ⟨hj, ej⟩ := List.getElem?_eq_some_iff.1 hb
    rcases Nat.lt_or_gt_of_ne hij with h | h
    · exact List.pairwise_iff_getElem.1 hd i j hi hj h (ei.trans ej.symm)
    · exact List.pairwise_iff_getElem.1 hd j i hj hi h (ej.trans ei.symm)
  rcases Nat.lt_or_gt_of_ne hab with h | h
  · exact S.rd a b p f q _ h h3 h4
  · exact (S.rd b a q _ p f h h4 h3).symm
theorem Sta.rl (S : Sta wb w0 row V R w) {I : List Nat} (hI : ∀ i ∈ I, i < R.length) (i : Nat) (p : Adr) (f : Fr) (h1 : (pick R I)[i]? = some (p, f)) : OF w w0.heap.size p f := by
  obtain ⟨a, _, h3⟩ := pick_at I i _ hI h1
  exact S.r a p f h3
theorem Sta.unlent (S : Sta wb w0 row V R w) {i : Nat} {p : Adr} {f : Fr} (hi : R[i]? = some (p, lentF f)) (wf : f.Wf) : Sta wb w0 row V (R.set i (p, f)) w := by
  refine ⟨S.v, S.vn, S.vb, S.vw, fun j q g h => ?_, fun j q g k l vs h h' => ?_, fun j k q g t s hjk h h' => ?_, S.x, S.g, S.hb⟩
  · rcases look_set h with ⟨_, h⟩ | ⟨_, h⟩
    · cases h; exact (S.r i _ _ hi).unlent wf
    · exact S.r j q g h
  · rcases look_set h with ⟨_, h⟩ | ⟨_, h⟩
    · cases h; exact S.ro i _ _ k l vs hi h'
    · exact S.ro j q g k l vs h h'
  · rcases look_set h with ⟨e, h1⟩ | ⟨_, h1⟩ <;> rcases look_set h' with ⟨e', h2⟩ | ⟨_, h2⟩
    · omega
    · cases h1; exact S.rd i k _ _ _ _ (by omega) hi h2
    · cases h2; exact S.rd j i _ _ _ _ (by omega) h1 hi
    · exact S.rd j k _ _ _ _ hjk h1 h2
end
section
variable {wb w0 w w' : World} {row : Option Nat} {V : List (Nat × List Value)} {R : List (Adr × Fr)}
theorem Sta.rg_lent (S : Sta wb w0 row V R w) (i : Nat) {p q : Adr} {a : Ga} (hi : R[i]? = some (p, lentF a.re)) (hj : R[i + 1]? = some (q, lentF a.im)) (wa : a.Wf) : RG w p q a := ⟨((S.r i _ _ hi).unlent wa.re).rf, ((S.r (i + 1) _ _ hj).unlent wa.im).rf⟩
theorem Sta.rg (S : Sta wb w0 row V R w) (i : Nat) {p q : Adr} {a : Ga} (hi : R[i]? = some (p, a.re)) (hj : R[i + 1]? = some (q, a.im)) : RG w p q a := ⟨S.rf i hi, S.rf (i + 1) hj⟩
end
theorem news_of (X : World) (M : List (Adr × Fr)) (t : TypeId) : ∀ j u, (cellsF M)[j]? = some u → (X.alloc (.cells (cellsF M).toArray t)).cell? ((⟨X.heap.size, 0, none⟩ : Addr).add j) = some u := fun j u hu => by
  rw [add_plain0]; exact (Var.new X (cellsF M) t).at_ j u hu
/-- an append of fractions at a step of a drawn region, guarded or not -/
theorem step_appF {ops : Array Oper} {o : Oper} {a : Act} {w : World} {K : Act → World → Prop} {Q : Exit → Act → World → Prop} {E : Prop} (hgd : Region.wanted o (yielded ops a.tmps) = true) (s x : Operand)
    (ho : o.op = .call { callee := .builtin .append, args := #[s, x], argTypes := #[26, 26] })
    (base : Nat) (v : Value) (n : Nat) (L M : List (Adr × Fr)) (hs : a.eval s = v) (hown : w.ownsRow base 24 3 v n (cellsF L))
    (ad : Addr) (m c : Nat) (hx : a.eval x = .slice (some ad) m c) (hl : M.length = m) (hnews : ∀ j u, (cellsF M)[j]? = some u → w.cell? (ad.add j) = some u)
    (hm : 0 < m) (hm2 : m ≤ 1000000) (hn : n ≤ 1000000) (hbase : base ≤ w.heap.size)
    (h : ∀ g cap w', w'.ownsRow base 24 3 (.slice (some ⟨g, 0, none⟩) (n + m) cap) (n + m) (cellsF (L ++ M)) → w.grownBy w' v.ownBlock → (v.ownBlock = some g ∨ g = w.heap.size) → g < w'.heap.size → K (a.put o.dst (.slice (some ⟨g, 0, none⟩) (n + m) cap)) w') :
    if Region.wanted o (yielded ops a.tmps) = true then Oper.wp Tryz.prog o a w K Q else E := by
  obtain ⟨i0, hi, hz0, hz1, hz2⟩ := info_parts info_ratio
  rw [if_pos hgd]
  refine wp_append_lies w s x 26 ho base 24 i0 _ 3 56 Tryz.underlying26 hi hz0 hz1 hz2 rfl (by decide) v n _ hs hown ad m c (cellsF M) hx (by rw [cellsF_len, hl]) hnews (cellsF_one M) hm (by unfold maxLen; omega) (by omega) hbase w.heap.size rfl ?_
  intro g cap w' h1 h2 h3 h4
  exact h g cap w' (by rw [cellsF_app]; exact h1) h2 h3 h4

end Go.Proofs.YtifonmdcicegdaaGreat

/- PartsOf. -/
namespace Go.Proofs.YtifonmdcicegdaaGreat
open Go Go.RowKit

set_option maxRecDepth 8000 in
set_option maxHeartbeats 4000000 in
theorem kParts (L : List (Adr × Fr)) (n g c : Nat) (w : World) (hL : L.length = 2 * n) (hc : CellsAt g L w) (hg : g < w.heap.size) (hn : n ≤ 10000) :
    Calls Tryz.prog 57 #[.slice (some ⟨g, 0, none⟩) n c] w fun e w' => ∃ v, e = .returned v ∧ w'.ownsRow w.heap.size 24 3 v (2 * n) (cellsF L) ∧ Below w.heap.size w w' := by
  have HC := Lib.hid hc
  have HL := Lib.hid hL
  clear hc hL
  go_enter Tryz.func57, Tryz.ntmps57
  go_wp2_with fail
  go_loopw [3, 4] (fun s t wr => ∃ (i : Nat) (v : Value), i ≤ n ∧ v = s ∧ t = .int .i64 i ∧ Hid (wr.ownsRow w.heap.size 24 3 v (2 * i) (cellsF (L.take (2 * i)))) ∧ Hid (Below w.heap.size w wr)) (fun _ t _ => n - (intOf t).toNat)
  case atStart => exact ⟨0, .slice none 0 0, by omega, rfl, rfl, World.ownsRow_nil w _ _ 3, Below.refl _ _⟩
  case round =>
    obtain ⟨i, v, hi, rfl, rfl, HV, HW⟩ := hrel
    by_cases hin : i < n
    · obtain ⟨p, f, e1⟩ : ∃ p f, L[2 * i]? = some (p, f) := ⟨_, _, List.getElem?_eq_getElem (by have := HL.out; omega)⟩
      obtain ⟨q, h, e2⟩ : ∃ q h, L[2 * i + 1]? = some (q, h) := ⟨_, _, List.getElem?_eq_getElem (by have := HL.out; omega)⟩
      obtain ⟨b0, b1, b2⟩ := cellsF_at L _ _ _ e1
      obtain ⟨b3, b4, b5⟩ := cellsF_at L _ _ _ e2
      have c0 := Ext.cell HW.out (HC.out _ _ b0)
      have c1 := Ext.cell HW.out (HC.out _ _ b1)
      have c2 := Ext.cell HW.out (HC.out _ _ b2)
      have c3 := Ext.cell HW.out (HC.out _ _ b3)
      have c4 := Ext.cell HW.out (HC.out _ _ b4)
      have c5 := Ext.cell HW.out (HC.out _ _ b5)
      rw [show 2 * i * 3 = i * 6 by omega] at c0 c1 c2
      rw [show (2 * i + 1) * 3 = i * 6 + 3 by omega] at c3 c4 c5
      have HT := Lib.hid (show L.take (2 * i) ++ [(p, f), (q, h)] = L.take (2 * (i + 1)) by
        rw [show 2 * (i + 1) = 2 * i + 1 + 1 by omega, List.take_add_one, List.take_add_one, e1, e2]; simp)
      have HVX := Lib.hid (fun wx (hx : Ext wr wx) => ownsRow_ext HV.out hx)
      have HGE := Lib.hid (ownsRow_ge HV.out)
      have hws := Ext.size HW.out
      have hgr : g < wr.heap.size := by omega
      clear e1 e2 b0 b1 b2 b3 b4 b5
      go_wp2_with fail
      go_region_held3 (fun w' => ∀ o, w'.cell? ⟨g, o, none⟩ = wr.cell? ⟨g, o, none⟩) (first | (with_reducible exact K1) | (intro o; first | rfl | (exact World.cell?_alloc_lt _ _ _ (by simp; omega))))
        ((refine step_appF rfl _ _ rfl w.heap.size v (2 * i) (L.take (2 * i)) [(p, f), (q, h)] rfl (HVX.out _ (by first | exact ((Ext.refl wr).alloc _).drew | exact (Ext.refl wr).drew.alloc _)) _ 2 _ rfl rfl (news_of _ [(p, f), (q, h)] _) (by decide) (by decide) (by omega) (by simp; omega) ?_; intro g2 cap w2 hown hgrow hat hlt; have K1 : ∀ o, w2.cell? ⟨g, o, none⟩ = wr.cell? ⟨g, o, none⟩ := fun o => (World.cell?_of_block (a := ⟨g, o, none⟩) (hgrow.block g (by simp; omega) (fun e => by have := HGE.out g e.symm; omega))).trans (by first | rfl | exact World.cell?_alloc_lt _ _ _ (by simp; omega))))
      all_goals
        have HO := Lib.hid (HT.out ▸ hown)
        have HX := Lib.hid (show Below w.heap.size w w2 by first | exact Ext.grown (Ext.drew (Ext.alloc HW.out _)) hgrow HGE.out | exact Ext.grown (Ext.alloc (Ext.drew HW.out) _) hgrow HGE.out)
        clear hown hgrow hat hlt K1 c0 c1 c2 c3 c4 c5
        go_wp2_with fail
        go_roundw
        case rel => exact ⟨i + 1, .slice (some ⟨g2, 0, none⟩) (2 * i + 2) cap, by omega, rfl, by go_num, HO.out, HX.out⟩
        case measure => simp [intOf]; omega
    · obtain rfl : i = n := by omega
      go_wp2_with fail
      go_ret
      exact ⟨v, rfl, by have h1 := HV.out; rw [List.take_of_length_le (by rw [HL.out]; exact Nat.le_refl _)] at h1; exact h1, HW.out⟩

theorem kPartsA (L : List (Adr × Fr)) (n : Nat) (cs : List Value) (X : World) (t : TypeId) (hcs : cs = cellsF L) (hL : L.length = 2 * n) (hn : n ≤ 10000) :
    Calls Tryz.prog 57 #[.slice (some ⟨X.heap.size, 0, none⟩) n n] (X.alloc (.cells cs.toArray t)) fun e w' => ∃ v, e = .returned v ∧ w'.ownsRow X.heap.size 24 3 v (2 * n) (cellsF L) ∧ Below (X.alloc (.cells cs.toArray t)).heap.size (X.alloc (.cells cs.toArray t)) w' := by
  subst hcs
  refine (kParts L n X.heap.size n _ hL (Var.new X (cellsF L) t).cellsAt (by simp) hn).mono ?_
  rintro e w' ⟨v, rfl, ow, x⟩
  exact ⟨v, rfl, ⟨ow.1, ow.2.imp id (fun ⟨g, cap, cur, h1, h2, h3⟩ => ⟨g, cap, cur, h1, by simp at h2; omega, h3⟩)⟩, x⟩

end Go.Proofs.YtifonmdcicegdaaGreat

