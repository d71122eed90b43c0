/- KeptRatios. -/
import Derived.Test.YtnhgagfkepmanaaK7
namespace Go.Proofs.Ytnhgagfkepmanaa
open Go Go.RowKit

set_option maxRecDepth 4000 in
set_option maxHeartbeats 2000000 in
theorem kkeptRs_any (g c : Nat) (A : Option Addr) (n cl base : Nat) (P' P : Nat → Option Addr) (C' C : Nat → Nat) (L : Nat → Fr) (w : World) (hR : Rows2 w base (.slice (some ⟨g, 0, none⟩) (n + 3) c) (n + 3) P' C' (LF L n) (LX L n))
    (hf : FsA A n P C L w) (hn : n ≤ 300) (hm : ∀ j, j < n → (L j).num.length ≤ 1000000 ∧ (L j).den.length ≤ 1000000) :
    Calls Try.prog 17 #[.slice (some ⟨g, 0, none⟩) (n + 3 : Nat) c, .slice A n cl] w fun e w' => e = .returned (.bool true) ∧ Ext w w' := by
  have HR := Lib.hid hR
  have H := Lib.hid hf.1
  have HF := Lib.hid hf.2
  have HM := Lib.hid hm
  have hs : IntKind.i64.wrap ((n : Int) + 3) = (n : Int) + 3 := IntWalk.i64_in _ (by omega)
  have hb : (((n : Int) + 3) != ((n : Int) + 3)) = false := by simp
  clear hR hf hm
  go_enter Try.func17, Try.ntmps17
  go_wp2_with fail
  go_loopw [5] (fun i wr => ∃ (k : Nat), k ≤ n ∧ i = .int .i64 k ∧ Hid (Ext w wr)) (fun i _ => n - (intOf i).toNat)
  case atStart => exact ⟨0, by omega, rfl, Ext.refl w⟩
  case round =>
    obtain ⟨k, hk, rfl, HX⟩ := hrel
    by_cases hkn : k < n
    · obtain ⟨gr, o, rfl⟩ := H.out k hkn
      have HFF := Lib.hid ((HF.out gr o rfl).ext HX.out)
      have e0 := HFF.out.neg k hkn
      have e1 := HFF.out.num k hkn
      have e2 := HFF.out.den k hkn
      obtain ⟨f0, f1, f2⟩ := (HR.out.ext HX.out).cells k (by omega)
      rw [LF_lt hkn] at f0 f1 f2
      have HKK := Lib.hid (fun wx (hx : Ext wr wx) => by
        have o1 := (HR.out.ext HX.out).own (2 * k) (by omega)
        have o2 := (HR.out.ext HX.out).own (2 * k + 1) (by omega)
        rw [LX_num hkn] at o1
        rw [LX_den hkn] at o2
        exact kkeptR_any (L k) (P' (2 * k)) (P' (2 * k + 1)) (P (2 * k)) (P (2 * k + 1)) (C' (2 * k)) (C' (2 * k + 1)) (C (2 * k)) (C (2 * k + 1)) wx (o1.rd.ext hx) (o2.rd.ext hx) ((HFF.out.rnum k hkn).ext hx) ((HFF.out.rden k hkn).ext hx) (HM.out k hkn).1 (HM.out k hkn).2)
      have hlt : (k : Int) < (n : Int) + 3 := by omega
      go_wp2_with fail
      go_region_held3 (fun w' => w'.cell? ⟨g, k * 3, none⟩ = some (.bool (L k).neg) ∧ w'.cell? ⟨g, k * 3 + 1, none⟩ = some (.slice (P' (2 * k)) (L k).num.length (C' (2 * k))) ∧ w'.cell? ⟨g, k * 3 + 2, none⟩ = some (.slice (P' (2 * k + 1)) (L k).den.length (C' (2 * k + 1))) ∧ w'.cell? ⟨gr, o + k * 3, none⟩ = some (.bool (L k).neg) ∧ w'.cell? ⟨gr, o + k * 3 + 1, none⟩ = some (.slice (P (2 * k)) (L k).num.length (C (2 * k))) ∧ w'.cell? ⟨gr, o + k * 3 + 2, none⟩ = some (.slice (P (2 * k + 1)) (L k).den.length (C (2 * k + 1)))) (first | exact ⟨f0, f1, f2, e0, e1, e2⟩ | exact ⟨hx1.cell f0, hx1.cell f1, hx1.cell f2, hx1.cell e0, hx1.cell e1, hx1.cell e2⟩)
        ((go_at_call 35; (with_reducible refine (HKK.out _ ((Ext.refl wr).drew)).mono ?_); rintro e w1 ⟨rfl, hx⟩; have hx1 := (Ext.refl wr).drew.trans hx))
      have HX1 := Lib.hid (HX.out.trans hx1)
      clear e0 e1 e2 f0 f1 f2 hx hx1
      go_wp2_with fail
      go_roundw
      case rel => exact ⟨k + 1, by omega, by go_num, HX1.out⟩
      case measure => simp [intOf]; omega
    · obtain rfl : k = n := by omega
      clear hkn hk
      go_wp2_with fail
      go_loopw [6] (fun i wt => ∃ (m : Nat), m ≤ 3 ∧ i = .int .i64 ((k + m : Nat) : Int) ∧ Hid (Ext w wt)) (fun i _ => k + 3 - (intOf i).toNat)
      case atStart => exact ⟨0, by omega, rfl, HX.out⟩
      case round =>
        clear HX
        obtain ⟨m, hm, rfl, HX⟩ := hrel
        by_cases hm3 : m < 3
        · obtain ⟨f0, f1, f2⟩ := (HR.out.ext HX.out).cells (k + m) (by omega)
          have o1 := Lib.hid ((HR.out.ext HX.out).own (2 * (k + m)) (by omega))
          have o2 := Lib.hid ((HR.out.ext HX.out).own (2 * (k + m) + 1) (by omega))
          rw [LF_ge (by omega)] at f0 f1 f2
          rw [LX_num' (by omega)] at o1
          rw [LX_den' (by omega)] at o2
          have HO := Lib.hid (Own.lit wr #[.int .u32 77] [77] rfl (by simp))
          have HXA := Lib.hid ((Ext.refl wr).alloc (.cells #[.int .u32 77] 52))
          have HSM := Lib.hid (ksameR_any true true (P' (2 * (k + m))) (P' (2 * (k + m) + 1)) (some ⟨wr.heap.size, 0, none⟩) none [77] [] [77] [] (C' (2 * (k + m))) (C' (2 * (k + m) + 1)) 1 0 _ (o1.out.rd.ext HXA.out) (o2.out.rd.ext HXA.out) HO.out.rd (Rd.nil _) true (decide_eq_true rfl))
          have hlt : ((k + m : Nat) : Int) < (k : Int) + 3 := by omega
          go_wp2_with fail
          refine HSM.out.mono ?_; rintro e w1 ⟨rfl, hx⟩
          have HX1 := Lib.hid ((HX.out.trans HXA.out).trans hx)
          clear f0 f1 f2 hx
          go_wp2_with fail
          go_roundw
          case rel => exact ⟨m + 1, by omega, by go_num, HX1.out⟩
          case measure => simp [intOf]; omega
        · obtain rfl : m = 3 := by omega
          go_wp2_with fail
          go_ret
          exact ⟨rfl, HX.out⟩

end Go.Proofs.Ytnhgagfkepmanaa
