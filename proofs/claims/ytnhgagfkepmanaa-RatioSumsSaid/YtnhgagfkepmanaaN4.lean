/- slices.Clone, nat.Of. -/
import Derived.Test.YtnhgagfkepmanaaN3
namespace Go.Proofs.Ytnhgagfkepmanaa
open Go Go.RowKit

set_option maxHeartbeats 400000 in
theorem clone_any (A : Option Addr) (xs : List Int) (c : Nat) (w : World) (h : Rd w A c xs) (hl : xs.length ≤ 35184372088832) :
    Calls Try.prog 55 #[.slice A xs.length c] w fun e w' => ∃ A' c', e = .returned (.slice A' xs.length c') ∧ Own w' w.heap.size A' c' xs ∧ Ext w w' := by
  have heq := fun (wx : World) (B : Option Addr) (n k : Nat) => Lib.run_eql_slice_nil (P := Try.prog) wx 22 52 B n k 0 0 Try.underlying22
  cases A with
  | none =>
    obtain rfl : c = 0 := h.none_ rfl
    obtain rfl : xs = [] := List.eq_nil_of_length_eq_zero (Nat.le_zero.1 h.cap)
    clear h
    go_enter Try.func55, Try.ntmps55
    go_wp2
    go_ret
    exact ⟨none, 0, rfl, Own.nil _ _, Ext.refl _⟩
  | some a =>
    have H := Lib.hid h
    clear h
    go_enter Try.func55, Try.ntmps55
    go_wp2_with (at_builtin; refine wpList_app rfl _ _ rfl w.heap.size (some ⟨w.heap.size, 0, none⟩) 0 [] 0 rfl rfl (Own.lit w #[] [] rfl (by simp)) _ _ xs xs.length rfl rfl (H.out.ext ((Ext.refl w).alloc _)) (by simpa using hl) (by simp) ?_; intro A' c' w1 hO hg)
    have HO := Lib.hid hO
    have HX : Hid (Ext w w1) := ((Ext.refl w).alloc _).grown hg (fun k hk => by cases hk; exact Nat.le_refl _)
    clear hO hg heq
    go_wp2_with fail
    go_ret
    exact ⟨A', c', by simp, HO.out, HX.out⟩

theorem of_words (x : Nat) : val [(x : Int) % 4294967296, (x : Int) / 4294967296] = x := by
  show V _ 2 = _
  rw [V_cons, V_cons, V_zero]
  omega
theorem wf_of (x : Nat) (h : x < 18446744073709551616) : Wf [(x : Int) % 4294967296, (x : Int) / 4294967296] := by
  intro z hz
  simp only [List.mem_cons, List.not_mem_nil, or_false] at hz
  omega

set_option maxHeartbeats 400000 in
theorem of_any (x : Nat) (w : World) (hx : x < 18446744073709551616) :
    Calls Try.prog 43 #[.int .u64 x] w fun e w' => ∃ A' c', e = .returned (.slice A' (wd x).length c') ∧ Own w' w.heap.size A' c' (wd x) ∧ Ext w w' := by
  have ho := Own.lit w #[.int .u32 ((x : Int) % 4294967296), .int .u32 ((x : Int) / 4294967296)] [(x : Int) % 4294967296, (x : Int) / 4294967296] rfl (by simp)
  have ht := tl_all (wf_of x hx)
  rw [of_words, Int.toNat_natCast] at ht
  have HL := Lib.hid (show tl [(x : Int) % 4294967296, (x : Int) / 4294967296] 2 = (wd x).length by
    have e := congrArg List.length ht
    rw [List.length_take] at e
    have e2 : [(x : Int) % 4294967296, (x : Int) / 4294967296].length = 2 := rfl
    rw [e2] at e
    have := tl_le [(x : Int) % 4294967296, (x : Int) / 4294967296] 2
    omega)
  have hc := cut_any _ _ _ _ ho.rd
  have HO2 := ho.take (tl [(x : Int) % 4294967296, (x : Int) / 4294967296] [(x : Int) % 4294967296, (x : Int) / 4294967296].length)
  rw [ht] at HO2
  have HC := Lib.hid hc
  have HO := Lib.hid HO2
  have h1 : (x : Int) ≤ 18446744073709551615 := by omega
  clear ho hc HO2 ht
  go_enter Try.func43, Try.ntmps43
  go_wp2_with fail
  refine HC.out.mono ?_; rintro e w' ⟨rfl, rfl⟩
  go_wp2_with fail
  go_ret
  exact ⟨_, _, by rw [← HL.out]; rfl, HO.out, (Ext.refl w).alloc _⟩

end Go.Proofs.Ytnhgagfkepmanaa
