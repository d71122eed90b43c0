/- OverWords. -/
import Derived.Test.YtnhgagfkepmanaaK1
namespace Go.Proofs.Ytnhgagfkepmanaa
open Go Go.RowKit

/-- append of words behind words of the call's own that have room: in place -/
theorem wpList_spare {w : World} {ops : Array Oper} {rest : List Oper} {o : Oper} {a : Act} {Q : Exit → Act → World → Prop} (hgd : o.guard = none) (s x : Operand)
    (ho : o.op = .call { callee := .builtin .append, args := #[s, x], argTypes := #[22, 22] })
    (base g c : Nat) (xs : List Int) (n : Nat) (hn : xs.length = n) (hs : a.eval s = .slice (some ⟨g, 0, none⟩) n c) (hO : Own w base (some ⟨g, 0, none⟩) c xs)
    (b : Addr) (d : Nat) (ys : List Int) (m : Nat) (hm : ys.length = m) (hx : a.eval x = .slice (some b) m d) (hR : Rd w (some b) d ys)
    (hroom : n + m ≤ c)
    (h : ∀ w', Own w' base (some ⟨g, 0, none⟩) c (xs ++ ys) → w.grownBy w' (some g) → wpList Try.prog ops Q rest (a.put o.dst (.slice (some ⟨g, 0, none⟩) (n + m) c)) w') : wpList Try.prog ops Q (o :: rest) a w := by
  obtain ⟨i0, hi, hz0, hz1, hz2⟩ := info_parts info_u32
  subst hn
  subst hm
  refine wpList_append_own_spare w hgd s x 22 ho base 52 i0 1 Try.underlying22 hi hz1 g xs.length c (nums xs) hs hO b ys.length d (nums ys) hx (by rw [nums_length, Nat.mul_one])
    (fun j u hu => by
      have hj : j < ys.length := by
        have := (List.getElem?_eq_some_iff.1 hu).1
        rwa [nums_length] at this
      rw [nums_at ys j hj] at hu
      cases hu
      exact hR.cell j hj) (nums_one ys) hroom ?_
  intro w' h2 h3
  rw [← nums_append, ← List.length_append] at h2
  exact h w' h2 h3

/-- all bits turned -/
def nt (x : Int) : Int := bits .xor .u32 (if IntKind.u32.signed = true then -1 else IntKind.u32.max) x

set_option maxHeartbeats 1000000 in
theorem kover_any (A : Option Addr) (xs : List Int) (base c l : Nat) (w : World) (h : Own w base A c xs) (hl : xs.length = l) (hw : Wf xs) :
    Calls Try.prog 45 #[.slice A l c] w fun e w' => ∃ zs, e = .returned (.tuple #[]) ∧ Own w' base A c zs ∧ l ≤ zs.length ∧ (∀ j, j < l → nth zs j = nt (nth xs j)) ∧ w.grownBy w' (A.map (·.block)) := by
  have HO := Lib.hid h
  have HL := Lib.hid hl
  have HW := Lib.hid hw
  rcases h.form with rfl | ⟨g, rfl, hgb, hgs⟩
  · have hc : c = 0 := h.rd.none_ rfl
    have hlc : l = 0 := by have := h.rd.cap; omega
    subst hc
    subst hlc
    clear h hl hw
    go_enter Try.func45, Try.ntmps45
    go_wp2_with fail
    go_loopw [3] (fun i wr => i = .int .i64 0 ∧ wr = w) (fun _ _ => 0)
    case atStart => exact ⟨rfl, rfl⟩
    case round =>
      obtain ⟨rfl, rfl⟩ := hrel
      go_wp2_with fail
      go_loopw [4] (fun i w' => i = .int .i64 0 ∧ w' = wr) (fun _ _ => 0)
      case atStart => exact ⟨rfl, rfl⟩
      case round =>
        obtain ⟨rfl, rfl⟩ := hrel
        go_wp2_with fail
        go_end0
        exact ⟨xs, rfl, HO.out, by omega, fun j hj => by omega, World.grownBy.refl _ _⟩
  · have hlc : l ≤ c := by have := h.rd.cap; omega
    have hcm : c ≤ 9223372036854775807 := h.rd.capm
    clear h hl hw
    go_enter Try.func45, Try.ntmps45
    go_wp2_with fail
    go_loopw [3] (fun i wr => ∃ (k : Nat) (us : List Int), k ≤ l ∧ i = .int .i64 k ∧ Hid (us.length = l) ∧ Hid (∀ j, j < k → nth us j = nt (nth xs j)) ∧ Hid (∀ j, k ≤ j → nth us j = nth xs j) ∧ Hid (Own wr base (some ⟨g, 0, none⟩) c us) ∧ Hid (w.grownBy wr (some g))) (fun i _ => l - (intOf i).toNat)
    case atStart => exact ⟨0, xs, by omega, rfl, HL.out, fun j hj => by omega, fun _ _ => rfl, HO.out, World.grownBy.refl _ _⟩
    case round =>
      obtain ⟨k, us, hk, rfl, HU, HE, HR, HO1, HG⟩ := hrel
      by_cases hkl : k < l
      · have hco := HO1.out.cell k (by rw [HU.out]; exact hkl)
        have hfo := HO1.out.free k
        have bx := nth_wf HW.out k
        rw [HR.out k (Nat.le_refl _)] at hco
        go_wp2_with fail
        go_roundw
        case rel => exact ⟨k + 1, us.set k (nt (nth xs k)), by omega, by go_num, by unfold Hid; rw [List.length_set]; exact HU.out, fun j hj => by
            by_cases e : j = k
            · rw [e, nth_set_self _ _ _ (by rw [HU.out]; exact hkl)]
            · rw [nth_set_ne _ _ _ _ (by omega)]; exact HE.out j (by omega), fun j hj => by rw [nth_set_ne _ _ _ _ (by omega)]; exact HR.out j (by omega), (HO1.out.set k _).1, grown_trans HG.out (HO1.out.set k _).2⟩
        case measure => simp [intOf]; omega
      · have hkk : k = l := by omega
        subst hkk
        clear hkl hk
        have HG1 := Lib.hid HG.out
        go_wp2_with fail
        go_loopw [0, 4] (fun s i w' => ∃ (m : Nat) (zs : List Int), m ≤ c ∧ k ≤ m ∧ s = .slice (some ⟨g, 0, none⟩) m c ∧ i = .int .i64 m ∧ Hid (zs.length = m) ∧ Hid (∀ j, j < k → nth zs j = nt (nth xs j)) ∧ Hid (Own w' base (some ⟨g, 0, none⟩) c zs) ∧ Hid (w.grownBy w' (some g))) (fun _ i _ => c - (intOf i).toNat)
        case atStart => exact ⟨k, us, hlc, Nat.le_refl _, rfl, rfl, HU.out, HE.out, HO1.out, HG.out⟩
        case round =>
          clear HO1 HG HU HE HR HG1
          obtain ⟨m, zs, hm, hkm, rfl, rfl, HZ, HE, HO1, HG⟩ := hrel
          by_cases hmc : m < c
          · go_wp2_with (at_builtin; refine wpList_spare rfl _ _ rfl base g c zs m HZ.out rfl (HO1.out.ext ((Ext.refl wr).alloc _)) _ _ [2882343476] 1 rfl rfl (Own.lit wr _ [2882343476] rfl (by simp)).rd (by omega) ?_; intro w2 hO hg)
            have HO2 := Lib.hid hO
            have HG2 := Lib.hid (grown_trans (grown_alloc HG.out _) hg)
            have HE2 := Lib.hid (show ∀ j, j < k → nth (zs ++ [2882343476]) j = nt (nth xs j) from fun j hj => by
              rw [← HE.out j hj]
              have := HZ.out
              simp [nth, List.getElem?_append_left (show j < zs.length by omega)])
            have HZ2 := Lib.hid (show (zs ++ [2882343476]).length = m + 1 by rw [List.length_append, HZ.out]; rfl)
            clear hO hg
            go_roundw
            case rel => exact ⟨m + 1, _, by omega, by omega, rfl, by go_num, HZ2.out, HE2.out, HO2.out, HG2.out⟩
            case measure => simp [intOf]; omega
          · obtain rfl : m = c := by omega
            go_wp2_with fail
            go_end0
            exact ⟨zs, rfl, HO1.out, by rw [HZ.out]; exact hkm, HE.out, HG.out⟩

end Go.Proofs.Ytnhgagfkepmanaa
