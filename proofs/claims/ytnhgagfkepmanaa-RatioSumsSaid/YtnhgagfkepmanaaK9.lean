/- Blocks that a law's variables are. -/
import Derived.Test.YtnhgagfkepmanaaK8
namespace Go.Proofs.Ytnhgagfkepmanaa
open Go Go.RowKit

/-- what a block holds -/
def Cells (w : World) (g : Nat) (vs : List Value) : Prop := g < w.heap.size ∧ ∀ j v, vs[j]? = some v → w.cell? ⟨g, j, none⟩ = some v
theorem Cells.ext {w w' : World} {g : Nat} {vs : List Value} (h : Cells w g vs) (e : Ext w w') : Cells w' g vs := ⟨Nat.lt_of_lt_of_le h.1 e.size, fun j v hj => e.cell (h.2 j v hj)⟩
theorem Cells.at {w : World} {g : Nat} {vs : List Value} (h : Cells w g vs) (j : Nat) (v : Value) (hj : vs[j]? = some v) : w.cell? ⟨g, j, none⟩ = some v := h.2 j v hj
theorem Cells.past {w : World} {g : Nat} {vs : List Value} (h : Cells w g vs) (j : Nat) (v : Value) (hj : vs[j]? = some v) : ∀ o, (w.alloc o).cell? ⟨g, j, none⟩ = some v := fun o => ((Ext.refl w).alloc o).cell (h.2 j v hj)
theorem Cells.past2 {w : World} {g : Nat} {vs : List Value} (h : Cells w g vs) (j : Nat) (v : Value) (hj : vs[j]? = some v) : ∀ o o', ((w.alloc o).alloc o').cell? ⟨g, j, none⟩ = some v := fun o o' => (((Ext.refl w).alloc o).alloc o').cell (h.2 j v hj)
theorem Cells.new (w : World) (vs : List Value) (t : TypeId) : Cells (w.alloc (.cells vs.toArray t)) w.heap.size vs :=
  ⟨by simp, fun j v hj => by rw [World.cell?_alloc_at (hn := rfl)]; simpa using hj⟩

theorem own_pre {w : World} {base c : Nat} {A : Option Addr} {xs ys zs : List Int} (h : Own w base A c zs) (e : zs = xs ++ ys) : Own w base A c xs := by
  subst e
  have h1 := h.take xs.length
  rwa [List.take_left' rfl] at h1
/-- what may be handed about -/
def Small (a : Fr) : Prop := (a.num.length ≤ 1000000 ∧ Wf a.num) ∧ (a.den.length ≤ 1000000 ∧ Wf a.den)
theorem small_zero : Small Fr.zero := ⟨⟨by decide, Fr.zero_wf.num⟩, ⟨by decide, Fr.zero_wf.den⟩⟩
theorem small_enc {q : Rat} (h : ¬ lng q = true) : Small (enc q) := by
  have := not_lng h
  exact ⟨⟨Nat.le_trans this.1 (by omega), wf_wd _⟩, ⟨Nat.le_trans this.2 (by omega), wf_wd _⟩⟩
theorem tell_small (q : Rat) : Small (tell q).1 := by
  unfold tell
  split
  · exact small_zero
  · rename_i h
    exact small_enc h
theorem Small.wf {a : Fr} (h : Small a) : a.Wf := ⟨h.1.2, h.2.2⟩

end Go.Proofs.Ytnhgagfkepmanaa
