/-
  No cell of these rows narrows 'for every input' (looked for: loops, veiled, ifaces, maps, wideKeys, modest, calm, conditions, laid).
  DERIVED. THE GIVEN ROWS OF THIS SEAT. 3 by the template 'for every input the law returns true; each argument reads behind the call as it read before'; 0 by the template 'total and deterministic' (their statements: YtakaehdolpmelaaGreatTotals.lean).
  GIVEN WITH THE SEED: the statements are not yours to turn. If you find one false, say at which input.
  Laid BY PROGRAM, IN A SANDBOX (cutbox-rows.mjs): the forced cells as the released guide's own fill.sh prints them over the translation c1663ec28e968e1a… (all of the seat's roots in one cut). By AI agents, Wed Nov 11 2026. No macro, syntax, notation, axiom, sorry.
-/
import Derived.Test.YtakaehdolpmelaaGreatChecked
import GoSem.Claim
import GoSem.ClaimJoined
import GoSem.ClaimMapViews
import Derived.JoinedTies
import Derived.KernelRfl
namespace Go.Proofs.YtakaehdolpmelaaGreat
/- THE CELL 'sum', in the pinned program and in every row, IS THE sha256 OF THE DUMP (.gsa) THAT YtakaehdolpmelaaGreatProg.lean LOADS. Nothing in Lean hashes anything: it is a label: what it is worth is what the hold of that sum in a sandbox is worth. -/
noncomputable def Tryz.pinned : Pinned := { name := "ytakaehdolpmelaagreat", sum := "c1663ec28e968e1a0c00d95e6121c31759dbae303fa91fa9c74b6d494fc46400", checked := Tryz.checked }
namespace Rows
def none {H : Type} : Left H := { results := [], args := [] }

/-- 'slackwaterlaw15.ExactTells': WHATEVER THE INPUT: true; the input reads as it did. -/
def exactTellsSpec : ChangeSpec := { name := "exactTells", fn := fun _ => fun
  | [d1, d2, d3] => { results := [.lit (.bool true)], args := [d1, d2, d3] }
  | _ => none }
def exactTellsRow : OpenClaim := { program := "ytakaehdolpmelaagreat", sum := "c1663ec28e968e1a0c00d95e6121c31759dbae303fa91fa9c74b6d494fc46400", func := "slackwater/slackwaterlaw15.ExactTells", spec := "exactTells", plainKeys := false, apart := false }
def ExactTellsSaid : Prop := exactTellsRow.holds Tryz.pinned (OpenSpec.ofChange exactTellsSpec)

/-- ITS FALSE NEIGHBOUR: 'it returns false'. Refute it at one input. -/
def exactTellsWrong : ChangeSpec := { name := "exactTells", fn := fun _ => fun
  | [d1, d2, d3] => { results := [.lit (.bool false)], args := [d1, d2, d3] }
  | _ => none }
def ExactTellsWrongFalsely : Prop := exactTellsRow.holds Tryz.pinned (OpenSpec.ofChange exactTellsWrong)

/-- 'slackwaterlaw15.ExactSpans': WHATEVER THE INPUT: true; the input reads as it did. -/
def exactSpansSpec : ChangeSpec := { name := "exactSpans", fn := fun _ => fun
  | [d1, d2, d3, d4] => { results := [.lit (.bool true)], args := [d1, d2, d3, d4] }
  | _ => none }
def exactSpansRow : OpenClaim := { program := "ytakaehdolpmelaagreat", sum := "c1663ec28e968e1a0c00d95e6121c31759dbae303fa91fa9c74b6d494fc46400", func := "slackwater/slackwaterlaw15.ExactSpans", spec := "exactSpans", unfollowed := true, recurses := true, plainKeys := false, apart := false }
def ExactSpansSaid : Prop := exactSpansRow.holds Tryz.pinned (OpenSpec.ofChange exactSpansSpec)

/-- ITS FALSE NEIGHBOUR: 'it returns false'. Refute it at one input. -/
def exactSpansWrong : ChangeSpec := { name := "exactSpans", fn := fun _ => fun
  | [d1, d2, d3, d4] => { results := [.lit (.bool false)], args := [d1, d2, d3, d4] }
  | _ => none }
def ExactSpansWrongFalsely : Prop := exactSpansRow.holds Tryz.pinned (OpenSpec.ofChange exactSpansWrong)

/-- 'slackwaterlaw21.NormalTells': WHATEVER THE INPUT: true; the input reads as it did. -/
def normalTellsSpec : ChangeSpec := { name := "normalTells", fn := fun _ => fun
  | [d1, d2, d3, d4] => { results := [.lit (.bool true)], args := [d1, d2, d3, d4] }
  | _ => none }
def normalTellsRow : OpenClaim := { program := "ytakaehdolpmelaagreat", sum := "c1663ec28e968e1a0c00d95e6121c31759dbae303fa91fa9c74b6d494fc46400", func := "slackwater/slackwaterlaw21.NormalTells", spec := "normalTells", unfollowed := true, recurses := true, plainKeys := false, apart := false }
def NormalTellsSaid : Prop := normalTellsRow.holds Tryz.pinned (OpenSpec.ofChange normalTellsSpec)

/-- ITS FALSE NEIGHBOUR: 'it returns false'. Refute it at one input. -/
def normalTellsWrong : ChangeSpec := { name := "normalTells", fn := fun _ => fun
  | [d1, d2, d3, d4] => { results := [.lit (.bool false)], args := [d1, d2, d3, d4] }
  | _ => none }
def NormalTellsWrongFalsely : Prop := normalTellsRow.holds Tryz.pinned (OpenSpec.ofChange normalTellsWrong)

/- THE SECOND FORM. 'bulk': how many values and letters a reading holds, each counted each time it is reached (what is shared counts as often as it is met; a slice's spare places count too). A statement '..UptoSaid' is the law's where the arguments, and the package variables that the reading takes, are together of bulk at most 1048576: NARROWER than '..Said'. Prove '..Said' where nothing that the law and all that it calls make is longer than what came in: it says more and counts as full. Else prove '..UptoSaid'. A law counts once. -/
mutual
def uptoBulk {H : Type} : DataW H → Nat
  | .lit (.string bytes) => bytes.length + 1
  | .lit _ => 1
  | .nil => 1
  | .ptr d => uptoBulk d + 1
  | .slice elems spare => uptoBulkAll elems + uptoBulkAll spare + 1
  | .agg parts => uptoBulkAll parts + 1
  | .iface _ d => uptoBulk d + 1
  | .map entries => uptoBulkEntries entries + 1
  | .held _ => 1
def uptoBulkAll {H : Type} : List (DataW H) → Nat
  | [] => 0
  | d :: r => uptoBulk d + uptoBulkAll r
def uptoBulkEntries {H : Type} : List (Lit × DataW H) → Nat
  | [] => 0
  | x :: r => uptoBulkEntry x + uptoBulkEntries r
def uptoBulkEntry {H : Type} : Lit × DataW H → Nat
  | (.string bytes, d) => bytes.length + uptoBulk d + 1
  | (_, d) => uptoBulk d + 1
 end
def uptoSmall : (H : Type) → List (DataW H) → Bool := fun _ ds => decide (uptoBulkAll ds ≤ 1048576)
def OpenSpec.upto (s : _root_.Go.ChangeSpec) : _root_.Go.OpenSpec := { _root_.Go.OpenSpec.ofChange s with cond := some uptoSmall }

/-- 'slackwaterlaw15.ExactTells', WHERE WHAT IT READS IS OF BULK AT MOST 1048576: true; the input reads as it did. -/
def exactTellsUptoRow : OpenClaim := { program := "ytakaehdolpmelaagreat", sum := "c1663ec28e968e1a0c00d95e6121c31759dbae303fa91fa9c74b6d494fc46400", func := "slackwater/slackwaterlaw15.ExactTells", spec := "exactTells", plainKeys := false, apart := false, narrowed := true }
def ExactTellsUptoSaid : Prop := exactTellsUptoRow.holds Tryz.pinned (OpenSpec.upto exactTellsSpec)

/-- 'slackwaterlaw15.ExactSpans', WHERE WHAT IT READS IS OF BULK AT MOST 1048576: true; the input reads as it did. -/
def exactSpansUptoRow : OpenClaim := { program := "ytakaehdolpmelaagreat", sum := "c1663ec28e968e1a0c00d95e6121c31759dbae303fa91fa9c74b6d494fc46400", func := "slackwater/slackwaterlaw15.ExactSpans", spec := "exactSpans", unfollowed := true, recurses := true, plainKeys := false, apart := false, narrowed := true }
def ExactSpansUptoSaid : Prop := exactSpansUptoRow.holds Tryz.pinned (OpenSpec.upto exactSpansSpec)

/-- 'slackwaterlaw21.NormalTells', WHERE WHAT IT READS IS OF BULK AT MOST 1048576: true; the input reads as it did. -/
def normalTellsUptoRow : OpenClaim := { program := "ytakaehdolpmelaagreat", sum := "c1663ec28e968e1a0c00d95e6121c31759dbae303fa91fa9c74b6d494fc46400", func := "slackwater/slackwaterlaw21.NormalTells", spec := "normalTells", unfollowed := true, recurses := true, plainKeys := false, apart := false, narrowed := true }
def NormalTellsUptoSaid : Prop := normalTellsUptoRow.holds Tryz.pinned (OpenSpec.upto normalTellsSpec)

end Rows
end Go.Proofs.YtakaehdolpmelaaGreat
