/-
  No cell of these rows narrows 'for every input' (looked for: loops, veiled, ifaces, maps, wideKeys, modest, calm, conditions, laid).
  DERIVED. THE GIVEN ROWS OF THIS SEAT. 3 by the template 'for every input the law returns true; each argument reads behind the call as it read before'; 0 by the template 'total and deterministic' (their statements: YtifonmdcicegdaaTotals.lean).
  GIVEN WITH THE SEED: the statements are not yours to turn. If you find one false, say at which input.
  Laid BY PROGRAM, IN A SANDBOX (cutbox-rows.mjs): the forced cells as the released guide's own fill.sh prints them over the translation cc3a1897e7551104… (all of the seat's roots in one cut). By AI agents, Wed Nov 11 2026. No macro, syntax, notation, axiom, sorry.
-/
import Derived.Test.YtifonmdcicegdaaChecked
import GoSem.Claim
import GoSem.ClaimJoined
import GoSem.ClaimMapViews
import Derived.JoinedTies
import Derived.KernelRfl
namespace Go.Proofs.Ytifonmdcicegdaa
/- THE CELL 'sum', in the pinned program and in every row, IS THE sha256 OF THE DUMP (.gsa) THAT YtifonmdcicegdaaProg.lean LOADS. Nothing in Lean hashes anything: it is a label: what it is worth is what the hold of that sum in a sandbox is worth. -/
noncomputable def Try.pinned : Pinned := { name := "ytifonmdcicegdaa", sum := "cc3a1897e75511041735d30ee8fe8cb43bc2a8e921863b838b61a0d1cc21dcc1", checked := Try.checked }
namespace Rows
def none {H : Type} : Left H := { results := [], args := [] }

/-- 'slackwaterlaw15.ExactPieces': WHATEVER THE INPUT: true; the input reads as it did. -/
def exactPiecesSpec : ChangeSpec := { name := "exactPieces", fn := fun _ => fun
  | [d1, d2, d3, d4] => { results := [.lit (.bool true)], args := [d1, d2, d3, d4] }
  | _ => none }
def exactPiecesRow : OpenClaim := { program := "ytifonmdcicegdaa", sum := "cc3a1897e75511041735d30ee8fe8cb43bc2a8e921863b838b61a0d1cc21dcc1", func := "slackwater/slackwaterlaw15.ExactPieces", spec := "exactPieces", plainKeys := false, apart := false }
def ExactPiecesSaid : Prop := exactPiecesRow.holds Try.pinned (OpenSpec.ofChange exactPiecesSpec)

/-- ITS FALSE NEIGHBOUR: 'it returns false'. Refute it at one input. -/
def exactPiecesWrong : ChangeSpec := { name := "exactPieces", fn := fun _ => fun
  | [d1, d2, d3, d4] => { results := [.lit (.bool false)], args := [d1, d2, d3, d4] }
  | _ => none }
def ExactPiecesWrongFalsely : Prop := exactPiecesRow.holds Try.pinned (OpenSpec.ofChange exactPiecesWrong)

/-- 'slackwaterlaw15.ExactMoved': WHATEVER THE INPUT: true; the input reads as it did. -/
def exactMovedSpec : ChangeSpec := { name := "exactMoved", fn := fun _ => fun
  | [d1, d2, d3] => { results := [.lit (.bool true)], args := [d1, d2, d3] }
  | _ => none }
def exactMovedRow : OpenClaim := { program := "ytifonmdcicegdaa", sum := "cc3a1897e75511041735d30ee8fe8cb43bc2a8e921863b838b61a0d1cc21dcc1", func := "slackwater/slackwaterlaw15.ExactMoved", spec := "exactMoved", plainKeys := false, apart := false }
def ExactMovedSaid : Prop := exactMovedRow.holds Try.pinned (OpenSpec.ofChange exactMovedSpec)

/-- ITS FALSE NEIGHBOUR: 'it returns false'. Refute it at one input. -/
def exactMovedWrong : ChangeSpec := { name := "exactMoved", fn := fun _ => fun
  | [d1, d2, d3] => { results := [.lit (.bool false)], args := [d1, d2, d3] }
  | _ => none }
def ExactMovedWrongFalsely : Prop := exactMovedRow.holds Try.pinned (OpenSpec.ofChange exactMovedWrong)

/-- 'slackwaterlaw15.ExactReal': WHATEVER THE INPUT: true; the input reads as it did. -/
def exactRealSpec : ChangeSpec := { name := "exactReal", fn := fun _ => fun
  | [d1, d2] => { results := [.lit (.bool true)], args := [d1, d2] }
  | _ => none }
def exactRealRow : OpenClaim := { program := "ytifonmdcicegdaa", sum := "cc3a1897e75511041735d30ee8fe8cb43bc2a8e921863b838b61a0d1cc21dcc1", func := "slackwater/slackwaterlaw15.ExactReal", spec := "exactReal", unfollowed := true, recurses := true, plainKeys := false, apart := false }
def ExactRealSaid : Prop := exactRealRow.holds Try.pinned (OpenSpec.ofChange exactRealSpec)

/-- ITS FALSE NEIGHBOUR: 'it returns false'. Refute it at one input. -/
def exactRealWrong : ChangeSpec := { name := "exactReal", fn := fun _ => fun
  | [d1, d2] => { results := [.lit (.bool false)], args := [d1, d2] }
  | _ => none }
def ExactRealWrongFalsely : Prop := exactRealRow.holds Try.pinned (OpenSpec.ofChange exactRealWrong)

/- THE SECOND FORM. 'bulk': how many values and letters a reading holds, each counted each time it is reached (what is shared counts as often as it is met; a slice's spare places count too). A statement '..UptoSaid' is the law's where the arguments, and the package variables that the reading takes, are together of bulk at most 1048576: NARROWER than '..Said'. Prove '..Said' where nothing that the law and all that it calls make is longer than what came in: it says more and counts as full. Else prove '..UptoSaid'. A law counts once. -/
mutual
def uptoBulk {H : Type} : DataW H → Nat
  | .lit (.string bytes) => bytes.length + 1
  | .lit _ => 1
  | .nil => 1
  | .ptr d => uptoBulk d + 1
  | .slice elems spare => uptoBulkAll elems + uptoBulkAll spare + 1
  | .agg parts => uptoBulkAll parts + 1
  | .iface _ d => uptoBulk d + 1
  | .map entries => uptoBulkEntries entries + 1
  | .held _ => 1
def uptoBulkAll {H : Type} : List (DataW H) → Nat
  | [] => 0
  | d :: r => uptoBulk d + uptoBulkAll r
def uptoBulkEntries {H : Type} : List (Lit × DataW H) → Nat
  | [] => 0
  | x :: r => uptoBulkEntry x + uptoBulkEntries r
def uptoBulkEntry {H : Type} : Lit × DataW H → Nat
  | (.string bytes, d) => bytes.length + uptoBulk d + 1
  | (_, d) => uptoBulk d + 1
 end
def uptoSmall : (H : Type) → List (DataW H) → Bool := fun _ ds => decide (uptoBulkAll ds ≤ 1048576)
def OpenSpec.upto (s : _root_.Go.ChangeSpec) : _root_.Go.OpenSpec := { _root_.Go.OpenSpec.ofChange s with cond := some uptoSmall }

/-- 'slackwaterlaw15.ExactPieces', WHERE WHAT IT READS IS OF BULK AT MOST 1048576: true; the input reads as it did. -/
def exactPiecesUptoRow : OpenClaim := { program := "ytifonmdcicegdaa", sum := "cc3a1897e75511041735d30ee8fe8cb43bc2a8e921863b838b61a0d1cc21dcc1", func := "slackwater/slackwaterlaw15.ExactPieces", spec := "exactPieces", plainKeys := false, apart := false, narrowed := true }
def ExactPiecesUptoSaid : Prop := exactPiecesUptoRow.holds Try.pinned (OpenSpec.upto exactPiecesSpec)

/-- 'slackwaterlaw15.ExactMoved', WHERE WHAT IT READS IS OF BULK AT MOST 1048576: true; the input reads as it did. -/
def exactMovedUptoRow : OpenClaim := { program := "ytifonmdcicegdaa", sum := "cc3a1897e75511041735d30ee8fe8cb43bc2a8e921863b838b61a0d1cc21dcc1", func := "slackwater/slackwaterlaw15.ExactMoved", spec := "exactMoved", plainKeys := false, apart := false, narrowed := true }
def ExactMovedUptoSaid : Prop := exactMovedUptoRow.holds Try.pinned (OpenSpec.upto exactMovedSpec)

/-- 'slackwaterlaw15.ExactReal', WHERE WHAT IT READS IS OF BULK AT MOST 1048576: true; the input reads as it did. -/
def exactRealUptoRow : OpenClaim := { program := "ytifonmdcicegdaa", sum := "cc3a1897e75511041735d30ee8fe8cb43bc2a8e921863b838b61a0d1cc21dcc1", func := "slackwater/slackwaterlaw15.ExactReal", spec := "exactReal", unfollowed := true, recurses := true, plainKeys := false, apart := false, narrowed := true }
def ExactRealUptoSaid : Prop := exactRealUptoRow.holds Try.pinned (OpenSpec.upto exactRealSpec)

end Rows
end Go.Proofs.Ytifonmdcicegdaa
