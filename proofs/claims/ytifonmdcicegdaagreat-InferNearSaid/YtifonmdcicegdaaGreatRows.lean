/-
  No cell of these rows narrows 'for every input' (looked for: loops, veiled, ifaces, maps, wideKeys, modest, calm, conditions, laid).
  DERIVED. THE GIVEN ROWS OF THIS SEAT. 9 by the template 'for every input the law returns true; each argument reads behind the call as it read before'; 0 by the template 'total and deterministic' (their statements: YtifonmdcicegdaaGreatTotals.lean).
  GIVEN WITH THE SEED: the statements are not yours to turn. If you find one false, say at which input.
  Laid BY PROGRAM, IN A SANDBOX (cutbox-rows.mjs): the forced cells as the released guide's own fill.sh prints them over the translation 68a367abf050955a… (all of the seat's roots in one cut). By AI agents, Wed Nov 11 2026. No macro, syntax, notation, axiom, sorry.
-/
import Derived.Test.YtifonmdcicegdaaGreatChecked
import GoSem.Claim
import GoSem.ClaimJoined
import GoSem.ClaimMapViews
import Derived.JoinedTies
import Derived.KernelRfl
namespace Go.Proofs.YtifonmdcicegdaaGreat
/- THE CELL 'sum', in the pinned program and in every row, IS THE sha256 OF THE DUMP (.gsa) THAT YtifonmdcicegdaaGreatProg.lean LOADS. Nothing in Lean hashes anything: it is a label: what it is worth is what the hold of that sum in a sandbox is worth. -/
noncomputable def Tryz.pinned : Pinned := { name := "ytifonmdcicegdaagreat", sum := "68a367abf050955a5d747135416fcee7e5aab400903cf3091a6d16dfcf5cfbf7", checked := Tryz.checked }
namespace Rows
def none {H : Type} : Left H := { results := [], args := [] }

/-- 'slackwaterlaw03.RatioTells': WHATEVER THE INPUT: true; the input reads as it did. -/
def ratioTellsSpec : ChangeSpec := { name := "ratioTells", fn := fun _ => fun
  | [d1, d2] => { results := [.lit (.bool true)], args := [d1, d2] }
  | _ => none }
def ratioTellsRow : OpenClaim := { program := "ytifonmdcicegdaagreat", sum := "68a367abf050955a5d747135416fcee7e5aab400903cf3091a6d16dfcf5cfbf7", func := "slackwater/slackwaterlaw03.RatioTells", spec := "ratioTells", plainKeys := false, apart := false }
def RatioTellsSaid : Prop := ratioTellsRow.holds Tryz.pinned (OpenSpec.ofChange ratioTellsSpec)

/-- ITS FALSE NEIGHBOUR: 'it returns false'. Refute it at one input. -/
def ratioTellsWrong : ChangeSpec := { name := "ratioTells", fn := fun _ => fun
  | [d1, d2] => { results := [.lit (.bool false)], args := [d1, d2] }
  | _ => none }
def RatioTellsWrongFalsely : Prop := ratioTellsRow.holds Tryz.pinned (OpenSpec.ofChange ratioTellsWrong)

/-- 'slackwaterlaw04.GaussParts': WHATEVER THE INPUT: true; the input reads as it did. -/
def gaussPartsSpec : ChangeSpec := { name := "gaussParts", fn := fun _ => fun
  | [d1, d2, d3, d4] => { results := [.lit (.bool true)], args := [d1, d2, d3, d4] }
  | _ => none }
def gaussPartsRow : OpenClaim := { program := "ytifonmdcicegdaagreat", sum := "68a367abf050955a5d747135416fcee7e5aab400903cf3091a6d16dfcf5cfbf7", func := "slackwater/slackwaterlaw04.GaussParts", spec := "gaussParts", plainKeys := false, apart := false }
def GaussPartsSaid : Prop := gaussPartsRow.holds Tryz.pinned (OpenSpec.ofChange gaussPartsSpec)

/-- ITS FALSE NEIGHBOUR: 'it returns false'. Refute it at one input. -/
def gaussPartsWrong : ChangeSpec := { name := "gaussParts", fn := fun _ => fun
  | [d1, d2, d3, d4] => { results := [.lit (.bool false)], args := [d1, d2, d3, d4] }
  | _ => none }
def GaussPartsWrongFalsely : Prop := gaussPartsRow.holds Tryz.pinned (OpenSpec.ofChange gaussPartsWrong)

/-- 'slackwaterlaw04.GaussCalls': WHATEVER THE INPUT: true; the input reads as it did. -/
def gaussCallsSpec : ChangeSpec := { name := "gaussCalls", fn := fun _ => fun
  | [d1, d2, d3] => { results := [.lit (.bool true)], args := [d1, d2, d3] }
  | _ => none }
def gaussCallsRow : OpenClaim := { program := "ytifonmdcicegdaagreat", sum := "68a367abf050955a5d747135416fcee7e5aab400903cf3091a6d16dfcf5cfbf7", func := "slackwater/slackwaterlaw04.GaussCalls", spec := "gaussCalls", plainKeys := false, apart := false }
def GaussCallsSaid : Prop := gaussCallsRow.holds Tryz.pinned (OpenSpec.ofChange gaussCallsSpec)

/-- ITS FALSE NEIGHBOUR: 'it returns false'. Refute it at one input. -/
def gaussCallsWrong : ChangeSpec := { name := "gaussCalls", fn := fun _ => fun
  | [d1, d2, d3] => { results := [.lit (.bool false)], args := [d1, d2, d3] }
  | _ => none }
def GaussCallsWrongFalsely : Prop := gaussCallsRow.holds Tryz.pinned (OpenSpec.ofChange gaussCallsWrong)

/-- 'slackwaterlaw13.TideCalls': WHATEVER THE INPUT: true; the input reads as it did. -/
def tideCallsSpec : ChangeSpec := { name := "tideCalls", fn := fun _ => fun
  | [d1, d2, d3] => { results := [.lit (.bool true)], args := [d1, d2, d3] }
  | _ => none }
def tideCallsRow : OpenClaim := { program := "ytifonmdcicegdaagreat", sum := "68a367abf050955a5d747135416fcee7e5aab400903cf3091a6d16dfcf5cfbf7", func := "slackwater/slackwaterlaw13.TideCalls", spec := "tideCalls", plainKeys := false, apart := false }
def TideCallsSaid : Prop := tideCallsRow.holds Tryz.pinned (OpenSpec.ofChange tideCallsSpec)

/-- ITS FALSE NEIGHBOUR: 'it returns false'. Refute it at one input. -/
def tideCallsWrong : ChangeSpec := { name := "tideCalls", fn := fun _ => fun
  | [d1, d2, d3] => { results := [.lit (.bool false)], args := [d1, d2, d3] }
  | _ => none }
def TideCallsWrongFalsely : Prop := tideCallsRow.holds Tryz.pinned (OpenSpec.ofChange tideCallsWrong)

/-- 'slackwaterlaw24.InferSplit': WHATEVER THE INPUT: true; the input reads as it did. -/
def inferSplitSpec : ChangeSpec := { name := "inferSplit", fn := fun _ => fun
  | [d1, d2, d3] => { results := [.lit (.bool true)], args := [d1, d2, d3] }
  | _ => none }
def inferSplitRow : OpenClaim := { program := "ytifonmdcicegdaagreat", sum := "68a367abf050955a5d747135416fcee7e5aab400903cf3091a6d16dfcf5cfbf7", func := "slackwater/slackwaterlaw24.InferSplit", spec := "inferSplit", plainKeys := false, apart := false }
def InferSplitSaid : Prop := inferSplitRow.holds Tryz.pinned (OpenSpec.ofChange inferSplitSpec)

/-- ITS FALSE NEIGHBOUR: 'it returns false'. Refute it at one input. -/
def inferSplitWrong : ChangeSpec := { name := "inferSplit", fn := fun _ => fun
  | [d1, d2, d3] => { results := [.lit (.bool false)], args := [d1, d2, d3] }
  | _ => none }
def InferSplitWrongFalsely : Prop := inferSplitRow.holds Tryz.pinned (OpenSpec.ofChange inferSplitWrong)

/-- 'slackwaterlaw24.InferNear': WHATEVER THE INPUT: true; the input reads as it did. -/
def inferNearSpec : ChangeSpec := { name := "inferNear", fn := fun _ => fun
  | [d1, d2, d3, d4] => { results := [.lit (.bool true)], args := [d1, d2, d3, d4] }
  | _ => none }
def inferNearRow : OpenClaim := { program := "ytifonmdcicegdaagreat", sum := "68a367abf050955a5d747135416fcee7e5aab400903cf3091a6d16dfcf5cfbf7", func := "slackwater/slackwaterlaw24.InferNear", spec := "inferNear", unfollowed := true, recurses := true, plainKeys := false, apart := false }
def InferNearSaid : Prop := inferNearRow.holds Tryz.pinned (OpenSpec.ofChange inferNearSpec)

/-- ITS FALSE NEIGHBOUR: 'it returns false'. Refute it at one input. -/
def inferNearWrong : ChangeSpec := { name := "inferNear", fn := fun _ => fun
  | [d1, d2, d3, d4] => { results := [.lit (.bool false)], args := [d1, d2, d3, d4] }
  | _ => none }
def InferNearWrongFalsely : Prop := inferNearRow.holds Tryz.pinned (OpenSpec.ofChange inferNearWrong)

/-- 'slackwaterlaw15.ExactTells': WHATEVER THE INPUT: true; the input reads as it did. -/
def exactTellsSpec : ChangeSpec := { name := "exactTells", fn := fun _ => fun
  | [d1, d2, d3] => { results := [.lit (.bool true)], args := [d1, d2, d3] }
  | _ => none }
def exactTellsRow : OpenClaim := { program := "ytifonmdcicegdaagreat", sum := "68a367abf050955a5d747135416fcee7e5aab400903cf3091a6d16dfcf5cfbf7", func := "slackwater/slackwaterlaw15.ExactTells", spec := "exactTells", plainKeys := false, apart := false }
def ExactTellsSaid : Prop := exactTellsRow.holds Tryz.pinned (OpenSpec.ofChange exactTellsSpec)

/-- ITS FALSE NEIGHBOUR: 'it returns false'. Refute it at one input. -/
def exactTellsWrong : ChangeSpec := { name := "exactTells", fn := fun _ => fun
  | [d1, d2, d3] => { results := [.lit (.bool false)], args := [d1, d2, d3] }
  | _ => none }
def ExactTellsWrongFalsely : Prop := exactTellsRow.holds Tryz.pinned (OpenSpec.ofChange exactTellsWrong)

/-- 'slackwaterlaw15.ExactSpans': WHATEVER THE INPUT: true; the input reads as it did. -/
def exactSpansSpec : ChangeSpec := { name := "exactSpans", fn := fun _ => fun
  | [d1, d2, d3, d4] => { results := [.lit (.bool true)], args := [d1, d2, d3, d4] }
  | _ => none }
def exactSpansRow : OpenClaim := { program := "ytifonmdcicegdaagreat", sum := "68a367abf050955a5d747135416fcee7e5aab400903cf3091a6d16dfcf5cfbf7", func := "slackwater/slackwaterlaw15.ExactSpans", spec := "exactSpans", unfollowed := true, recurses := true, plainKeys := false, apart := false }
def ExactSpansSaid : Prop := exactSpansRow.holds Tryz.pinned (OpenSpec.ofChange exactSpansSpec)

/-- ITS FALSE NEIGHBOUR: 'it returns false'. Refute it at one input. -/
def exactSpansWrong : ChangeSpec := { name := "exactSpans", fn := fun _ => fun
  | [d1, d2, d3, d4] => { results := [.lit (.bool false)], args := [d1, d2, d3, d4] }
  | _ => none }
def ExactSpansWrongFalsely : Prop := exactSpansRow.holds Tryz.pinned (OpenSpec.ofChange exactSpansWrong)

/-- 'slackwaterlaw21.NormalTells': WHATEVER THE INPUT: true; the input reads as it did. -/
def normalTellsSpec : ChangeSpec := { name := "normalTells", fn := fun _ => fun
  | [d1, d2, d3, d4] => { results := [.lit (.bool true)], args := [d1, d2, d3, d4] }
  | _ => none }
def normalTellsRow : OpenClaim := { program := "ytifonmdcicegdaagreat", sum := "68a367abf050955a5d747135416fcee7e5aab400903cf3091a6d16dfcf5cfbf7", func := "slackwater/slackwaterlaw21.NormalTells", spec := "normalTells", unfollowed := true, recurses := true, plainKeys := false, apart := false }
def NormalTellsSaid : Prop := normalTellsRow.holds Tryz.pinned (OpenSpec.ofChange normalTellsSpec)

/-- ITS FALSE NEIGHBOUR: 'it returns false'. Refute it at one input. -/
def normalTellsWrong : ChangeSpec := { name := "normalTells", fn := fun _ => fun
  | [d1, d2, d3, d4] => { results := [.lit (.bool false)], args := [d1, d2, d3, d4] }
  | _ => none }
def NormalTellsWrongFalsely : Prop := normalTellsRow.holds Tryz.pinned (OpenSpec.ofChange normalTellsWrong)

/- THE SECOND FORM. 'bulk': how many values and letters a reading holds, each counted each time it is reached (what is shared counts as often as it is met; a slice's spare places count too). A statement '..UptoSaid' is the law's where the arguments, and the package variables that the reading takes, are together of bulk at most 1048576: NARROWER than '..Said'. Prove '..Said' where nothing that the law and all that it calls make is longer than what came in: it says more and counts as full. Else prove '..UptoSaid'. A law counts once. -/
mutual
def uptoBulk {H : Type} : DataW H → Nat
  | .lit (.string bytes) => bytes.length + 1
  | .lit _ => 1
  | .nil => 1
  | .ptr d => uptoBulk d + 1
  | .slice elems spare => uptoBulkAll elems + uptoBulkAll spare + 1
  | .agg parts => uptoBulkAll parts + 1
  | .iface _ d => uptoBulk d + 1
  | .map entries => uptoBulkEntries entries + 1
  | .held _ => 1
def uptoBulkAll {H : Type} : List (DataW H) → Nat
  | [] => 0
  | d :: r => uptoBulk d + uptoBulkAll r
def uptoBulkEntries {H : Type} : List (Lit × DataW H) → Nat
  | [] => 0
  | x :: r => uptoBulkEntry x + uptoBulkEntries r
def uptoBulkEntry {H : Type} : Lit × DataW H → Nat
  | (.string bytes, d) => bytes.length + uptoBulk d + 1
  | (_, d) => uptoBulk d + 1
 end
def uptoSmall : (H : Type) → List (DataW H) → Bool := fun _ ds => decide (uptoBulkAll ds ≤ 1048576)
def OpenSpec.upto (s : _root_.Go.ChangeSpec) : _root_.Go.OpenSpec := { _root_.Go.OpenSpec.ofChange s with cond := some uptoSmall }

/-- 'slackwaterlaw03.RatioTells', WHERE WHAT IT READS IS OF BULK AT MOST 1048576: true; the input reads as it did. -/
def ratioTellsUptoRow : OpenClaim := { program := "ytifonmdcicegdaagreat", sum := "68a367abf050955a5d747135416fcee7e5aab400903cf3091a6d16dfcf5cfbf7", func := "slackwater/slackwaterlaw03.RatioTells", spec := "ratioTells", plainKeys := false, apart := false, narrowed := true }
def RatioTellsUptoSaid : Prop := ratioTellsUptoRow.holds Tryz.pinned (OpenSpec.upto ratioTellsSpec)

/-- 'slackwaterlaw04.GaussParts', WHERE WHAT IT READS IS OF BULK AT MOST 1048576: true; the input reads as it did. -/
def gaussPartsUptoRow : OpenClaim := { program := "ytifonmdcicegdaagreat", sum := "68a367abf050955a5d747135416fcee7e5aab400903cf3091a6d16dfcf5cfbf7", func := "slackwater/slackwaterlaw04.GaussParts", spec := "gaussParts", plainKeys := false, apart := false, narrowed := true }
def GaussPartsUptoSaid : Prop := gaussPartsUptoRow.holds Tryz.pinned (OpenSpec.upto gaussPartsSpec)

/-- 'slackwaterlaw04.GaussCalls', WHERE WHAT IT READS IS OF BULK AT MOST 1048576: true; the input reads as it did. -/
def gaussCallsUptoRow : OpenClaim := { program := "ytifonmdcicegdaagreat", sum := "68a367abf050955a5d747135416fcee7e5aab400903cf3091a6d16dfcf5cfbf7", func := "slackwater/slackwaterlaw04.GaussCalls", spec := "gaussCalls", plainKeys := false, apart := false, narrowed := true }
def GaussCallsUptoSaid : Prop := gaussCallsUptoRow.holds Tryz.pinned (OpenSpec.upto gaussCallsSpec)

/-- 'slackwaterlaw13.TideCalls', WHERE WHAT IT READS IS OF BULK AT MOST 1048576: true; the input reads as it did. -/
def tideCallsUptoRow : OpenClaim := { program := "ytifonmdcicegdaagreat", sum := "68a367abf050955a5d747135416fcee7e5aab400903cf3091a6d16dfcf5cfbf7", func := "slackwater/slackwaterlaw13.TideCalls", spec := "tideCalls", plainKeys := false, apart := false, narrowed := true }
def TideCallsUptoSaid : Prop := tideCallsUptoRow.holds Tryz.pinned (OpenSpec.upto tideCallsSpec)

/-- 'slackwaterlaw24.InferSplit', WHERE WHAT IT READS IS OF BULK AT MOST 1048576: true; the input reads as it did. -/
def inferSplitUptoRow : OpenClaim := { program := "ytifonmdcicegdaagreat", sum := "68a367abf050955a5d747135416fcee7e5aab400903cf3091a6d16dfcf5cfbf7", func := "slackwater/slackwaterlaw24.InferSplit", spec := "inferSplit", plainKeys := false, apart := false, narrowed := true }
def InferSplitUptoSaid : Prop := inferSplitUptoRow.holds Tryz.pinned (OpenSpec.upto inferSplitSpec)

/-- 'slackwaterlaw24.InferNear', WHERE WHAT IT READS IS OF BULK AT MOST 1048576: true; the input reads as it did. -/
def inferNearUptoRow : OpenClaim := { program := "ytifonmdcicegdaagreat", sum := "68a367abf050955a5d747135416fcee7e5aab400903cf3091a6d16dfcf5cfbf7", func := "slackwater/slackwaterlaw24.InferNear", spec := "inferNear", unfollowed := true, recurses := true, plainKeys := false, apart := false, narrowed := true }
def InferNearUptoSaid : Prop := inferNearUptoRow.holds Tryz.pinned (OpenSpec.upto inferNearSpec)

/-- 'slackwaterlaw15.ExactTells', WHERE WHAT IT READS IS OF BULK AT MOST 1048576: true; the input reads as it did. -/
def exactTellsUptoRow : OpenClaim := { program := "ytifonmdcicegdaagreat", sum := "68a367abf050955a5d747135416fcee7e5aab400903cf3091a6d16dfcf5cfbf7", func := "slackwater/slackwaterlaw15.ExactTells", spec := "exactTells", plainKeys := false, apart := false, narrowed := true }
def ExactTellsUptoSaid : Prop := exactTellsUptoRow.holds Tryz.pinned (OpenSpec.upto exactTellsSpec)

/-- 'slackwaterlaw15.ExactSpans', WHERE WHAT IT READS IS OF BULK AT MOST 1048576: true; the input reads as it did. -/
def exactSpansUptoRow : OpenClaim := { program := "ytifonmdcicegdaagreat", sum := "68a367abf050955a5d747135416fcee7e5aab400903cf3091a6d16dfcf5cfbf7", func := "slackwater/slackwaterlaw15.ExactSpans", spec := "exactSpans", unfollowed := true, recurses := true, plainKeys := false, apart := false, narrowed := true }
def ExactSpansUptoSaid : Prop := exactSpansUptoRow.holds Tryz.pinned (OpenSpec.upto exactSpansSpec)

/-- 'slackwaterlaw21.NormalTells', WHERE WHAT IT READS IS OF BULK AT MOST 1048576: true; the input reads as it did. -/
def normalTellsUptoRow : OpenClaim := { program := "ytifonmdcicegdaagreat", sum := "68a367abf050955a5d747135416fcee7e5aab400903cf3091a6d16dfcf5cfbf7", func := "slackwater/slackwaterlaw21.NormalTells", spec := "normalTells", unfollowed := true, recurses := true, plainKeys := false, apart := false, narrowed := true }
def NormalTellsUptoSaid : Prop := normalTellsUptoRow.holds Tryz.pinned (OpenSpec.upto normalTellsSpec)

end Rows
end Go.Proofs.YtifonmdcicegdaaGreat
