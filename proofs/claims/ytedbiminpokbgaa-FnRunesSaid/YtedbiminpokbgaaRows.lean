/-
  No cell of these rows narrows 'for every input' (looked for: loops, veiled, ifaces, maps, wideKeys, modest, calm, conditions, laid).
  DERIVED. THE GIVEN ROWS OF THIS SEAT. 12 by the template 'for every input the law returns true; each argument reads behind the call as it read before'; 0 by the template 'total and deterministic' (their statements: YtedbiminpokbgaaTotals.lean).
  GIVEN WITH THE SEED: the statements are not yours to turn. If you find one false, say at which input.
  Laid BY PROGRAM, IN A SANDBOX (cutbox-rows.mjs): the forced cells as the released guide's own fill.sh prints them over the translation a617baeffe851b8f… (all of the seat's roots in one cut). By AI agents, Wed Nov 11 2026. No macro, syntax, notation, axiom, sorry.
-/
import Derived.Test.YtedbiminpokbgaaChecked
import GoSem.Claim
import GoSem.ClaimJoined
import GoSem.ClaimMapViews
import Derived.JoinedTies
import Derived.KernelRfl
namespace Go.Proofs.Ytedbiminpokbgaa
/- THE CELL 'sum', in the pinned program and in every row, IS THE sha256 OF THE DUMP (.gsa) THAT YtedbiminpokbgaaProg.lean LOADS. Nothing in Lean hashes anything: it is a label: what it is worth is what the hold of that sum in a sandbox is worth. -/
noncomputable def Try.pinned : Pinned := { name := "ytedbiminpokbgaa", sum := "a617baeffe851b8f96b1a3dd6e33764bd4b03d33cf03194324d24aff696ef954", checked := Try.checked }
namespace Rows
def none {H : Type} : Left H := { results := [], args := [] }

/-- 'laws.FnExactRuneBytes': WHATEVER THE INPUT: true; the input reads as it did. -/
def fnExactRuneBytesSpec : ChangeSpec := { name := "fnExactRuneBytes", fn := fun _ => fun
  | [d] => { results := [.lit (.bool true)], args := [d] }
  | _ => none }
def fnExactRuneBytesRow : OpenClaim := { program := "ytedbiminpokbgaa", sum := "a617baeffe851b8f96b1a3dd6e33764bd4b03d33cf03194324d24aff696ef954", func := "loop.example/g00600/laws.FnExactRuneBytes", spec := "fnExactRuneBytes", apart := false }
def FnExactRuneBytesSaid : Prop := fnExactRuneBytesRow.holds Try.pinned (OpenSpec.ofChange fnExactRuneBytesSpec)

/-- ITS FALSE NEIGHBOUR: 'it returns false'. Refute it at one input. -/
def fnExactRuneBytesWrong : ChangeSpec := { name := "fnExactRuneBytes", fn := fun _ => fun
  | [d] => { results := [.lit (.bool false)], args := [d] }
  | _ => none }
def FnExactRuneBytesWrongFalsely : Prop := fnExactRuneBytesRow.holds Try.pinned (OpenSpec.ofChange fnExactRuneBytesWrong)

/-- 'laws.FnExactTextOf': WHATEVER THE INPUT: true; the input reads as it did. -/
def fnExactTextOfSpec : ChangeSpec := { name := "fnExactTextOf", fn := fun _ => fun
  | [d] => { results := [.lit (.bool true)], args := [d] }
  | _ => none }
def fnExactTextOfRow : OpenClaim := { program := "ytedbiminpokbgaa", sum := "a617baeffe851b8f96b1a3dd6e33764bd4b03d33cf03194324d24aff696ef954", func := "loop.example/g00600/laws.FnExactTextOf", spec := "fnExactTextOf", apart := false }
def FnExactTextOfSaid : Prop := fnExactTextOfRow.holds Try.pinned (OpenSpec.ofChange fnExactTextOfSpec)

/-- ITS FALSE NEIGHBOUR: 'it returns false'. Refute it at one input. -/
def fnExactTextOfWrong : ChangeSpec := { name := "fnExactTextOf", fn := fun _ => fun
  | [d] => { results := [.lit (.bool false)], args := [d] }
  | _ => none }
def FnExactTextOfWrongFalsely : Prop := fnExactTextOfRow.holds Try.pinned (OpenSpec.ofChange fnExactTextOfWrong)

/-- 'laws.FnExactWidthOf': WHATEVER THE INPUT: true; the input reads as it did. -/
def fnExactWidthOfSpec : ChangeSpec := { name := "fnExactWidthOf", fn := fun _ => fun
  | [d] => { results := [.lit (.bool true)], args := [d] }
  | _ => none }
def fnExactWidthOfRow : OpenClaim := { program := "ytedbiminpokbgaa", sum := "a617baeffe851b8f96b1a3dd6e33764bd4b03d33cf03194324d24aff696ef954", func := "loop.example/g00600/laws.FnExactWidthOf", spec := "fnExactWidthOf", apart := false }
def FnExactWidthOfSaid : Prop := fnExactWidthOfRow.holds Try.pinned (OpenSpec.ofChange fnExactWidthOfSpec)

/-- ITS FALSE NEIGHBOUR: 'it returns false'. Refute it at one input. -/
def fnExactWidthOfWrong : ChangeSpec := { name := "fnExactWidthOf", fn := fun _ => fun
  | [d] => { results := [.lit (.bool false)], args := [d] }
  | _ => none }
def FnExactWidthOfWrongFalsely : Prop := fnExactWidthOfRow.holds Try.pinned (OpenSpec.ofChange fnExactWidthOfWrong)

/-- 'laws.FnExactRuneRead': WHATEVER THE INPUT: true; the input reads as it did. -/
def fnExactRuneReadSpec : ChangeSpec := { name := "fnExactRuneRead", fn := fun _ => fun
  | [d1, d2] => { results := [.lit (.bool true)], args := [d1, d2] }
  | _ => none }
def fnExactRuneReadRow : OpenClaim := { program := "ytedbiminpokbgaa", sum := "a617baeffe851b8f96b1a3dd6e33764bd4b03d33cf03194324d24aff696ef954", func := "loop.example/g00600/laws.FnExactRuneRead", spec := "fnExactRuneRead", apart := false }
def FnExactRuneReadSaid : Prop := fnExactRuneReadRow.holds Try.pinned (OpenSpec.ofChange fnExactRuneReadSpec)

/-- ITS FALSE NEIGHBOUR: 'it returns false'. Refute it at one input. -/
def fnExactRuneReadWrong : ChangeSpec := { name := "fnExactRuneRead", fn := fun _ => fun
  | [d1, d2] => { results := [.lit (.bool false)], args := [d1, d2] }
  | _ => none }
def FnExactRuneReadWrongFalsely : Prop := fnExactRuneReadRow.holds Try.pinned (OpenSpec.ofChange fnExactRuneReadWrong)

/-- 'laws.FnExactRunesOf': WHATEVER THE INPUT: true; the input reads as it did. -/
def fnExactRunesOfSpec : ChangeSpec := { name := "fnExactRunesOf", fn := fun _ => fun
  | [d] => { results := [.lit (.bool true)], args := [d] }
  | _ => none }
def fnExactRunesOfRow : OpenClaim := { program := "ytedbiminpokbgaa", sum := "a617baeffe851b8f96b1a3dd6e33764bd4b03d33cf03194324d24aff696ef954", func := "loop.example/g00600/laws.FnExactRunesOf", spec := "fnExactRunesOf", apart := false }
def FnExactRunesOfSaid : Prop := fnExactRunesOfRow.holds Try.pinned (OpenSpec.ofChange fnExactRunesOfSpec)

/-- ITS FALSE NEIGHBOUR: 'it returns false'. Refute it at one input. -/
def fnExactRunesOfWrong : ChangeSpec := { name := "fnExactRunesOf", fn := fun _ => fun
  | [d] => { results := [.lit (.bool false)], args := [d] }
  | _ => none }
def FnExactRunesOfWrongFalsely : Prop := fnExactRunesOfRow.holds Try.pinned (OpenSpec.ofChange fnExactRunesOfWrong)

/-- 'laws.FnRunes': WHATEVER THE INPUT: true; the input reads as it did. -/
def fnRunesSpec : ChangeSpec := { name := "fnRunes", fn := fun _ => fun
  | [d] => { results := [.lit (.bool true)], args := [d] }
  | _ => none }
def fnRunesRow : OpenClaim := { program := "ytedbiminpokbgaa", sum := "a617baeffe851b8f96b1a3dd6e33764bd4b03d33cf03194324d24aff696ef954", func := "loop.example/g00600/laws.FnRunes", spec := "fnRunes", apart := false }
def FnRunesSaid : Prop := fnRunesRow.holds Try.pinned (OpenSpec.ofChange fnRunesSpec)

/-- ITS FALSE NEIGHBOUR: 'it returns false'. Refute it at one input. -/
def fnRunesWrong : ChangeSpec := { name := "fnRunes", fn := fun _ => fun
  | [d] => { results := [.lit (.bool false)], args := [d] }
  | _ => none }
def FnRunesWrongFalsely : Prop := fnRunesRow.holds Try.pinned (OpenSpec.ofChange fnRunesWrong)

/-- 'laws.FnExactTearSteps': WHATEVER THE INPUT: true; the input reads as it did. -/
def fnExactTearStepsSpec : ChangeSpec := { name := "fnExactTearSteps", fn := fun _ => fun
  | [d1, d2] => { results := [.lit (.bool true)], args := [d1, d2] }
  | _ => none }
def fnExactTearStepsRow : OpenClaim := { program := "ytedbiminpokbgaa", sum := "a617baeffe851b8f96b1a3dd6e33764bd4b03d33cf03194324d24aff696ef954", func := "loop.example/g00600/laws.FnExactTearSteps", spec := "fnExactTearSteps", apart := false }
def FnExactTearStepsSaid : Prop := fnExactTearStepsRow.holds Try.pinned (OpenSpec.ofChange fnExactTearStepsSpec)

/-- ITS FALSE NEIGHBOUR: 'it returns false'. Refute it at one input. -/
def fnExactTearStepsWrong : ChangeSpec := { name := "fnExactTearSteps", fn := fun _ => fun
  | [d1, d2] => { results := [.lit (.bool false)], args := [d1, d2] }
  | _ => none }
def FnExactTearStepsWrongFalsely : Prop := fnExactTearStepsRow.holds Try.pinned (OpenSpec.ofChange fnExactTearStepsWrong)

/-- 'laws.FnExactTear': WHATEVER THE INPUT: true; the input reads as it did. -/
def fnExactTearSpec : ChangeSpec := { name := "fnExactTear", fn := fun _ => fun
  | [d1, d2, d3] => { results := [.lit (.bool true)], args := [d1, d2, d3] }
  | _ => none }
def fnExactTearRow : OpenClaim := { program := "ytedbiminpokbgaa", sum := "a617baeffe851b8f96b1a3dd6e33764bd4b03d33cf03194324d24aff696ef954", func := "loop.example/g00600/laws.FnExactTear", spec := "fnExactTear", apart := false }
def FnExactTearSaid : Prop := fnExactTearRow.holds Try.pinned (OpenSpec.ofChange fnExactTearSpec)

/-- ITS FALSE NEIGHBOUR: 'it returns false'. Refute it at one input. -/
def fnExactTearWrong : ChangeSpec := { name := "fnExactTear", fn := fun _ => fun
  | [d1, d2, d3] => { results := [.lit (.bool false)], args := [d1, d2, d3] }
  | _ => none }
def FnExactTearWrongFalsely : Prop := fnExactTearRow.holds Try.pinned (OpenSpec.ofChange fnExactTearWrong)

/-- 'laws.FnTear': WHATEVER THE INPUT: true; the input reads as it did. -/
def fnTearSpec : ChangeSpec := { name := "fnTear", fn := fun _ => fun
  | [d] => { results := [.lit (.bool true)], args := [d] }
  | _ => none }
def fnTearRow : OpenClaim := { program := "ytedbiminpokbgaa", sum := "a617baeffe851b8f96b1a3dd6e33764bd4b03d33cf03194324d24aff696ef954", func := "loop.example/g00600/laws.FnTear", spec := "fnTear", apart := false }
def FnTearSaid : Prop := fnTearRow.holds Try.pinned (OpenSpec.ofChange fnTearSpec)

/-- ITS FALSE NEIGHBOUR: 'it returns false'. Refute it at one input. -/
def fnTearWrong : ChangeSpec := { name := "fnTear", fn := fun _ => fun
  | [d] => { results := [.lit (.bool false)], args := [d] }
  | _ => none }
def FnTearWrongFalsely : Prop := fnTearRow.holds Try.pinned (OpenSpec.ofChange fnTearWrong)

/-- 'laws.FnExactLastOf': WHATEVER THE INPUT: true; the input reads as it did. -/
def fnExactLastOfSpec : ChangeSpec := { name := "fnExactLastOf", fn := fun _ => fun
  | [d1, d2] => { results := [.lit (.bool true)], args := [d1, d2] }
  | _ => none }
def fnExactLastOfRow : OpenClaim := { program := "ytedbiminpokbgaa", sum := "a617baeffe851b8f96b1a3dd6e33764bd4b03d33cf03194324d24aff696ef954", func := "loop.example/g00600/laws.FnExactLastOf", spec := "fnExactLastOf", apart := false }
def FnExactLastOfSaid : Prop := fnExactLastOfRow.holds Try.pinned (OpenSpec.ofChange fnExactLastOfSpec)

/-- ITS FALSE NEIGHBOUR: 'it returns false'. Refute it at one input. -/
def fnExactLastOfWrong : ChangeSpec := { name := "fnExactLastOf", fn := fun _ => fun
  | [d1, d2] => { results := [.lit (.bool false)], args := [d1, d2] }
  | _ => none }
def FnExactLastOfWrongFalsely : Prop := fnExactLastOfRow.holds Try.pinned (OpenSpec.ofChange fnExactLastOfWrong)

/-- 'laws.FnExactEntriesOk': WHATEVER THE INPUT: true; the input reads as it did. -/
def fnExactEntriesOkSpec : ChangeSpec := { name := "fnExactEntriesOk", fn := fun _ => fun
  | [d] => { results := [.lit (.bool true)], args := [d] }
  | _ => none }
def fnExactEntriesOkRow : OpenClaim := { program := "ytedbiminpokbgaa", sum := "a617baeffe851b8f96b1a3dd6e33764bd4b03d33cf03194324d24aff696ef954", func := "loop.example/g00600/laws.FnExactEntriesOk", spec := "fnExactEntriesOk", apart := false }
def FnExactEntriesOkSaid : Prop := fnExactEntriesOkRow.holds Try.pinned (OpenSpec.ofChange fnExactEntriesOkSpec)

/-- ITS FALSE NEIGHBOUR: 'it returns false'. Refute it at one input. -/
def fnExactEntriesOkWrong : ChangeSpec := { name := "fnExactEntriesOk", fn := fun _ => fun
  | [d] => { results := [.lit (.bool false)], args := [d] }
  | _ => none }
def FnExactEntriesOkWrongFalsely : Prop := fnExactEntriesOkRow.holds Try.pinned (OpenSpec.ofChange fnExactEntriesOkWrong)

/-- 'laws.FnExactOpOk': WHATEVER THE INPUT: true; the input reads as it did. -/
def fnExactOpOkSpec : ChangeSpec := { name := "fnExactOpOk", fn := fun _ => fun
  | [d] => { results := [.lit (.bool true)], args := [d] }
  | _ => none }
def fnExactOpOkRow : OpenClaim := { program := "ytedbiminpokbgaa", sum := "a617baeffe851b8f96b1a3dd6e33764bd4b03d33cf03194324d24aff696ef954", func := "loop.example/g00600/laws.FnExactOpOk", spec := "fnExactOpOk", apart := false }
def FnExactOpOkSaid : Prop := fnExactOpOkRow.holds Try.pinned (OpenSpec.ofChange fnExactOpOkSpec)

/-- ITS FALSE NEIGHBOUR: 'it returns false'. Refute it at one input. -/
def fnExactOpOkWrong : ChangeSpec := { name := "fnExactOpOk", fn := fun _ => fun
  | [d] => { results := [.lit (.bool false)], args := [d] }
  | _ => none }
def FnExactOpOkWrongFalsely : Prop := fnExactOpOkRow.holds Try.pinned (OpenSpec.ofChange fnExactOpOkWrong)

/- THE SECOND FORM. 'bulk': how many values and letters a reading holds, each counted each time it is reached (what is shared counts as often as it is met; a slice's spare places count too). A statement '..UptoSaid' is the law's where the arguments, and the package variables that the reading takes, are together of bulk at most 1048576: NARROWER than '..Said'. Prove '..Said' where nothing that the law and all that it calls make is longer than what came in: it says more and counts as full. Else prove '..UptoSaid'. A law counts once. -/
mutual
def uptoBulk {H : Type} : DataW H → Nat
  | .lit (.string bytes) => bytes.length + 1
  | .lit _ => 1
  | .nil => 1
  | .ptr d => uptoBulk d + 1
  | .slice elems spare => uptoBulkAll elems + uptoBulkAll spare + 1
  | .agg parts => uptoBulkAll parts + 1
  | .iface _ d => uptoBulk d + 1
  | .map entries => uptoBulkEntries entries + 1
  | .held _ => 1
def uptoBulkAll {H : Type} : List (DataW H) → Nat
  | [] => 0
  | d :: r => uptoBulk d + uptoBulkAll r
def uptoBulkEntries {H : Type} : List (Lit × DataW H) → Nat
  | [] => 0
  | x :: r => uptoBulkEntry x + uptoBulkEntries r
def uptoBulkEntry {H : Type} : Lit × DataW H → Nat
  | (.string bytes, d) => bytes.length + uptoBulk d + 1
  | (_, d) => uptoBulk d + 1
 end
def uptoSmall : (H : Type) → List (DataW H) → Bool := fun _ ds => decide (uptoBulkAll ds ≤ 1048576)
def OpenSpec.upto (s : _root_.Go.ChangeSpec) : _root_.Go.OpenSpec := { _root_.Go.OpenSpec.ofChange s with cond := some uptoSmall }

/-- 'laws.FnExactRuneBytes', WHERE WHAT IT READS IS OF BULK AT MOST 1048576: true; the input reads as it did. -/
def fnExactRuneBytesUptoRow : OpenClaim := { program := "ytedbiminpokbgaa", sum := "a617baeffe851b8f96b1a3dd6e33764bd4b03d33cf03194324d24aff696ef954", func := "loop.example/g00600/laws.FnExactRuneBytes", spec := "fnExactRuneBytes", apart := false, narrowed := true }
def FnExactRuneBytesUptoSaid : Prop := fnExactRuneBytesUptoRow.holds Try.pinned (OpenSpec.upto fnExactRuneBytesSpec)

/-- 'laws.FnExactTextOf', WHERE WHAT IT READS IS OF BULK AT MOST 1048576: true; the input reads as it did. -/
def fnExactTextOfUptoRow : OpenClaim := { program := "ytedbiminpokbgaa", sum := "a617baeffe851b8f96b1a3dd6e33764bd4b03d33cf03194324d24aff696ef954", func := "loop.example/g00600/laws.FnExactTextOf", spec := "fnExactTextOf", apart := false, narrowed := true }
def FnExactTextOfUptoSaid : Prop := fnExactTextOfUptoRow.holds Try.pinned (OpenSpec.upto fnExactTextOfSpec)

/-- 'laws.FnExactWidthOf', WHERE WHAT IT READS IS OF BULK AT MOST 1048576: true; the input reads as it did. -/
def fnExactWidthOfUptoRow : OpenClaim := { program := "ytedbiminpokbgaa", sum := "a617baeffe851b8f96b1a3dd6e33764bd4b03d33cf03194324d24aff696ef954", func := "loop.example/g00600/laws.FnExactWidthOf", spec := "fnExactWidthOf", apart := false, narrowed := true }
def FnExactWidthOfUptoSaid : Prop := fnExactWidthOfUptoRow.holds Try.pinned (OpenSpec.upto fnExactWidthOfSpec)

/-- 'laws.FnExactRuneRead', WHERE WHAT IT READS IS OF BULK AT MOST 1048576: true; the input reads as it did. -/
def fnExactRuneReadUptoRow : OpenClaim := { program := "ytedbiminpokbgaa", sum := "a617baeffe851b8f96b1a3dd6e33764bd4b03d33cf03194324d24aff696ef954", func := "loop.example/g00600/laws.FnExactRuneRead", spec := "fnExactRuneRead", apart := false, narrowed := true }
def FnExactRuneReadUptoSaid : Prop := fnExactRuneReadUptoRow.holds Try.pinned (OpenSpec.upto fnExactRuneReadSpec)

/-- 'laws.FnExactRunesOf', WHERE WHAT IT READS IS OF BULK AT MOST 1048576: true; the input reads as it did. -/
def fnExactRunesOfUptoRow : OpenClaim := { program := "ytedbiminpokbgaa", sum := "a617baeffe851b8f96b1a3dd6e33764bd4b03d33cf03194324d24aff696ef954", func := "loop.example/g00600/laws.FnExactRunesOf", spec := "fnExactRunesOf", apart := false, narrowed := true }
def FnExactRunesOfUptoSaid : Prop := fnExactRunesOfUptoRow.holds Try.pinned (OpenSpec.upto fnExactRunesOfSpec)

/-- 'laws.FnRunes', WHERE WHAT IT READS IS OF BULK AT MOST 1048576: true; the input reads as it did. -/
def fnRunesUptoRow : OpenClaim := { program := "ytedbiminpokbgaa", sum := "a617baeffe851b8f96b1a3dd6e33764bd4b03d33cf03194324d24aff696ef954", func := "loop.example/g00600/laws.FnRunes", spec := "fnRunes", apart := false, narrowed := true }
def FnRunesUptoSaid : Prop := fnRunesUptoRow.holds Try.pinned (OpenSpec.upto fnRunesSpec)

/-- 'laws.FnExactTearSteps', WHERE WHAT IT READS IS OF BULK AT MOST 1048576: true; the input reads as it did. -/
def fnExactTearStepsUptoRow : OpenClaim := { program := "ytedbiminpokbgaa", sum := "a617baeffe851b8f96b1a3dd6e33764bd4b03d33cf03194324d24aff696ef954", func := "loop.example/g00600/laws.FnExactTearSteps", spec := "fnExactTearSteps", apart := false, narrowed := true }
def FnExactTearStepsUptoSaid : Prop := fnExactTearStepsUptoRow.holds Try.pinned (OpenSpec.upto fnExactTearStepsSpec)

/-- 'laws.FnExactTear', WHERE WHAT IT READS IS OF BULK AT MOST 1048576: true; the input reads as it did. -/
def fnExactTearUptoRow : OpenClaim := { program := "ytedbiminpokbgaa", sum := "a617baeffe851b8f96b1a3dd6e33764bd4b03d33cf03194324d24aff696ef954", func := "loop.example/g00600/laws.FnExactTear", spec := "fnExactTear", apart := false, narrowed := true }
def FnExactTearUptoSaid : Prop := fnExactTearUptoRow.holds Try.pinned (OpenSpec.upto fnExactTearSpec)

/-- 'laws.FnTear', WHERE WHAT IT READS IS OF BULK AT MOST 1048576: true; the input reads as it did. -/
def fnTearUptoRow : OpenClaim := { program := "ytedbiminpokbgaa", sum := "a617baeffe851b8f96b1a3dd6e33764bd4b03d33cf03194324d24aff696ef954", func := "loop.example/g00600/laws.FnTear", spec := "fnTear", apart := false, narrowed := true }
def FnTearUptoSaid : Prop := fnTearUptoRow.holds Try.pinned (OpenSpec.upto fnTearSpec)

/-- 'laws.FnExactLastOf', WHERE WHAT IT READS IS OF BULK AT MOST 1048576: true; the input reads as it did. -/
def fnExactLastOfUptoRow : OpenClaim := { program := "ytedbiminpokbgaa", sum := "a617baeffe851b8f96b1a3dd6e33764bd4b03d33cf03194324d24aff696ef954", func := "loop.example/g00600/laws.FnExactLastOf", spec := "fnExactLastOf", apart := false, narrowed := true }
def FnExactLastOfUptoSaid : Prop := fnExactLastOfUptoRow.holds Try.pinned (OpenSpec.upto fnExactLastOfSpec)

/-- 'laws.FnExactEntriesOk', WHERE WHAT IT READS IS OF BULK AT MOST 1048576: true; the input reads as it did. -/
def fnExactEntriesOkUptoRow : OpenClaim := { program := "ytedbiminpokbgaa", sum := "a617baeffe851b8f96b1a3dd6e33764bd4b03d33cf03194324d24aff696ef954", func := "loop.example/g00600/laws.FnExactEntriesOk", spec := "fnExactEntriesOk", apart := false, narrowed := true }
def FnExactEntriesOkUptoSaid : Prop := fnExactEntriesOkUptoRow.holds Try.pinned (OpenSpec.upto fnExactEntriesOkSpec)

/-- 'laws.FnExactOpOk', WHERE WHAT IT READS IS OF BULK AT MOST 1048576: true; the input reads as it did. -/
def fnExactOpOkUptoRow : OpenClaim := { program := "ytedbiminpokbgaa", sum := "a617baeffe851b8f96b1a3dd6e33764bd4b03d33cf03194324d24aff696ef954", func := "loop.example/g00600/laws.FnExactOpOk", spec := "fnExactOpOk", apart := false, narrowed := true }
def FnExactOpOkUptoSaid : Prop := fnExactOpOkUptoRow.holds Try.pinned (OpenSpec.upto fnExactOpOkSpec)

end Rows
end Go.Proofs.Ytedbiminpokbgaa
