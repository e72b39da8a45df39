/-
  No cell of these rows narrows 'for every input' (looked for: loops, veiled, ifaces, maps, wideKeys, modest, calm, conditions, laid).
  DERIVED. THE GIVEN ROWS OF THIS SEAT. 8 by the template 'for every input the law returns true; each argument reads behind the call as it read before'; 0 by the template 'total and deterministic' (their statements: YtggaghghclomkaaGreatTotals.lean).
  GIVEN WITH THE SEED: the statements are not yours to turn. If you find one false, say at which input.
  Laid BY PROGRAM, IN A SANDBOX (cutbox-rows.mjs): the forced cells as the released guide's own fill.sh prints them over the translation 0781da32aa23fd13… (all of the seat's roots in one cut). By AI agents, Wed Nov 11 2026. No macro, syntax, notation, axiom, sorry.
-/
import Derived.Test.YtggaghghclomkaaGreatChecked
import GoSem.Claim
import GoSem.ClaimJoined
import GoSem.ClaimMapViews
import Derived.JoinedTies
import Derived.KernelRfl
namespace Go.Proofs.YtggaghghclomkaaGreat
/- THE CELL 'sum', in the pinned program and in every row, IS THE sha256 OF THE DUMP (.gsa) THAT YtggaghghclomkaaGreatProg.lean LOADS. Nothing in Lean hashes anything: it is a label: what it is worth is what the hold of that sum in a sandbox is worth. -/
noncomputable def Tryz.pinned : Pinned := { name := "ytggaghghclomkaagreat", sum := "0781da32aa23fd1372453e3471aa09434df50c0a447b647e25a57eba5e9c7e61", checked := Tryz.checked }
namespace Rows
def none {H : Type} : Left H := { results := [], args := [] }

/-- 'laws.FnExactDiskCrash': WHATEVER THE INPUT: true; the input reads as it did. -/
def fnExactDiskCrashSpec : ChangeSpec := { name := "fnExactDiskCrash", fn := fun _ => fun
  | [d1, d2, d3] => { results := [.lit (.bool true)], args := [d1, d2, d3] }
  | _ => none }
def fnExactDiskCrashRow : OpenClaim := { program := "ytggaghghclomkaagreat", sum := "0781da32aa23fd1372453e3471aa09434df50c0a447b647e25a57eba5e9c7e61", func := "loop.example/g00600/laws.FnExactDiskCrash", spec := "fnExactDiskCrash", inPlace := ["internal/reflectlite.ValueOf", "internal/reflectlite.Swapper", "(internal/reflectlite.Value).Len"], unfollowed := true, recurses := true, apart := false }
def FnExactDiskCrashSaid : Prop := fnExactDiskCrashRow.holds Tryz.pinned (OpenSpec.ofChange fnExactDiskCrashSpec)

/-- ITS FALSE NEIGHBOUR: 'it returns false'. Refute it at one input. -/
def fnExactDiskCrashWrong : ChangeSpec := { name := "fnExactDiskCrash", fn := fun _ => fun
  | [d1, d2, d3] => { results := [.lit (.bool false)], args := [d1, d2, d3] }
  | _ => none }
def FnExactDiskCrashWrongFalsely : Prop := fnExactDiskCrashRow.holds Tryz.pinned (OpenSpec.ofChange fnExactDiskCrashWrong)

/-- 'laws.FnExactDiskDo': WHATEVER THE INPUT: true; the input reads as it did. -/
def fnExactDiskDoSpec : ChangeSpec := { name := "fnExactDiskDo", fn := fun _ => fun
  | [d1, d2] => { results := [.lit (.bool true)], args := [d1, d2] }
  | _ => none }
def fnExactDiskDoRow : OpenClaim := { program := "ytggaghghclomkaagreat", sum := "0781da32aa23fd1372453e3471aa09434df50c0a447b647e25a57eba5e9c7e61", func := "loop.example/g00600/laws.FnExactDiskDo", spec := "fnExactDiskDo", inPlace := ["internal/reflectlite.ValueOf", "internal/reflectlite.Swapper", "(internal/reflectlite.Value).Len"], unfollowed := true, recurses := true, apart := false }
def FnExactDiskDoSaid : Prop := fnExactDiskDoRow.holds Tryz.pinned (OpenSpec.ofChange fnExactDiskDoSpec)

/-- ITS FALSE NEIGHBOUR: 'it returns false'. Refute it at one input. -/
def fnExactDiskDoWrong : ChangeSpec := { name := "fnExactDiskDo", fn := fun _ => fun
  | [d1, d2] => { results := [.lit (.bool false)], args := [d1, d2] }
  | _ => none }
def FnExactDiskDoWrongFalsely : Prop := fnExactDiskDoRow.holds Tryz.pinned (OpenSpec.ofChange fnExactDiskDoWrong)

/-- 'laws.FnExactDiskRun': WHATEVER THE INPUT: true; the input reads as it did. -/
def fnExactDiskRunSpec : ChangeSpec := { name := "fnExactDiskRun", fn := fun _ => fun
  | [d1, d2] => { results := [.lit (.bool true)], args := [d1, d2] }
  | _ => none }
def fnExactDiskRunRow : OpenClaim := { program := "ytggaghghclomkaagreat", sum := "0781da32aa23fd1372453e3471aa09434df50c0a447b647e25a57eba5e9c7e61", func := "loop.example/g00600/laws.FnExactDiskRun", spec := "fnExactDiskRun", inPlace := ["internal/reflectlite.ValueOf", "internal/reflectlite.Swapper", "(internal/reflectlite.Value).Len"], unfollowed := true, recurses := true, apart := false }
def FnExactDiskRunSaid : Prop := fnExactDiskRunRow.holds Tryz.pinned (OpenSpec.ofChange fnExactDiskRunSpec)

/-- ITS FALSE NEIGHBOUR: 'it returns false'. Refute it at one input. -/
def fnExactDiskRunWrong : ChangeSpec := { name := "fnExactDiskRun", fn := fun _ => fun
  | [d1, d2] => { results := [.lit (.bool false)], args := [d1, d2] }
  | _ => none }
def FnExactDiskRunWrongFalsely : Prop := fnExactDiskRunRow.holds Tryz.pinned (OpenSpec.ofChange fnExactDiskRunWrong)

/-- 'laws.FnTwice': WHATEVER THE INPUT: true; the input reads as it did. -/
def fnTwiceSpec : ChangeSpec := { name := "fnTwice", fn := fun _ => fun
  | [d] => { results := [.lit (.bool true)], args := [d] }
  | _ => none }
def fnTwiceRow : OpenClaim := { program := "ytggaghghclomkaagreat", sum := "0781da32aa23fd1372453e3471aa09434df50c0a447b647e25a57eba5e9c7e61", func := "loop.example/g00600/laws.FnTwice", spec := "fnTwice", inPlace := ["internal/reflectlite.ValueOf", "internal/reflectlite.Swapper", "(internal/reflectlite.Value).Len"], unfollowed := true, recurses := true, apart := false }
def FnTwiceSaid : Prop := fnTwiceRow.holds Tryz.pinned (OpenSpec.ofChange fnTwiceSpec)

/-- ITS FALSE NEIGHBOUR: 'it returns false'. Refute it at one input. -/
def fnTwiceWrong : ChangeSpec := { name := "fnTwice", fn := fun _ => fun
  | [d] => { results := [.lit (.bool false)], args := [d] }
  | _ => none }
def FnTwiceWrongFalsely : Prop := fnTwiceRow.holds Tryz.pinned (OpenSpec.ofChange fnTwiceWrong)

/-- 'laws.FnSafe': WHATEVER THE INPUT: true; the input reads as it did. -/
def fnSafeSpec : ChangeSpec := { name := "fnSafe", fn := fun _ => fun
  | [d] => { results := [.lit (.bool true)], args := [d] }
  | _ => none }
def fnSafeRow : OpenClaim := { program := "ytggaghghclomkaagreat", sum := "0781da32aa23fd1372453e3471aa09434df50c0a447b647e25a57eba5e9c7e61", func := "loop.example/g00600/laws.FnSafe", spec := "fnSafe", inPlace := ["internal/reflectlite.ValueOf", "internal/reflectlite.Swapper", "(internal/reflectlite.Value).Len"], unfollowed := true, recurses := true, apart := false }
def FnSafeSaid : Prop := fnSafeRow.holds Tryz.pinned (OpenSpec.ofChange fnSafeSpec)

/-- ITS FALSE NEIGHBOUR: 'it returns false'. Refute it at one input. -/
def fnSafeWrong : ChangeSpec := { name := "fnSafe", fn := fun _ => fun
  | [d] => { results := [.lit (.bool false)], args := [d] }
  | _ => none }
def FnSafeWrongFalsely : Prop := fnSafeRow.holds Tryz.pinned (OpenSpec.ofChange fnSafeWrong)

/-- 'laws.FnCutShort': WHATEVER THE INPUT: true; the input reads as it did. -/
def fnCutShortSpec : ChangeSpec := { name := "fnCutShort", fn := fun _ => fun
  | [d] => { results := [.lit (.bool true)], args := [d] }
  | _ => none }
def fnCutShortRow : OpenClaim := { program := "ytggaghghclomkaagreat", sum := "0781da32aa23fd1372453e3471aa09434df50c0a447b647e25a57eba5e9c7e61", func := "loop.example/g00600/laws.FnCutShort", spec := "fnCutShort", inPlace := ["internal/reflectlite.ValueOf", "internal/reflectlite.Swapper", "(internal/reflectlite.Value).Len"], unfollowed := true, recurses := true, apart := false }
def FnCutShortSaid : Prop := fnCutShortRow.holds Tryz.pinned (OpenSpec.ofChange fnCutShortSpec)

/-- ITS FALSE NEIGHBOUR: 'it returns false'. Refute it at one input. -/
def fnCutShortWrong : ChangeSpec := { name := "fnCutShort", fn := fun _ => fun
  | [d] => { results := [.lit (.bool false)], args := [d] }
  | _ => none }
def FnCutShortWrongFalsely : Prop := fnCutShortRow.holds Tryz.pinned (OpenSpec.ofChange fnCutShortWrong)

/-- 'laws.FnTidy': WHATEVER THE INPUT: true; the input reads as it did. -/
def fnTidySpec : ChangeSpec := { name := "fnTidy", fn := fun _ => fun
  | [d] => { results := [.lit (.bool true)], args := [d] }
  | _ => none }
def fnTidyRow : OpenClaim := { program := "ytggaghghclomkaagreat", sum := "0781da32aa23fd1372453e3471aa09434df50c0a447b647e25a57eba5e9c7e61", func := "loop.example/g00600/laws.FnTidy", spec := "fnTidy", inPlace := ["internal/reflectlite.ValueOf", "internal/reflectlite.Swapper", "(internal/reflectlite.Value).Len"], unfollowed := true, recurses := true, apart := false }
def FnTidySaid : Prop := fnTidyRow.holds Tryz.pinned (OpenSpec.ofChange fnTidySpec)

/-- ITS FALSE NEIGHBOUR: 'it returns false'. Refute it at one input. -/
def fnTidyWrong : ChangeSpec := { name := "fnTidy", fn := fun _ => fun
  | [d] => { results := [.lit (.bool false)], args := [d] }
  | _ => none }
def FnTidyWrongFalsely : Prop := fnTidyRow.holds Tryz.pinned (OpenSpec.ofChange fnTidyWrong)

/-- 'laws.FnExactOpen': WHATEVER THE INPUT: true; the input reads as it did. -/
def fnExactOpenSpec : ChangeSpec := { name := "fnExactOpen", fn := fun _ => fun
  | [d1, d2, d3] => { results := [.lit (.bool true)], args := [d1, d2, d3] }
  | _ => none }
def fnExactOpenRow : OpenClaim := { program := "ytggaghghclomkaagreat", sum := "0781da32aa23fd1372453e3471aa09434df50c0a447b647e25a57eba5e9c7e61", func := "loop.example/g00600/laws.FnExactOpen", spec := "fnExactOpen", inPlace := ["internal/reflectlite.ValueOf", "internal/reflectlite.Swapper", "(internal/reflectlite.Value).Len"], unfollowed := true, recurses := true, apart := false }
def FnExactOpenSaid : Prop := fnExactOpenRow.holds Tryz.pinned (OpenSpec.ofChange fnExactOpenSpec)

/-- ITS FALSE NEIGHBOUR: 'it returns false'. Refute it at one input. -/
def fnExactOpenWrong : ChangeSpec := { name := "fnExactOpen", fn := fun _ => fun
  | [d1, d2, d3] => { results := [.lit (.bool false)], args := [d1, d2, d3] }
  | _ => none }
def FnExactOpenWrongFalsely : Prop := fnExactOpenRow.holds Tryz.pinned (OpenSpec.ofChange fnExactOpenWrong)

/- THE SECOND FORM. 'bulk': how many values and letters a reading holds, each counted each time it is reached (what is shared counts as often as it is met; a slice's spare places count too). A statement '..UptoSaid' is the law's where the arguments, and the package variables that the reading takes, are together of bulk at most 1048576: NARROWER than '..Said'. Prove '..Said' where nothing that the law and all that it calls make is longer than what came in: it says more and counts as full. Else prove '..UptoSaid'. A law counts once. -/
mutual
def uptoBulk {H : Type} : DataW H → Nat
  | .lit (.string bytes) => bytes.length + 1
  | .lit _ => 1
  | .nil => 1
  | .ptr d => uptoBulk d + 1
  | .slice elems spare => uptoBulkAll elems + uptoBulkAll spare + 1
  | .agg parts => uptoBulkAll parts + 1
  | .iface _ d => uptoBulk d + 1
  | .map entries => uptoBulkEntries entries + 1
  | .held _ => 1
def uptoBulkAll {H : Type} : List (DataW H) → Nat
  | [] => 0
  | d :: r => uptoBulk d + uptoBulkAll r
def uptoBulkEntries {H : Type} : List (Lit × DataW H) → Nat
  | [] => 0
  | x :: r => uptoBulkEntry x + uptoBulkEntries r
def uptoBulkEntry {H : Type} : Lit × DataW H → Nat
  | (.string bytes, d) => bytes.length + uptoBulk d + 1
  | (_, d) => uptoBulk d + 1
 end
def uptoSmall : (H : Type) → List (DataW H) → Bool := fun _ ds => decide (uptoBulkAll ds ≤ 1048576)
def OpenSpec.upto (s : _root_.Go.ChangeSpec) : _root_.Go.OpenSpec := { _root_.Go.OpenSpec.ofChange s with cond := some uptoSmall }

/-- 'laws.FnExactDiskCrash', WHERE WHAT IT READS IS OF BULK AT MOST 1048576: true; the input reads as it did. -/
def fnExactDiskCrashUptoRow : OpenClaim := { program := "ytggaghghclomkaagreat", sum := "0781da32aa23fd1372453e3471aa09434df50c0a447b647e25a57eba5e9c7e61", func := "loop.example/g00600/laws.FnExactDiskCrash", spec := "fnExactDiskCrash", inPlace := ["internal/reflectlite.ValueOf", "internal/reflectlite.Swapper", "(internal/reflectlite.Value).Len"], unfollowed := true, recurses := true, apart := false, narrowed := true }
def FnExactDiskCrashUptoSaid : Prop := fnExactDiskCrashUptoRow.holds Tryz.pinned (OpenSpec.upto fnExactDiskCrashSpec)

/-- 'laws.FnExactDiskDo', WHERE WHAT IT READS IS OF BULK AT MOST 1048576: true; the input reads as it did. -/
def fnExactDiskDoUptoRow : OpenClaim := { program := "ytggaghghclomkaagreat", sum := "0781da32aa23fd1372453e3471aa09434df50c0a447b647e25a57eba5e9c7e61", func := "loop.example/g00600/laws.FnExactDiskDo", spec := "fnExactDiskDo", inPlace := ["internal/reflectlite.ValueOf", "internal/reflectlite.Swapper", "(internal/reflectlite.Value).Len"], unfollowed := true, recurses := true, apart := false, narrowed := true }
def FnExactDiskDoUptoSaid : Prop := fnExactDiskDoUptoRow.holds Tryz.pinned (OpenSpec.upto fnExactDiskDoSpec)

/-- 'laws.FnExactDiskRun', WHERE WHAT IT READS IS OF BULK AT MOST 1048576: true; the input reads as it did. -/
def fnExactDiskRunUptoRow : OpenClaim := { program := "ytggaghghclomkaagreat", sum := "0781da32aa23fd1372453e3471aa09434df50c0a447b647e25a57eba5e9c7e61", func := "loop.example/g00600/laws.FnExactDiskRun", spec := "fnExactDiskRun", inPlace := ["internal/reflectlite.ValueOf", "internal/reflectlite.Swapper", "(internal/reflectlite.Value).Len"], unfollowed := true, recurses := true, apart := false, narrowed := true }
def FnExactDiskRunUptoSaid : Prop := fnExactDiskRunUptoRow.holds Tryz.pinned (OpenSpec.upto fnExactDiskRunSpec)

/-- 'laws.FnTwice', WHERE WHAT IT READS IS OF BULK AT MOST 1048576: true; the input reads as it did. -/
def fnTwiceUptoRow : OpenClaim := { program := "ytggaghghclomkaagreat", sum := "0781da32aa23fd1372453e3471aa09434df50c0a447b647e25a57eba5e9c7e61", func := "loop.example/g00600/laws.FnTwice", spec := "fnTwice", inPlace := ["internal/reflectlite.ValueOf", "internal/reflectlite.Swapper", "(internal/reflectlite.Value).Len"], unfollowed := true, recurses := true, apart := false, narrowed := true }
def FnTwiceUptoSaid : Prop := fnTwiceUptoRow.holds Tryz.pinned (OpenSpec.upto fnTwiceSpec)

/-- 'laws.FnSafe', WHERE WHAT IT READS IS OF BULK AT MOST 1048576: true; the input reads as it did. -/
def fnSafeUptoRow : OpenClaim := { program := "ytggaghghclomkaagreat", sum := "0781da32aa23fd1372453e3471aa09434df50c0a447b647e25a57eba5e9c7e61", func := "loop.example/g00600/laws.FnSafe", spec := "fnSafe", inPlace := ["internal/reflectlite.ValueOf", "internal/reflectlite.Swapper", "(internal/reflectlite.Value).Len"], unfollowed := true, recurses := true, apart := false, narrowed := true }
def FnSafeUptoSaid : Prop := fnSafeUptoRow.holds Tryz.pinned (OpenSpec.upto fnSafeSpec)

/-- 'laws.FnCutShort', WHERE WHAT IT READS IS OF BULK AT MOST 1048576: true; the input reads as it did. -/
def fnCutShortUptoRow : OpenClaim := { program := "ytggaghghclomkaagreat", sum := "0781da32aa23fd1372453e3471aa09434df50c0a447b647e25a57eba5e9c7e61", func := "loop.example/g00600/laws.FnCutShort", spec := "fnCutShort", inPlace := ["internal/reflectlite.ValueOf", "internal/reflectlite.Swapper", "(internal/reflectlite.Value).Len"], unfollowed := true, recurses := true, apart := false, narrowed := true }
def FnCutShortUptoSaid : Prop := fnCutShortUptoRow.holds Tryz.pinned (OpenSpec.upto fnCutShortSpec)

/-- 'laws.FnTidy', WHERE WHAT IT READS IS OF BULK AT MOST 1048576: true; the input reads as it did. -/
def fnTidyUptoRow : OpenClaim := { program := "ytggaghghclomkaagreat", sum := "0781da32aa23fd1372453e3471aa09434df50c0a447b647e25a57eba5e9c7e61", func := "loop.example/g00600/laws.FnTidy", spec := "fnTidy", inPlace := ["internal/reflectlite.ValueOf", "internal/reflectlite.Swapper", "(internal/reflectlite.Value).Len"], unfollowed := true, recurses := true, apart := false, narrowed := true }
def FnTidyUptoSaid : Prop := fnTidyUptoRow.holds Tryz.pinned (OpenSpec.upto fnTidySpec)

/-- 'laws.FnExactOpen', WHERE WHAT IT READS IS OF BULK AT MOST 1048576: true; the input reads as it did. -/
def fnExactOpenUptoRow : OpenClaim := { program := "ytggaghghclomkaagreat", sum := "0781da32aa23fd1372453e3471aa09434df50c0a447b647e25a57eba5e9c7e61", func := "loop.example/g00600/laws.FnExactOpen", spec := "fnExactOpen", inPlace := ["internal/reflectlite.ValueOf", "internal/reflectlite.Swapper", "(internal/reflectlite.Value).Len"], unfollowed := true, recurses := true, apart := false, narrowed := true }
def FnExactOpenUptoSaid : Prop := fnExactOpenUptoRow.holds Tryz.pinned (OpenSpec.upto fnExactOpenSpec)

end Rows
end Go.Proofs.YtggaghghclomkaaGreat
