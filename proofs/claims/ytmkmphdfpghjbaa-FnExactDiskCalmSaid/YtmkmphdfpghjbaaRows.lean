/-
  No cell of these rows narrows 'for every input' (looked for: loops, veiled, ifaces, maps, wideKeys, modest, calm, conditions, laid).
  DERIVED. THE GIVEN ROWS OF THIS SEAT. 12 by the template 'for every input the law returns true; each argument reads behind the call as it read before'; 0 by the template 'total and deterministic' (their statements: YtmkmphdfpghjbaaTotals.lean).
  GIVEN WITH THE SEED: the statements are not yours to turn. If you find one false, say at which input.
  Laid BY PROGRAM, IN A SANDBOX (cutbox-rows.mjs): the forced cells as the released guide's own fill.sh prints them over the translation 366bffbf918eda80… (all of the seat's roots in one cut). By AI agents, Wed Nov 11 2026. No macro, syntax, notation, axiom, sorry.
-/
import Derived.Test.YtmkmphdfpghjbaaChecked
import GoSem.Claim
import GoSem.ClaimJoined
import GoSem.ClaimMapViews
import Derived.JoinedTies
import Derived.KernelRfl
namespace Go.Proofs.Ytmkmphdfpghjbaa
/- THE CELL 'sum', in the pinned program and in every row, IS THE sha256 OF THE DUMP (.gsa) THAT YtmkmphdfpghjbaaProg.lean LOADS. Nothing in Lean hashes anything: it is a label: what it is worth is what the hold of that sum in a sandbox is worth. -/
noncomputable def Try.pinned : Pinned := { name := "ytmkmphdfpghjbaa", sum := "366bffbf918eda80b45c9f4b3f34bfbdf9f5f38ff0e473d5677923ba12ecab83", checked := Try.checked }
namespace Rows
def none {H : Type} : Left H := { results := [], args := [] }

/-- 'laws.FnExactDiskOk': WHATEVER THE INPUT: true; the input reads as it did. -/
def fnExactDiskOkSpec : ChangeSpec := { name := "fnExactDiskOk", fn := fun _ => fun
  | [d] => { results := [.lit (.bool true)], args := [d] }
  | _ => none }
def fnExactDiskOkRow : OpenClaim := { program := "ytmkmphdfpghjbaa", sum := "366bffbf918eda80b45c9f4b3f34bfbdf9f5f38ff0e473d5677923ba12ecab83", func := "loop.example/g00600/laws.FnExactDiskOk", spec := "fnExactDiskOk", apart := false }
def FnExactDiskOkSaid : Prop := fnExactDiskOkRow.holds Try.pinned (OpenSpec.ofChange fnExactDiskOkSpec)

/-- ITS FALSE NEIGHBOUR: 'it returns false'. Refute it at one input. -/
def fnExactDiskOkWrong : ChangeSpec := { name := "fnExactDiskOk", fn := fun _ => fun
  | [d] => { results := [.lit (.bool false)], args := [d] }
  | _ => none }
def FnExactDiskOkWrongFalsely : Prop := fnExactDiskOkRow.holds Try.pinned (OpenSpec.ofChange fnExactDiskOkWrong)

/-- 'laws.FnExactDiskRead': WHATEVER THE INPUT: true; the input reads as it did. -/
def fnExactDiskReadSpec : ChangeSpec := { name := "fnExactDiskRead", fn := fun _ => fun
  | [d1, d2] => { results := [.lit (.bool true)], args := [d1, d2] }
  | _ => none }
def fnExactDiskReadRow : OpenClaim := { program := "ytmkmphdfpghjbaa", sum := "366bffbf918eda80b45c9f4b3f34bfbdf9f5f38ff0e473d5677923ba12ecab83", func := "loop.example/g00600/laws.FnExactDiskRead", spec := "fnExactDiskRead", apart := false }
def FnExactDiskReadSaid : Prop := fnExactDiskReadRow.holds Try.pinned (OpenSpec.ofChange fnExactDiskReadSpec)

/-- ITS FALSE NEIGHBOUR: 'it returns false'. Refute it at one input. -/
def fnExactDiskReadWrong : ChangeSpec := { name := "fnExactDiskRead", fn := fun _ => fun
  | [d1, d2] => { results := [.lit (.bool false)], args := [d1, d2] }
  | _ => none }
def FnExactDiskReadWrongFalsely : Prop := fnExactDiskReadRow.holds Try.pinned (OpenSpec.ofChange fnExactDiskReadWrong)

/-- 'laws.FnExactDiskFuse': WHATEVER THE INPUT: true; the input reads as it did. -/
def fnExactDiskFuseSpec : ChangeSpec := { name := "fnExactDiskFuse", fn := fun _ => fun
  | [d1, d2] => { results := [.lit (.bool true)], args := [d1, d2] }
  | _ => none }
def fnExactDiskFuseRow : OpenClaim := { program := "ytmkmphdfpghjbaa", sum := "366bffbf918eda80b45c9f4b3f34bfbdf9f5f38ff0e473d5677923ba12ecab83", func := "loop.example/g00600/laws.FnExactDiskFuse", spec := "fnExactDiskFuse", apart := false }
def FnExactDiskFuseSaid : Prop := fnExactDiskFuseRow.holds Try.pinned (OpenSpec.ofChange fnExactDiskFuseSpec)

/-- ITS FALSE NEIGHBOUR: 'it returns false'. Refute it at one input. -/
def fnExactDiskFuseWrong : ChangeSpec := { name := "fnExactDiskFuse", fn := fun _ => fun
  | [d1, d2] => { results := [.lit (.bool false)], args := [d1, d2] }
  | _ => none }
def FnExactDiskFuseWrongFalsely : Prop := fnExactDiskFuseRow.holds Try.pinned (OpenSpec.ofChange fnExactDiskFuseWrong)

/-- 'laws.FnExactDiskRoom': WHATEVER THE INPUT: true; the input reads as it did. -/
def fnExactDiskRoomSpec : ChangeSpec := { name := "fnExactDiskRoom", fn := fun _ => fun
  | [d1, d2] => { results := [.lit (.bool true)], args := [d1, d2] }
  | _ => none }
def fnExactDiskRoomRow : OpenClaim := { program := "ytmkmphdfpghjbaa", sum := "366bffbf918eda80b45c9f4b3f34bfbdf9f5f38ff0e473d5677923ba12ecab83", func := "loop.example/g00600/laws.FnExactDiskRoom", spec := "fnExactDiskRoom", apart := false }
def FnExactDiskRoomSaid : Prop := fnExactDiskRoomRow.holds Try.pinned (OpenSpec.ofChange fnExactDiskRoomSpec)

/-- ITS FALSE NEIGHBOUR: 'it returns false'. Refute it at one input. -/
def fnExactDiskRoomWrong : ChangeSpec := { name := "fnExactDiskRoom", fn := fun _ => fun
  | [d1, d2] => { results := [.lit (.bool false)], args := [d1, d2] }
  | _ => none }
def FnExactDiskRoomWrongFalsely : Prop := fnExactDiskRoomRow.holds Try.pinned (OpenSpec.ofChange fnExactDiskRoomWrong)

/-- 'laws.FnExactStoreOk': WHATEVER THE INPUT: true; the input reads as it did. -/
def fnExactStoreOkSpec : ChangeSpec := { name := "fnExactStoreOk", fn := fun _ => fun
  | [d] => { results := [.lit (.bool true)], args := [d] }
  | _ => none }
def fnExactStoreOkRow : OpenClaim := { program := "ytmkmphdfpghjbaa", sum := "366bffbf918eda80b45c9f4b3f34bfbdf9f5f38ff0e473d5677923ba12ecab83", func := "loop.example/g00600/laws.FnExactStoreOk", spec := "fnExactStoreOk", apart := false }
def FnExactStoreOkSaid : Prop := fnExactStoreOkRow.holds Try.pinned (OpenSpec.ofChange fnExactStoreOkSpec)

/-- ITS FALSE NEIGHBOUR: 'it returns false'. Refute it at one input. -/
def fnExactStoreOkWrong : ChangeSpec := { name := "fnExactStoreOk", fn := fun _ => fun
  | [d] => { results := [.lit (.bool false)], args := [d] }
  | _ => none }
def FnExactStoreOkWrongFalsely : Prop := fnExactStoreOkRow.holds Try.pinned (OpenSpec.ofChange fnExactStoreOkWrong)

/-- 'laws.FnExactFound': WHATEVER THE INPUT: true; the input reads as it did. -/
def fnExactFoundSpec : ChangeSpec := { name := "fnExactFound", fn := fun _ => fun
  | [d] => { results := [.lit (.bool true)], args := [d] }
  | _ => none }
def fnExactFoundRow : OpenClaim := { program := "ytmkmphdfpghjbaa", sum := "366bffbf918eda80b45c9f4b3f34bfbdf9f5f38ff0e473d5677923ba12ecab83", func := "loop.example/g00600/laws.FnExactFound", spec := "fnExactFound", apart := false }
def FnExactFoundSaid : Prop := fnExactFoundRow.holds Try.pinned (OpenSpec.ofChange fnExactFoundSpec)

/-- ITS FALSE NEIGHBOUR: 'it returns false'. Refute it at one input. -/
def fnExactFoundWrong : ChangeSpec := { name := "fnExactFound", fn := fun _ => fun
  | [d] => { results := [.lit (.bool false)], args := [d] }
  | _ => none }
def FnExactFoundWrongFalsely : Prop := fnExactFoundRow.holds Try.pinned (OpenSpec.ofChange fnExactFoundWrong)

/-- 'laws.FnDisk': WHATEVER THE INPUT: true; the input reads as it did. -/
def fnDiskSpec : ChangeSpec := { name := "fnDisk", fn := fun _ => fun
  | [d] => { results := [.lit (.bool true)], args := [d] }
  | _ => none }
def fnDiskRow : OpenClaim := { program := "ytmkmphdfpghjbaa", sum := "366bffbf918eda80b45c9f4b3f34bfbdf9f5f38ff0e473d5677923ba12ecab83", func := "loop.example/g00600/laws.FnDisk", spec := "fnDisk", inPlace := ["internal/reflectlite.ValueOf", "internal/reflectlite.Swapper", "(internal/reflectlite.Value).Len"], unfollowed := true, recurses := true, apart := false }
def FnDiskSaid : Prop := fnDiskRow.holds Try.pinned (OpenSpec.ofChange fnDiskSpec)

/-- ITS FALSE NEIGHBOUR: 'it returns false'. Refute it at one input. -/
def fnDiskWrong : ChangeSpec := { name := "fnDisk", fn := fun _ => fun
  | [d] => { results := [.lit (.bool false)], args := [d] }
  | _ => none }
def FnDiskWrongFalsely : Prop := fnDiskRow.holds Try.pinned (OpenSpec.ofChange fnDiskWrong)

/-- 'laws.FnCrash': WHATEVER THE INPUT: true; the input reads as it did. -/
def fnCrashSpec : ChangeSpec := { name := "fnCrash", fn := fun _ => fun
  | [d] => { results := [.lit (.bool true)], args := [d] }
  | _ => none }
def fnCrashRow : OpenClaim := { program := "ytmkmphdfpghjbaa", sum := "366bffbf918eda80b45c9f4b3f34bfbdf9f5f38ff0e473d5677923ba12ecab83", func := "loop.example/g00600/laws.FnCrash", spec := "fnCrash", inPlace := ["internal/reflectlite.ValueOf", "internal/reflectlite.Swapper", "(internal/reflectlite.Value).Len"], unfollowed := true, recurses := true, apart := false }
def FnCrashSaid : Prop := fnCrashRow.holds Try.pinned (OpenSpec.ofChange fnCrashSpec)

/-- ITS FALSE NEIGHBOUR: 'it returns false'. Refute it at one input. -/
def fnCrashWrong : ChangeSpec := { name := "fnCrash", fn := fun _ => fun
  | [d] => { results := [.lit (.bool false)], args := [d] }
  | _ => none }
def FnCrashWrongFalsely : Prop := fnCrashRow.holds Try.pinned (OpenSpec.ofChange fnCrashWrong)

/-- 'laws.FnCalm': WHATEVER THE INPUT: true; the input reads as it did. -/
def fnCalmSpec : ChangeSpec := { name := "fnCalm", fn := fun _ => fun
  | [d] => { results := [.lit (.bool true)], args := [d] }
  | _ => none }
def fnCalmRow : OpenClaim := { program := "ytmkmphdfpghjbaa", sum := "366bffbf918eda80b45c9f4b3f34bfbdf9f5f38ff0e473d5677923ba12ecab83", func := "loop.example/g00600/laws.FnCalm", spec := "fnCalm", inPlace := ["internal/reflectlite.ValueOf", "internal/reflectlite.Swapper", "(internal/reflectlite.Value).Len"], unfollowed := true, recurses := true, apart := false }
def FnCalmSaid : Prop := fnCalmRow.holds Try.pinned (OpenSpec.ofChange fnCalmSpec)

/-- ITS FALSE NEIGHBOUR: 'it returns false'. Refute it at one input. -/
def fnCalmWrong : ChangeSpec := { name := "fnCalm", fn := fun _ => fun
  | [d] => { results := [.lit (.bool false)], args := [d] }
  | _ => none }
def FnCalmWrongFalsely : Prop := fnCalmRow.holds Try.pinned (OpenSpec.ofChange fnCalmWrong)

/-- 'laws.FnExactDiskDir': WHATEVER THE INPUT: true; the input reads as it did. -/
def fnExactDiskDirSpec : ChangeSpec := { name := "fnExactDiskDir", fn := fun _ => fun
  | [d] => { results := [.lit (.bool true)], args := [d] }
  | _ => none }
def fnExactDiskDirRow : OpenClaim := { program := "ytmkmphdfpghjbaa", sum := "366bffbf918eda80b45c9f4b3f34bfbdf9f5f38ff0e473d5677923ba12ecab83", func := "loop.example/g00600/laws.FnExactDiskDir", spec := "fnExactDiskDir", inPlace := ["internal/reflectlite.ValueOf", "internal/reflectlite.Swapper", "(internal/reflectlite.Value).Len"], unfollowed := true, recurses := true, apart := false }
def FnExactDiskDirSaid : Prop := fnExactDiskDirRow.holds Try.pinned (OpenSpec.ofChange fnExactDiskDirSpec)

/-- ITS FALSE NEIGHBOUR: 'it returns false'. Refute it at one input. -/
def fnExactDiskDirWrong : ChangeSpec := { name := "fnExactDiskDir", fn := fun _ => fun
  | [d] => { results := [.lit (.bool false)], args := [d] }
  | _ => none }
def FnExactDiskDirWrongFalsely : Prop := fnExactDiskDirRow.holds Try.pinned (OpenSpec.ofChange fnExactDiskDirWrong)

/-- 'laws.FnFuse': WHATEVER THE INPUT: true; the input reads as it did. -/
def fnFuseSpec : ChangeSpec := { name := "fnFuse", fn := fun _ => fun
  | [d] => { results := [.lit (.bool true)], args := [d] }
  | _ => none }
def fnFuseRow : OpenClaim := { program := "ytmkmphdfpghjbaa", sum := "366bffbf918eda80b45c9f4b3f34bfbdf9f5f38ff0e473d5677923ba12ecab83", func := "loop.example/g00600/laws.FnFuse", spec := "fnFuse", inPlace := ["internal/reflectlite.ValueOf", "internal/reflectlite.Swapper", "(internal/reflectlite.Value).Len"], unfollowed := true, recurses := true, apart := false }
def FnFuseSaid : Prop := fnFuseRow.holds Try.pinned (OpenSpec.ofChange fnFuseSpec)

/-- ITS FALSE NEIGHBOUR: 'it returns false'. Refute it at one input. -/
def fnFuseWrong : ChangeSpec := { name := "fnFuse", fn := fun _ => fun
  | [d] => { results := [.lit (.bool false)], args := [d] }
  | _ => none }
def FnFuseWrongFalsely : Prop := fnFuseRow.holds Try.pinned (OpenSpec.ofChange fnFuseWrong)

/-- 'laws.FnExactDiskCalm': WHATEVER THE INPUT: true; the input reads as it did. -/
def fnExactDiskCalmSpec : ChangeSpec := { name := "fnExactDiskCalm", fn := fun _ => fun
  | [d] => { results := [.lit (.bool true)], args := [d] }
  | _ => none }
def fnExactDiskCalmRow : OpenClaim := { program := "ytmkmphdfpghjbaa", sum := "366bffbf918eda80b45c9f4b3f34bfbdf9f5f38ff0e473d5677923ba12ecab83", func := "loop.example/g00600/laws.FnExactDiskCalm", spec := "fnExactDiskCalm", inPlace := ["internal/reflectlite.ValueOf", "internal/reflectlite.Swapper", "(internal/reflectlite.Value).Len"], unfollowed := true, recurses := true, apart := false }
def FnExactDiskCalmSaid : Prop := fnExactDiskCalmRow.holds Try.pinned (OpenSpec.ofChange fnExactDiskCalmSpec)

/-- ITS FALSE NEIGHBOUR: 'it returns false'. Refute it at one input. -/
def fnExactDiskCalmWrong : ChangeSpec := { name := "fnExactDiskCalm", fn := fun _ => fun
  | [d] => { results := [.lit (.bool false)], args := [d] }
  | _ => none }
def FnExactDiskCalmWrongFalsely : Prop := fnExactDiskCalmRow.holds Try.pinned (OpenSpec.ofChange fnExactDiskCalmWrong)

/- THE SECOND FORM. 'bulk': how many values and letters a reading holds, each counted each time it is reached (what is shared counts as often as it is met; a slice's spare places count too). A statement '..UptoSaid' is the law's where the arguments, and the package variables that the reading takes, are together of bulk at most 1048576: NARROWER than '..Said'. Prove '..Said' where nothing that the law and all that it calls make is longer than what came in: it says more and counts as full. Else prove '..UptoSaid'. A law counts once. -/
mutual
def uptoBulk {H : Type} : DataW H → Nat
  | .lit (.string bytes) => bytes.length + 1
  | .lit _ => 1
  | .nil => 1
  | .ptr d => uptoBulk d + 1
  | .slice elems spare => uptoBulkAll elems + uptoBulkAll spare + 1
  | .agg parts => uptoBulkAll parts + 1
  | .iface _ d => uptoBulk d + 1
  | .map entries => uptoBulkEntries entries + 1
  | .held _ => 1
def uptoBulkAll {H : Type} : List (DataW H) → Nat
  | [] => 0
  | d :: r => uptoBulk d + uptoBulkAll r
def uptoBulkEntries {H : Type} : List (Lit × DataW H) → Nat
  | [] => 0
  | x :: r => uptoBulkEntry x + uptoBulkEntries r
def uptoBulkEntry {H : Type} : Lit × DataW H → Nat
  | (.string bytes, d) => bytes.length + uptoBulk d + 1
  | (_, d) => uptoBulk d + 1
 end
def uptoSmall : (H : Type) → List (DataW H) → Bool := fun _ ds => decide (uptoBulkAll ds ≤ 1048576)
def OpenSpec.upto (s : _root_.Go.ChangeSpec) : _root_.Go.OpenSpec := { _root_.Go.OpenSpec.ofChange s with cond := some uptoSmall }

/-- 'laws.FnExactDiskOk', WHERE WHAT IT READS IS OF BULK AT MOST 1048576: true; the input reads as it did. -/
def fnExactDiskOkUptoRow : OpenClaim := { program := "ytmkmphdfpghjbaa", sum := "366bffbf918eda80b45c9f4b3f34bfbdf9f5f38ff0e473d5677923ba12ecab83", func := "loop.example/g00600/laws.FnExactDiskOk", spec := "fnExactDiskOk", apart := false, narrowed := true }
def FnExactDiskOkUptoSaid : Prop := fnExactDiskOkUptoRow.holds Try.pinned (OpenSpec.upto fnExactDiskOkSpec)

/-- 'laws.FnExactDiskRead', WHERE WHAT IT READS IS OF BULK AT MOST 1048576: true; the input reads as it did. -/
def fnExactDiskReadUptoRow : OpenClaim := { program := "ytmkmphdfpghjbaa", sum := "366bffbf918eda80b45c9f4b3f34bfbdf9f5f38ff0e473d5677923ba12ecab83", func := "loop.example/g00600/laws.FnExactDiskRead", spec := "fnExactDiskRead", apart := false, narrowed := true }
def FnExactDiskReadUptoSaid : Prop := fnExactDiskReadUptoRow.holds Try.pinned (OpenSpec.upto fnExactDiskReadSpec)

/-- 'laws.FnExactDiskFuse', WHERE WHAT IT READS IS OF BULK AT MOST 1048576: true; the input reads as it did. -/
def fnExactDiskFuseUptoRow : OpenClaim := { program := "ytmkmphdfpghjbaa", sum := "366bffbf918eda80b45c9f4b3f34bfbdf9f5f38ff0e473d5677923ba12ecab83", func := "loop.example/g00600/laws.FnExactDiskFuse", spec := "fnExactDiskFuse", apart := false, narrowed := true }
def FnExactDiskFuseUptoSaid : Prop := fnExactDiskFuseUptoRow.holds Try.pinned (OpenSpec.upto fnExactDiskFuseSpec)

/-- 'laws.FnExactDiskRoom', WHERE WHAT IT READS IS OF BULK AT MOST 1048576: true; the input reads as it did. -/
def fnExactDiskRoomUptoRow : OpenClaim := { program := "ytmkmphdfpghjbaa", sum := "366bffbf918eda80b45c9f4b3f34bfbdf9f5f38ff0e473d5677923ba12ecab83", func := "loop.example/g00600/laws.FnExactDiskRoom", spec := "fnExactDiskRoom", apart := false, narrowed := true }
def FnExactDiskRoomUptoSaid : Prop := fnExactDiskRoomUptoRow.holds Try.pinned (OpenSpec.upto fnExactDiskRoomSpec)

/-- 'laws.FnExactStoreOk', WHERE WHAT IT READS IS OF BULK AT MOST 1048576: true; the input reads as it did. -/
def fnExactStoreOkUptoRow : OpenClaim := { program := "ytmkmphdfpghjbaa", sum := "366bffbf918eda80b45c9f4b3f34bfbdf9f5f38ff0e473d5677923ba12ecab83", func := "loop.example/g00600/laws.FnExactStoreOk", spec := "fnExactStoreOk", apart := false, narrowed := true }
def FnExactStoreOkUptoSaid : Prop := fnExactStoreOkUptoRow.holds Try.pinned (OpenSpec.upto fnExactStoreOkSpec)

/-- 'laws.FnExactFound', WHERE WHAT IT READS IS OF BULK AT MOST 1048576: true; the input reads as it did. -/
def fnExactFoundUptoRow : OpenClaim := { program := "ytmkmphdfpghjbaa", sum := "366bffbf918eda80b45c9f4b3f34bfbdf9f5f38ff0e473d5677923ba12ecab83", func := "loop.example/g00600/laws.FnExactFound", spec := "fnExactFound", apart := false, narrowed := true }
def FnExactFoundUptoSaid : Prop := fnExactFoundUptoRow.holds Try.pinned (OpenSpec.upto fnExactFoundSpec)

/-- 'laws.FnDisk', WHERE WHAT IT READS IS OF BULK AT MOST 1048576: true; the input reads as it did. -/
def fnDiskUptoRow : OpenClaim := { program := "ytmkmphdfpghjbaa", sum := "366bffbf918eda80b45c9f4b3f34bfbdf9f5f38ff0e473d5677923ba12ecab83", func := "loop.example/g00600/laws.FnDisk", spec := "fnDisk", inPlace := ["internal/reflectlite.ValueOf", "internal/reflectlite.Swapper", "(internal/reflectlite.Value).Len"], unfollowed := true, recurses := true, apart := false, narrowed := true }
def FnDiskUptoSaid : Prop := fnDiskUptoRow.holds Try.pinned (OpenSpec.upto fnDiskSpec)

/-- 'laws.FnCrash', WHERE WHAT IT READS IS OF BULK AT MOST 1048576: true; the input reads as it did. -/
def fnCrashUptoRow : OpenClaim := { program := "ytmkmphdfpghjbaa", sum := "366bffbf918eda80b45c9f4b3f34bfbdf9f5f38ff0e473d5677923ba12ecab83", func := "loop.example/g00600/laws.FnCrash", spec := "fnCrash", inPlace := ["internal/reflectlite.ValueOf", "internal/reflectlite.Swapper", "(internal/reflectlite.Value).Len"], unfollowed := true, recurses := true, apart := false, narrowed := true }
def FnCrashUptoSaid : Prop := fnCrashUptoRow.holds Try.pinned (OpenSpec.upto fnCrashSpec)

/-- 'laws.FnCalm', WHERE WHAT IT READS IS OF BULK AT MOST 1048576: true; the input reads as it did. -/
def fnCalmUptoRow : OpenClaim := { program := "ytmkmphdfpghjbaa", sum := "366bffbf918eda80b45c9f4b3f34bfbdf9f5f38ff0e473d5677923ba12ecab83", func := "loop.example/g00600/laws.FnCalm", spec := "fnCalm", inPlace := ["internal/reflectlite.ValueOf", "internal/reflectlite.Swapper", "(internal/reflectlite.Value).Len"], unfollowed := true, recurses := true, apart := false, narrowed := true }
def FnCalmUptoSaid : Prop := fnCalmUptoRow.holds Try.pinned (OpenSpec.upto fnCalmSpec)

/-- 'laws.FnExactDiskDir', WHERE WHAT IT READS IS OF BULK AT MOST 1048576: true; the input reads as it did. -/
def fnExactDiskDirUptoRow : OpenClaim := { program := "ytmkmphdfpghjbaa", sum := "366bffbf918eda80b45c9f4b3f34bfbdf9f5f38ff0e473d5677923ba12ecab83", func := "loop.example/g00600/laws.FnExactDiskDir", spec := "fnExactDiskDir", inPlace := ["internal/reflectlite.ValueOf", "internal/reflectlite.Swapper", "(internal/reflectlite.Value).Len"], unfollowed := true, recurses := true, apart := false, narrowed := true }
def FnExactDiskDirUptoSaid : Prop := fnExactDiskDirUptoRow.holds Try.pinned (OpenSpec.upto fnExactDiskDirSpec)

/-- 'laws.FnFuse', WHERE WHAT IT READS IS OF BULK AT MOST 1048576: true; the input reads as it did. -/
def fnFuseUptoRow : OpenClaim := { program := "ytmkmphdfpghjbaa", sum := "366bffbf918eda80b45c9f4b3f34bfbdf9f5f38ff0e473d5677923ba12ecab83", func := "loop.example/g00600/laws.FnFuse", spec := "fnFuse", inPlace := ["internal/reflectlite.ValueOf", "internal/reflectlite.Swapper", "(internal/reflectlite.Value).Len"], unfollowed := true, recurses := true, apart := false, narrowed := true }
def FnFuseUptoSaid : Prop := fnFuseUptoRow.holds Try.pinned (OpenSpec.upto fnFuseSpec)

/-- 'laws.FnExactDiskCalm', WHERE WHAT IT READS IS OF BULK AT MOST 1048576: true; the input reads as it did. -/
def fnExactDiskCalmUptoRow : OpenClaim := { program := "ytmkmphdfpghjbaa", sum := "366bffbf918eda80b45c9f4b3f34bfbdf9f5f38ff0e473d5677923ba12ecab83", func := "loop.example/g00600/laws.FnExactDiskCalm", spec := "fnExactDiskCalm", inPlace := ["internal/reflectlite.ValueOf", "internal/reflectlite.Swapper", "(internal/reflectlite.Value).Len"], unfollowed := true, recurses := true, apart := false, narrowed := true }
def FnExactDiskCalmUptoSaid : Prop := fnExactDiskCalmUptoRow.holds Try.pinned (OpenSpec.upto fnExactDiskCalmSpec)

end Rows
end Go.Proofs.Ytmkmphdfpghjbaa
