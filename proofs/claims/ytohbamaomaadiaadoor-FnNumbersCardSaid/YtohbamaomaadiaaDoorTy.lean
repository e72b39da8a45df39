/- Closed facts on the program's types and functions, each asked of the kernel. -/
import Derived.Test.YtohbamaomaadiaaDoorProg
import Derived.Test.YtohbamaomaadiaaDoorMake
import Derived.KernelRfl
namespace Go.Proofs.YtohbamaomaadiaaDoor
class Sz (P : Program) (t : TypeId) (n : outParam Nat) : Prop where
  h : (P.info? t).map (·.size) = some n
class Us (P : Program) (t : TypeId) (d : outParam TypeDesc) : Prop where
  h : P.underlying t = some d
@[reducible] def descOf {P : Program} {t : TypeId} {d : TypeDesc} (_ : P.underlying t = some d) : TypeDesc := d
class Inf (P : Program) (t : TypeId) (z : outParam (Option Value)) (s b : outParam Nat) : Prop where
  h : (P.info? t).map (fun i => (i.zero, i.size, i.bytes)) = some (z, s, b)
class Zs (P : Program) (t : TypeId) (z : outParam Value) : Prop where
  h : (P.info? t).bind (·.zero) = some z
class Zi (P : Program) (t : TypeId) (z : outParam (Option Value)) (s : outParam Nat) : Prop where
  h : (P.info? t).map (fun i => (i.zero, i.size)) = some (z, s)
class Fl (P : Program) (t : TypeId) : Prop where
  h : flat P t = true
theorem inf2 : (Tryd.prog.info? 2).map (fun i => (i.zero, i.size, i.bytes)) = some (some (.int .i64 0), 1, 8) := by kernel_rfl
theorem sz2 : (Tryd.prog.info? 2).map (·.size) = some 1 := by kernel_rfl
theorem zs2 : (Tryd.prog.info? 2).bind (·.zero) = some (.int .i64 0) := by kernel_rfl
theorem zi2 : (Tryd.prog.info? 2).map (fun i => (i.zero, i.size)) = some (some (.int .i64 0), 1) := by kernel_rfl
instance isz2 : Sz Tryd.prog 2 1 := ⟨sz2⟩
instance iin2 : Inf Tryd.prog 2 (some (.int .i64 0)) 1 8 := ⟨inf2⟩
instance izs2 : Zs Tryd.prog 2 (.int .i64 0) := ⟨zs2⟩
instance izi2 : Zi Tryd.prog 2 (some (.int .i64 0)) 1 := ⟨zi2⟩
theorem inf3 : (Tryd.prog.info? 3).map (fun i => (i.zero, i.size, i.bytes)) = some (some (.int .i64 0), 1, 8) := by kernel_rfl
theorem sz3 : (Tryd.prog.info? 3).map (·.size) = some 1 := by kernel_rfl
theorem zs3 : (Tryd.prog.info? 3).bind (·.zero) = some (.int .i64 0) := by kernel_rfl
theorem zi3 : (Tryd.prog.info? 3).map (fun i => (i.zero, i.size)) = some (some (.int .i64 0), 1) := by kernel_rfl
instance isz3 : Sz Tryd.prog 3 1 := ⟨sz3⟩
instance iin3 : Inf Tryd.prog 3 (some (.int .i64 0)) 1 8 := ⟨inf3⟩
instance izs3 : Zs Tryd.prog 3 (.int .i64 0) := ⟨zs3⟩
instance izi3 : Zi Tryd.prog 3 (some (.int .i64 0)) 1 := ⟨zi3⟩
theorem inf4 : (Tryd.prog.info? 4).map (fun i => (i.zero, i.size, i.bytes)) = some (some (.bool false), 1, 1) := by kernel_rfl
theorem sz4 : (Tryd.prog.info? 4).map (·.size) = some 1 := by kernel_rfl
theorem zs4 : (Tryd.prog.info? 4).bind (·.zero) = some (.bool false) := by kernel_rfl
theorem zi4 : (Tryd.prog.info? 4).map (fun i => (i.zero, i.size)) = some (some (.bool false), 1) := by kernel_rfl
instance isz4 : Sz Tryd.prog 4 1 := ⟨sz4⟩
instance iin4 : Inf Tryd.prog 4 (some (.bool false)) 1 1 := ⟨inf4⟩
instance izs4 : Zs Tryd.prog 4 (.bool false) := ⟨zs4⟩
instance izi4 : Zi Tryd.prog 4 (some (.bool false)) 1 := ⟨zi4⟩
theorem inf5 : (Tryd.prog.info? 5).map (fun i => (i.zero, i.size, i.bytes)) = some (some (.int .u8 0), 1, 1) := by kernel_rfl
theorem sz5 : (Tryd.prog.info? 5).map (·.size) = some 1 := by kernel_rfl
theorem zs5 : (Tryd.prog.info? 5).bind (·.zero) = some (.int .u8 0) := by kernel_rfl
theorem zi5 : (Tryd.prog.info? 5).map (fun i => (i.zero, i.size)) = some (some (.int .u8 0), 1) := by kernel_rfl
instance isz5 : Sz Tryd.prog 5 1 := ⟨sz5⟩
instance iin5 : Inf Tryd.prog 5 (some (.int .u8 0)) 1 1 := ⟨inf5⟩
instance izs5 : Zs Tryd.prog 5 (.int .u8 0) := ⟨zs5⟩
instance izi5 : Zi Tryd.prog 5 (some (.int .u8 0)) 1 := ⟨zi5⟩
theorem inf9 : (Tryd.prog.info? 9).map (fun i => (i.zero, i.size, i.bytes)) = some (some (.string ByteArray.empty), 1, 16) := by kernel_rfl
theorem sz9 : (Tryd.prog.info? 9).map (·.size) = some 1 := by kernel_rfl
theorem zs9 : (Tryd.prog.info? 9).bind (·.zero) = some (.string ByteArray.empty) := by kernel_rfl
theorem zi9 : (Tryd.prog.info? 9).map (fun i => (i.zero, i.size)) = some (some (.string ByteArray.empty), 1) := by kernel_rfl
instance isz9 : Sz Tryd.prog 9 1 := ⟨sz9⟩
instance iin9 : Inf Tryd.prog 9 (some (.string ByteArray.empty)) 1 16 := ⟨inf9⟩
instance izs9 : Zs Tryd.prog 9 (.string ByteArray.empty) := ⟨zs9⟩
instance izi9 : Zi Tryd.prog 9 (some (.string ByteArray.empty)) 1 := ⟨zi9⟩
theorem inf15 : (Tryd.prog.info? 15).map (fun i => (i.zero, i.size, i.bytes)) = some (some (.pointer none), 1, 8) := by kernel_rfl
theorem sz15 : (Tryd.prog.info? 15).map (·.size) = some 1 := by kernel_rfl
theorem zs15 : (Tryd.prog.info? 15).bind (·.zero) = some (.pointer none) := by kernel_rfl
theorem zi15 : (Tryd.prog.info? 15).map (fun i => (i.zero, i.size)) = some (some (.pointer none), 1) := by kernel_rfl
instance isz15 : Sz Tryd.prog 15 1 := ⟨sz15⟩
instance iin15 : Inf Tryd.prog 15 (some (.pointer none)) 1 8 := ⟨inf15⟩
instance izs15 : Zs Tryd.prog 15 (.pointer none) := ⟨zs15⟩
instance izi15 : Zi Tryd.prog 15 (some (.pointer none)) 1 := ⟨zi15⟩
theorem inf16 : (Tryd.prog.info? 16).map (fun i => (i.zero, i.size, i.bytes)) = some (some (.pointer none), 1, 8) := by kernel_rfl
theorem sz16 : (Tryd.prog.info? 16).map (·.size) = some 1 := by kernel_rfl
theorem zs16 : (Tryd.prog.info? 16).bind (·.zero) = some (.pointer none) := by kernel_rfl
theorem zi16 : (Tryd.prog.info? 16).map (fun i => (i.zero, i.size)) = some (some (.pointer none), 1) := by kernel_rfl
instance isz16 : Sz Tryd.prog 16 1 := ⟨sz16⟩
instance iin16 : Inf Tryd.prog 16 (some (.pointer none)) 1 8 := ⟨inf16⟩
instance izs16 : Zs Tryd.prog 16 (.pointer none) := ⟨zs16⟩
instance izi16 : Zi Tryd.prog 16 (some (.pointer none)) 1 := ⟨zi16⟩
theorem inf17 : (Tryd.prog.info? 17).map (fun i => (i.zero, i.size, i.bytes)) = some (some (.pointer none), 1, 8) := by kernel_rfl
theorem sz17 : (Tryd.prog.info? 17).map (·.size) = some 1 := by kernel_rfl
theorem zs17 : (Tryd.prog.info? 17).bind (·.zero) = some (.pointer none) := by kernel_rfl
theorem zi17 : (Tryd.prog.info? 17).map (fun i => (i.zero, i.size)) = some (some (.pointer none), 1) := by kernel_rfl
instance isz17 : Sz Tryd.prog 17 1 := ⟨sz17⟩
instance iin17 : Inf Tryd.prog 17 (some (.pointer none)) 1 8 := ⟨inf17⟩
instance izs17 : Zs Tryd.prog 17 (.pointer none) := ⟨zs17⟩
instance izi17 : Zi Tryd.prog 17 (some (.pointer none)) 1 := ⟨zi17⟩
theorem inf27 : (Tryd.prog.info? 27).map (fun i => (i.zero, i.size, i.bytes)) = some (some (.slice none 0 0), 1, 24) := by kernel_rfl
theorem sz27 : (Tryd.prog.info? 27).map (·.size) = some 1 := by kernel_rfl
theorem zs27 : (Tryd.prog.info? 27).bind (·.zero) = some (.slice none 0 0) := by kernel_rfl
theorem zi27 : (Tryd.prog.info? 27).map (fun i => (i.zero, i.size)) = some (some (.slice none 0 0), 1) := by kernel_rfl
instance isz27 : Sz Tryd.prog 27 1 := ⟨sz27⟩
instance iin27 : Inf Tryd.prog 27 (some (.slice none 0 0)) 1 24 := ⟨inf27⟩
instance izs27 : Zs Tryd.prog 27 (.slice none 0 0) := ⟨zs27⟩
instance izi27 : Zi Tryd.prog 27 (some (.slice none 0 0)) 1 := ⟨zi27⟩
theorem inf31 : (Tryd.prog.info? 31).map (fun i => (i.zero, i.size, i.bytes)) = some (some (.slice none 0 0), 1, 24) := by kernel_rfl
theorem sz31 : (Tryd.prog.info? 31).map (·.size) = some 1 := by kernel_rfl
theorem zs31 : (Tryd.prog.info? 31).bind (·.zero) = some (.slice none 0 0) := by kernel_rfl
theorem zi31 : (Tryd.prog.info? 31).map (fun i => (i.zero, i.size)) = some (some (.slice none 0 0), 1) := by kernel_rfl
instance isz31 : Sz Tryd.prog 31 1 := ⟨sz31⟩
instance iin31 : Inf Tryd.prog 31 (some (.slice none 0 0)) 1 24 := ⟨inf31⟩
instance izs31 : Zs Tryd.prog 31 (.slice none 0 0) := ⟨zs31⟩
instance izi31 : Zi Tryd.prog 31 (some (.slice none 0 0)) 1 := ⟨zi31⟩
theorem inf45 : (Tryd.prog.info? 45).map (fun i => (i.zero, i.size, i.bytes)) = some (some (.pointer none), 1, 8) := by kernel_rfl
theorem sz45 : (Tryd.prog.info? 45).map (·.size) = some 1 := by kernel_rfl
theorem zs45 : (Tryd.prog.info? 45).bind (·.zero) = some (.pointer none) := by kernel_rfl
theorem zi45 : (Tryd.prog.info? 45).map (fun i => (i.zero, i.size)) = some (some (.pointer none), 1) := by kernel_rfl
instance isz45 : Sz Tryd.prog 45 1 := ⟨sz45⟩
instance iin45 : Inf Tryd.prog 45 (some (.pointer none)) 1 8 := ⟨inf45⟩
instance izs45 : Zs Tryd.prog 45 (.pointer none) := ⟨zs45⟩
instance izi45 : Zi Tryd.prog 45 (some (.pointer none)) 1 := ⟨zi45⟩
theorem inf48 : (Tryd.prog.info? 48).map (fun i => (i.zero, i.size, i.bytes)) = some (some (.int .u32 0), 1, 4) := by kernel_rfl
theorem sz48 : (Tryd.prog.info? 48).map (·.size) = some 1 := by kernel_rfl
theorem zs48 : (Tryd.prog.info? 48).bind (·.zero) = some (.int .u32 0) := by kernel_rfl
theorem zi48 : (Tryd.prog.info? 48).map (fun i => (i.zero, i.size)) = some (some (.int .u32 0), 1) := by kernel_rfl
instance isz48 : Sz Tryd.prog 48 1 := ⟨sz48⟩
instance iin48 : Inf Tryd.prog 48 (some (.int .u32 0)) 1 4 := ⟨inf48⟩
instance izs48 : Zs Tryd.prog 48 (.int .u32 0) := ⟨zs48⟩
instance izi48 : Zi Tryd.prog 48 (some (.int .u32 0)) 1 := ⟨zi48⟩
theorem inf49 : (Tryd.prog.info? 49).map (fun i => (i.zero, i.size, i.bytes)) = some (some (.int .u64 0), 1, 8) := by kernel_rfl
theorem sz49 : (Tryd.prog.info? 49).map (·.size) = some 1 := by kernel_rfl
theorem zs49 : (Tryd.prog.info? 49).bind (·.zero) = some (.int .u64 0) := by kernel_rfl
theorem zi49 : (Tryd.prog.info? 49).map (fun i => (i.zero, i.size)) = some (some (.int .u64 0), 1) := by kernel_rfl
instance isz49 : Sz Tryd.prog 49 1 := ⟨sz49⟩
instance iin49 : Inf Tryd.prog 49 (some (.int .u64 0)) 1 8 := ⟨inf49⟩
instance izs49 : Zs Tryd.prog 49 (.int .u64 0) := ⟨zs49⟩
instance izi49 : Zi Tryd.prog 49 (some (.int .u64 0)) 1 := ⟨zi49⟩
theorem inf56 : (Tryd.prog.info? 56).map (fun i => (i.zero, i.size, i.bytes)) = some (some (.agg #[.slice none 0 0, .int .i64 0, .int .i64 0]), 3, 40) := by kernel_rfl
theorem sz56 : (Tryd.prog.info? 56).map (·.size) = some 3 := by kernel_rfl
theorem zs56 : (Tryd.prog.info? 56).bind (·.zero) = some (.agg #[.slice none 0 0, .int .i64 0, .int .i64 0]) := by kernel_rfl
theorem zi56 : (Tryd.prog.info? 56).map (fun i => (i.zero, i.size)) = some (some (.agg #[.slice none 0 0, .int .i64 0, .int .i64 0]), 3) := by kernel_rfl
instance isz56 : Sz Tryd.prog 56 3 := ⟨sz56⟩
instance iin56 : Inf Tryd.prog 56 (some (.agg #[.slice none 0 0, .int .i64 0, .int .i64 0])) 3 40 := ⟨inf56⟩
instance izs56 : Zs Tryd.prog 56 (.agg #[.slice none 0 0, .int .i64 0, .int .i64 0]) := ⟨zs56⟩
instance izi56 : Zi Tryd.prog 56 (some (.agg #[.slice none 0 0, .int .i64 0, .int .i64 0])) 3 := ⟨zi56⟩
theorem inf63 : (Tryd.prog.info? 63).map (fun i => (i.zero, i.size, i.bytes)) = some (some (.pointer none), 1, 8) := by kernel_rfl
theorem sz63 : (Tryd.prog.info? 63).map (·.size) = some 1 := by kernel_rfl
theorem zs63 : (Tryd.prog.info? 63).bind (·.zero) = some (.pointer none) := by kernel_rfl
theorem zi63 : (Tryd.prog.info? 63).map (fun i => (i.zero, i.size)) = some (some (.pointer none), 1) := by kernel_rfl
instance isz63 : Sz Tryd.prog 63 1 := ⟨sz63⟩
instance iin63 : Inf Tryd.prog 63 (some (.pointer none)) 1 8 := ⟨inf63⟩
instance izs63 : Zs Tryd.prog 63 (.pointer none) := ⟨zs63⟩
instance izi63 : Zi Tryd.prog 63 (some (.pointer none)) 1 := ⟨zi63⟩
theorem inf69 : (Tryd.prog.info? 69).map (fun i => (i.zero, i.size, i.bytes)) = some (some (.int .u64 0), 1, 8) := by kernel_rfl
theorem sz69 : (Tryd.prog.info? 69).map (·.size) = some 1 := by kernel_rfl
theorem zs69 : (Tryd.prog.info? 69).bind (·.zero) = some (.int .u64 0) := by kernel_rfl
theorem zi69 : (Tryd.prog.info? 69).map (fun i => (i.zero, i.size)) = some (some (.int .u64 0), 1) := by kernel_rfl
instance isz69 : Sz Tryd.prog 69 1 := ⟨sz69⟩
instance iin69 : Inf Tryd.prog 69 (some (.int .u64 0)) 1 8 := ⟨inf69⟩
instance izs69 : Zs Tryd.prog 69 (.int .u64 0) := ⟨zs69⟩
instance izi69 : Zi Tryd.prog 69 (some (.int .u64 0)) 1 := ⟨zi69⟩
theorem inf89 : (Tryd.prog.info? 89).map (fun i => (i.zero, i.size, i.bytes)) = some (some (.pointer none), 1, 8) := by kernel_rfl
theorem sz89 : (Tryd.prog.info? 89).map (·.size) = some 1 := by kernel_rfl
theorem zs89 : (Tryd.prog.info? 89).bind (·.zero) = some (.pointer none) := by kernel_rfl
theorem zi89 : (Tryd.prog.info? 89).map (fun i => (i.zero, i.size)) = some (some (.pointer none), 1) := by kernel_rfl
instance isz89 : Sz Tryd.prog 89 1 := ⟨sz89⟩
instance iin89 : Inf Tryd.prog 89 (some (.pointer none)) 1 8 := ⟨inf89⟩
instance izs89 : Zs Tryd.prog 89 (.pointer none) := ⟨zs89⟩
instance izi89 : Zi Tryd.prog 89 (some (.pointer none)) 1 := ⟨zi89⟩
theorem inf90 : (Tryd.prog.info? 90).map (fun i => (i.zero, i.size, i.bytes)) = some (some (.pointer none), 1, 8) := by kernel_rfl
theorem sz90 : (Tryd.prog.info? 90).map (·.size) = some 1 := by kernel_rfl
theorem zs90 : (Tryd.prog.info? 90).bind (·.zero) = some (.pointer none) := by kernel_rfl
theorem zi90 : (Tryd.prog.info? 90).map (fun i => (i.zero, i.size)) = some (some (.pointer none), 1) := by kernel_rfl
instance isz90 : Sz Tryd.prog 90 1 := ⟨sz90⟩
instance iin90 : Inf Tryd.prog 90 (some (.pointer none)) 1 8 := ⟨inf90⟩
instance izs90 : Zs Tryd.prog 90 (.pointer none) := ⟨zs90⟩
instance izi90 : Zi Tryd.prog 90 (some (.pointer none)) 1 := ⟨zi90⟩
instance ius3 : Us Tryd.prog 3 (descOf Tryd.underlying3) := ⟨Tryd.underlying3⟩
instance ius4 : Us Tryd.prog 4 (descOf Tryd.underlying4) := ⟨Tryd.underlying4⟩
instance ius5 : Us Tryd.prog 5 (descOf Tryd.underlying5) := ⟨Tryd.underlying5⟩
instance ius9 : Us Tryd.prog 9 (descOf Tryd.underlying9) := ⟨Tryd.underlying9⟩
instance ius27 : Us Tryd.prog 27 (descOf Tryd.underlying27) := ⟨Tryd.underlying27⟩
instance ius31 : Us Tryd.prog 31 (descOf Tryd.underlying31) := ⟨Tryd.underlying31⟩
instance ius48 : Us Tryd.prog 48 (descOf Tryd.underlying48) := ⟨Tryd.underlying48⟩
instance ius49 : Us Tryd.prog 49 (descOf Tryd.underlying49) := ⟨Tryd.underlying49⟩
instance ius56 : Us Tryd.prog 56 (descOf Tryd.underlying56) := ⟨Tryd.underlying56⟩
theorem fl3 : flat Tryd.prog 3 = true := by unfold flat; rw [Tryd.underlying3]
theorem fl4 : flat Tryd.prog 4 = true := by unfold flat; rw [Tryd.underlying4]
theorem fl5 : flat Tryd.prog 5 = true := by unfold flat; rw [Tryd.underlying5]
theorem fl9 : flat Tryd.prog 9 = true := by unfold flat; rw [Tryd.underlying9]
theorem fl27 : flat Tryd.prog 27 = true := by unfold flat; rw [Tryd.underlying27]
theorem fl31 : flat Tryd.prog 31 = true := by unfold flat; rw [Tryd.underlying31]
theorem fl45 : flat Tryd.prog 45 = true := by unfold flat; rw [Tryd.underlying45]
theorem fl48 : flat Tryd.prog 48 = true := by unfold flat; rw [Tryd.underlying48]
theorem fl49 : flat Tryd.prog 49 = true := by unfold flat; rw [Tryd.underlying49]
instance ifl3 : Fl Tryd.prog 3 := ⟨fl3⟩
instance ifl4 : Fl Tryd.prog 4 := ⟨fl4⟩
instance ifl5 : Fl Tryd.prog 5 := ⟨fl5⟩
instance ifl9 : Fl Tryd.prog 9 := ⟨fl9⟩
instance ifl27 : Fl Tryd.prog 27 := ⟨fl27⟩
instance ifl31 : Fl Tryd.prog 31 := ⟨fl31⟩
instance ifl45 : Fl Tryd.prog 45 := ⟨fl45⟩
instance ifl48 : Fl Tryd.prog 48 := ⟨fl48⟩
instance ifl49 : Fl Tryd.prog 49 := ⟨fl49⟩
theorem mixed : Tryd.prog.follows .mixedOrders = true := by kernel_rfl
theorem en3 : Enters Tryd.prog 3 := enters_of Tryd.func3 (by kernel_rfl) rfl
theorem en4 : Enters Tryd.prog 4 := enters_of Tryd.func4 (by kernel_rfl) rfl
theorem en5 : Enters Tryd.prog 5 := enters_of Tryd.func5 (by kernel_rfl) rfl
theorem en6 : Enters Tryd.prog 6 := enters_of Tryd.func6 (by kernel_rfl) rfl
theorem en7 : Enters Tryd.prog 7 := enters_of Tryd.func7 (by kernel_rfl) rfl
theorem en8 : Enters Tryd.prog 8 := enters_of Tryd.func8 (by kernel_rfl) rfl
theorem en9 : Enters Tryd.prog 9 := enters_of Tryd.func9 (by kernel_rfl) rfl
theorem en10 : Enters Tryd.prog 10 := enters_of Tryd.func10 (by kernel_rfl) rfl
theorem en11 : Enters Tryd.prog 11 := enters_of Tryd.func11 (by kernel_rfl) rfl
theorem en12 : Enters Tryd.prog 12 := enters_of Tryd.func12 (by kernel_rfl) rfl
theorem en13 : Enters Tryd.prog 13 := enters_of Tryd.func13 (by kernel_rfl) rfl
theorem en14 : Enters Tryd.prog 14 := enters_of Tryd.func14 (by kernel_rfl) rfl
theorem en15 : Enters Tryd.prog 15 := enters_of Tryd.func15 (by kernel_rfl) rfl
theorem en16 : Enters Tryd.prog 16 := enters_of Tryd.func16 (by kernel_rfl) rfl
theorem en17 : Enters Tryd.prog 17 := enters_of Tryd.func17 (by kernel_rfl) rfl
theorem en18 : Enters Tryd.prog 18 := enters_of Tryd.func18 (by kernel_rfl) rfl
theorem en19 : Enters Tryd.prog 19 := enters_of Tryd.func19 (by kernel_rfl) rfl
theorem en20 : Enters Tryd.prog 20 := enters_of Tryd.func20 (by kernel_rfl) rfl
theorem en21 : Enters Tryd.prog 21 := enters_of Tryd.func21 (by kernel_rfl) rfl
theorem en22 : Enters Tryd.prog 22 := enters_of Tryd.func22 (by kernel_rfl) rfl
theorem en23 : Enters Tryd.prog 23 := enters_of Tryd.func23 (by kernel_rfl) rfl
theorem en24 : Enters Tryd.prog 24 := enters_of Tryd.func24 (by kernel_rfl) rfl
theorem en25 : Enters Tryd.prog 25 := enters_of Tryd.func25 (by kernel_rfl) rfl
theorem en26 : Enters Tryd.prog 26 := enters_of Tryd.func26 (by kernel_rfl) rfl
theorem en27 : Enters Tryd.prog 27 := enters_of Tryd.func27 (by kernel_rfl) rfl
theorem en28 : Enters Tryd.prog 28 := enters_of Tryd.func28 (by kernel_rfl) rfl
theorem en29 : Enters Tryd.prog 29 := enters_of Tryd.func29 (by kernel_rfl) rfl
theorem en30 : Enters Tryd.prog 30 := enters_of Tryd.func30 (by kernel_rfl) rfl
theorem en31 : Enters Tryd.prog 31 := enters_of Tryd.func31 (by kernel_rfl) rfl
theorem en32 : Enters Tryd.prog 32 := enters_of Tryd.func32 (by kernel_rfl) rfl
theorem en33 : Enters Tryd.prog 33 := enters_of Tryd.func33 (by kernel_rfl) rfl
theorem en34 : Enters Tryd.prog 34 := enters_of Tryd.func34 (by kernel_rfl) rfl
theorem en35 : Enters Tryd.prog 35 := enters_of Tryd.func35 (by kernel_rfl) rfl
theorem en36 : Enters Tryd.prog 36 := enters_of Tryd.func36 (by kernel_rfl) rfl
theorem en37 : Enters Tryd.prog 37 := enters_of Tryd.func37 (by kernel_rfl) rfl
theorem en38 : Enters Tryd.prog 38 := enters_of Tryd.func38 (by kernel_rfl) rfl
theorem en39 : Enters Tryd.prog 39 := enters_of Tryd.func39 (by kernel_rfl) rfl
theorem en40 : Enters Tryd.prog 40 := enters_of Tryd.func40 (by kernel_rfl) rfl
theorem en41 : Enters Tryd.prog 41 := enters_of Tryd.func41 (by kernel_rfl) rfl
theorem en42 : Enters Tryd.prog 42 := enters_of Tryd.func42 (by kernel_rfl) rfl
theorem en43 : Enters Tryd.prog 43 := enters_of Tryd.func43 (by kernel_rfl) rfl
theorem en44 : Enters Tryd.prog 44 := enters_of Tryd.func44 (by kernel_rfl) rfl
theorem en45 : Enters Tryd.prog 45 := enters_of Tryd.func45 (by kernel_rfl) rfl
theorem en46 : Enters Tryd.prog 46 := enters_of Tryd.func46 (by kernel_rfl) rfl
theorem en47 : Enters Tryd.prog 47 := enters_of Tryd.func47 (by kernel_rfl) rfl
theorem en48 : Enters Tryd.prog 48 := enters_of Tryd.func48 (by kernel_rfl) rfl
theorem en49 : Enters Tryd.prog 49 := enters_of Tryd.func49 (by kernel_rfl) rfl
theorem en50 : Enters Tryd.prog 50 := enters_of Tryd.func50 (by kernel_rfl) rfl
theorem en51 : Enters Tryd.prog 51 := enters_of Tryd.func51 (by kernel_rfl) rfl
theorem en52 : Enters Tryd.prog 52 := enters_of Tryd.func52 (by kernel_rfl) rfl
theorem en54 : Enters Tryd.prog 54 := enters_of Tryd.func54 (by kernel_rfl) rfl
theorem en55 : Enters Tryd.prog 55 := enters_of Tryd.func55 (by kernel_rfl) rfl
theorem en56 : Enters Tryd.prog 56 := enters_of Tryd.func56 (by kernel_rfl) rfl
theorem en57 : Enters Tryd.prog 57 := enters_of Tryd.func57 (by kernel_rfl) rfl
theorem en58 : Enters Tryd.prog 58 := enters_of Tryd.func58 (by kernel_rfl) rfl
theorem en59 : Enters Tryd.prog 59 := enters_of Tryd.func59 (by kernel_rfl) rfl
theorem en60 : Enters Tryd.prog 60 := enters_of Tryd.func60 (by kernel_rfl) rfl
theorem en61 : Enters Tryd.prog 61 := enters_of Tryd.func61 (by kernel_rfl) rfl
theorem en62 : Enters Tryd.prog 62 := enters_of Tryd.func62 (by kernel_rfl) rfl
theorem en64 : Enters Tryd.prog 64 := enters_of Tryd.func64 (by kernel_rfl) rfl
theorem en65 : Enters Tryd.prog 65 := enters_of Tryd.func65 (by kernel_rfl) rfl
theorem en66 : Enters Tryd.prog 66 := enters_of Tryd.func66 (by kernel_rfl) rfl
theorem en67 : Enters Tryd.prog 67 := enters_of Tryd.func67 (by kernel_rfl) rfl
theorem en68 : Enters Tryd.prog 68 := enters_of Tryd.func68 (by kernel_rfl) rfl
theorem en69 : Enters Tryd.prog 69 := enters_of Tryd.func69 (by kernel_rfl) rfl
theorem en70 : Enters Tryd.prog 70 := enters_of Tryd.func70 (by kernel_rfl) rfl
theorem en71 : Enters Tryd.prog 71 := enters_of Tryd.func71 (by kernel_rfl) rfl
theorem en72 : Enters Tryd.prog 72 := enters_of Tryd.func72 (by kernel_rfl) rfl
theorem en74 : Enters Tryd.prog 74 := enters_of Tryd.func74 (by kernel_rfl) rfl
theorem en75 : Enters Tryd.prog 75 := enters_of Tryd.func75 (by kernel_rfl) rfl
theorem en76 : Enters Tryd.prog 76 := enters_of Tryd.func76 (by kernel_rfl) rfl
theorem en77 : Enters Tryd.prog 77 := enters_of Tryd.func77 (by kernel_rfl) rfl
theorem en78 : Enters Tryd.prog 78 := enters_of Tryd.func78 (by kernel_rfl) rfl
theorem en107 : Enters Tryd.prog 107 := enters_of Tryd.func107 (by kernel_rfl) rfl
end Go.Proofs.YtohbamaomaadiaaDoor
