/- Texts of this proof laid together, in the order in which they build; what each proves stands ahead of it. No condition but those told there. -/
import Derived.Test.YtggaghghclomkaaQFFFDFCFC68a
import Derived.Test.YtggaghghclomkaaProg
import Derived.KernelRfl
import Derived.OrdersHeld
import Derived.Lib.Bytealg
import Derived.Deep.MidRow

/- Closed facts on the program's types and functions, each asked of the kernel. -/
namespace Go.Proofs.Ytggaghghclomkaa
class Sz (P : Program) (t : TypeId) (n : outParam Nat) : Prop where
  h : (P.info? t).map (·.size) = some n
class Us (P : Program) (t : TypeId) (d : outParam TypeDesc) : Prop where
  h : P.underlying t = some d
@[reducible] def descOf {P : Program} {t : TypeId} {d : TypeDesc} (_ : P.underlying t = some d) : TypeDesc := d
class Inf (P : Program) (t : TypeId) (z : outParam (Option Value)) (s b : outParam Nat) : Prop where
  h : (P.info? t).map (fun i => (i.zero, i.size, i.bytes)) = some (z, s, b)
class Zs (P : Program) (t : TypeId) (z : outParam Value) : Prop where
  h : (P.info? t).bind (·.zero) = some z
class Zi (P : Program) (t : TypeId) (z : outParam (Option Value)) (s : outParam Nat) : Prop where
  h : (P.info? t).map (fun i => (i.zero, i.size)) = some (z, s)
class Fl (P : Program) (t : TypeId) : Prop where
  h : flat P t = true
theorem inf2 : (Try.prog.info? 2).map (fun i => (i.zero, i.size, i.bytes)) = some (some (.int .i64 0), 1, 8) := by kernel_rfl
theorem sz2 : (Try.prog.info? 2).map (·.size) = some 1 := by kernel_rfl
theorem zs2 : (Try.prog.info? 2).bind (·.zero) = some (.int .i64 0) := by kernel_rfl
theorem zi2 : (Try.prog.info? 2).map (fun i => (i.zero, i.size)) = some (some (.int .i64 0), 1) := by kernel_rfl
instance isz2 : Sz Try.prog 2 1 := ⟨sz2⟩
instance iin2 : Inf Try.prog 2 (some (.int .i64 0)) 1 8 := ⟨inf2⟩
instance izs2 : Zs Try.prog 2 (.int .i64 0) := ⟨zs2⟩
instance izi2 : Zi Try.prog 2 (some (.int .i64 0)) 1 := ⟨zi2⟩
theorem inf3 : (Try.prog.info? 3).map (fun i => (i.zero, i.size, i.bytes)) = some (some (.int .i64 0), 1, 8) := by kernel_rfl
theorem sz3 : (Try.prog.info? 3).map (·.size) = some 1 := by kernel_rfl
theorem zs3 : (Try.prog.info? 3).bind (·.zero) = some (.int .i64 0) := by kernel_rfl
theorem zi3 : (Try.prog.info? 3).map (fun i => (i.zero, i.size)) = some (some (.int .i64 0), 1) := by kernel_rfl
instance isz3 : Sz Try.prog 3 1 := ⟨sz3⟩
instance iin3 : Inf Try.prog 3 (some (.int .i64 0)) 1 8 := ⟨inf3⟩
instance izs3 : Zs Try.prog 3 (.int .i64 0) := ⟨zs3⟩
instance izi3 : Zi Try.prog 3 (some (.int .i64 0)) 1 := ⟨zi3⟩
theorem inf4 : (Try.prog.info? 4).map (fun i => (i.zero, i.size, i.bytes)) = some (some (.bool false), 1, 1) := by kernel_rfl
theorem sz4 : (Try.prog.info? 4).map (·.size) = some 1 := by kernel_rfl
theorem zs4 : (Try.prog.info? 4).bind (·.zero) = some (.bool false) := by kernel_rfl
theorem zi4 : (Try.prog.info? 4).map (fun i => (i.zero, i.size)) = some (some (.bool false), 1) := by kernel_rfl
instance isz4 : Sz Try.prog 4 1 := ⟨sz4⟩
instance iin4 : Inf Try.prog 4 (some (.bool false)) 1 1 := ⟨inf4⟩
instance izs4 : Zs Try.prog 4 (.bool false) := ⟨zs4⟩
instance izi4 : Zi Try.prog 4 (some (.bool false)) 1 := ⟨zi4⟩
theorem inf5 : (Try.prog.info? 5).map (fun i => (i.zero, i.size, i.bytes)) = some (some (.int .u8 0), 1, 1) := by kernel_rfl
theorem sz5 : (Try.prog.info? 5).map (·.size) = some 1 := by kernel_rfl
theorem zs5 : (Try.prog.info? 5).bind (·.zero) = some (.int .u8 0) := by kernel_rfl
theorem zi5 : (Try.prog.info? 5).map (fun i => (i.zero, i.size)) = some (some (.int .u8 0), 1) := by kernel_rfl
instance isz5 : Sz Try.prog 5 1 := ⟨sz5⟩
instance iin5 : Inf Try.prog 5 (some (.int .u8 0)) 1 1 := ⟨inf5⟩
instance izs5 : Zs Try.prog 5 (.int .u8 0) := ⟨zs5⟩
instance izi5 : Zi Try.prog 5 (some (.int .u8 0)) 1 := ⟨zi5⟩
theorem inf9 : (Try.prog.info? 9).map (fun i => (i.zero, i.size, i.bytes)) = some (some (.string ByteArray.empty), 1, 16) := by kernel_rfl
theorem sz9 : (Try.prog.info? 9).map (·.size) = some 1 := by kernel_rfl
theorem zs9 : (Try.prog.info? 9).bind (·.zero) = some (.string ByteArray.empty) := by kernel_rfl
theorem zi9 : (Try.prog.info? 9).map (fun i => (i.zero, i.size)) = some (some (.string ByteArray.empty), 1) := by kernel_rfl
instance isz9 : Sz Try.prog 9 1 := ⟨sz9⟩
instance iin9 : Inf Try.prog 9 (some (.string ByteArray.empty)) 1 16 := ⟨inf9⟩
instance izs9 : Zs Try.prog 9 (.string ByteArray.empty) := ⟨zs9⟩
instance izi9 : Zi Try.prog 9 (some (.string ByteArray.empty)) 1 := ⟨zi9⟩
theorem inf15 : (Try.prog.info? 15).map (fun i => (i.zero, i.size, i.bytes)) = some (some (.pointer none), 1, 8) := by kernel_rfl
theorem sz15 : (Try.prog.info? 15).map (·.size) = some 1 := by kernel_rfl
theorem zs15 : (Try.prog.info? 15).bind (·.zero) = some (.pointer none) := by kernel_rfl
theorem zi15 : (Try.prog.info? 15).map (fun i => (i.zero, i.size)) = some (some (.pointer none), 1) := by kernel_rfl
instance isz15 : Sz Try.prog 15 1 := ⟨sz15⟩
instance iin15 : Inf Try.prog 15 (some (.pointer none)) 1 8 := ⟨inf15⟩
instance izs15 : Zs Try.prog 15 (.pointer none) := ⟨zs15⟩
instance izi15 : Zi Try.prog 15 (some (.pointer none)) 1 := ⟨zi15⟩
theorem inf16 : (Try.prog.info? 16).map (fun i => (i.zero, i.size, i.bytes)) = some (some (.pointer none), 1, 8) := by kernel_rfl
theorem sz16 : (Try.prog.info? 16).map (·.size) = some 1 := by kernel_rfl
theorem zs16 : (Try.prog.info? 16).bind (·.zero) = some (.pointer none) := by kernel_rfl
theorem zi16 : (Try.prog.info? 16).map (fun i => (i.zero, i.size)) = some (some (.pointer none), 1) := by kernel_rfl
instance isz16 : Sz Try.prog 16 1 := ⟨sz16⟩
instance iin16 : Inf Try.prog 16 (some (.pointer none)) 1 8 := ⟨inf16⟩
instance izs16 : Zs Try.prog 16 (.pointer none) := ⟨zs16⟩
instance izi16 : Zi Try.prog 16 (some (.pointer none)) 1 := ⟨zi16⟩
theorem inf17 : (Try.prog.info? 17).map (fun i => (i.zero, i.size, i.bytes)) = some (some (.pointer none), 1, 8) := by kernel_rfl
theorem sz17 : (Try.prog.info? 17).map (·.size) = some 1 := by kernel_rfl
theorem zs17 : (Try.prog.info? 17).bind (·.zero) = some (.pointer none) := by kernel_rfl
theorem zi17 : (Try.prog.info? 17).map (fun i => (i.zero, i.size)) = some (some (.pointer none), 1) := by kernel_rfl
instance isz17 : Sz Try.prog 17 1 := ⟨sz17⟩
instance iin17 : Inf Try.prog 17 (some (.pointer none)) 1 8 := ⟨inf17⟩
instance izs17 : Zs Try.prog 17 (.pointer none) := ⟨zs17⟩
instance izi17 : Zi Try.prog 17 (some (.pointer none)) 1 := ⟨zi17⟩
theorem inf22 : (Try.prog.info? 22).map (fun i => (i.zero, i.size, i.bytes)) = some (some (.slice none 0 0), 1, 24) := by kernel_rfl
theorem sz22 : (Try.prog.info? 22).map (·.size) = some 1 := by kernel_rfl
theorem zs22 : (Try.prog.info? 22).bind (·.zero) = some (.slice none 0 0) := by kernel_rfl
theorem zi22 : (Try.prog.info? 22).map (fun i => (i.zero, i.size)) = some (some (.slice none 0 0), 1) := by kernel_rfl
instance isz22 : Sz Try.prog 22 1 := ⟨sz22⟩
instance iin22 : Inf Try.prog 22 (some (.slice none 0 0)) 1 24 := ⟨inf22⟩
instance izs22 : Zs Try.prog 22 (.slice none 0 0) := ⟨zs22⟩
instance izi22 : Zi Try.prog 22 (some (.slice none 0 0)) 1 := ⟨zi22⟩
theorem inf23 : (Try.prog.info? 23).map (fun i => (i.zero, i.size, i.bytes)) = some (some (.slice none 0 0), 1, 24) := by kernel_rfl
theorem sz23 : (Try.prog.info? 23).map (·.size) = some 1 := by kernel_rfl
theorem zs23 : (Try.prog.info? 23).bind (·.zero) = some (.slice none 0 0) := by kernel_rfl
theorem zi23 : (Try.prog.info? 23).map (fun i => (i.zero, i.size)) = some (some (.slice none 0 0), 1) := by kernel_rfl
instance isz23 : Sz Try.prog 23 1 := ⟨sz23⟩
instance iin23 : Inf Try.prog 23 (some (.slice none 0 0)) 1 24 := ⟨inf23⟩
instance izs23 : Zs Try.prog 23 (.slice none 0 0) := ⟨zs23⟩
instance izi23 : Zi Try.prog 23 (some (.slice none 0 0)) 1 := ⟨zi23⟩
theorem inf24 : (Try.prog.info? 24).map (fun i => (i.zero, i.size, i.bytes)) = some (some (.slice none 0 0), 1, 24) := by kernel_rfl
theorem sz24 : (Try.prog.info? 24).map (·.size) = some 1 := by kernel_rfl
theorem zs24 : (Try.prog.info? 24).bind (·.zero) = some (.slice none 0 0) := by kernel_rfl
theorem zi24 : (Try.prog.info? 24).map (fun i => (i.zero, i.size)) = some (some (.slice none 0 0), 1) := by kernel_rfl
instance isz24 : Sz Try.prog 24 1 := ⟨sz24⟩
instance iin24 : Inf Try.prog 24 (some (.slice none 0 0)) 1 24 := ⟨inf24⟩
instance izs24 : Zs Try.prog 24 (.slice none 0 0) := ⟨zs24⟩
instance izi24 : Zi Try.prog 24 (some (.slice none 0 0)) 1 := ⟨zi24⟩
theorem inf25 : (Try.prog.info? 25).map (fun i => (i.zero, i.size, i.bytes)) = some (some (.slice none 0 0), 1, 24) := by kernel_rfl
theorem sz25 : (Try.prog.info? 25).map (·.size) = some 1 := by kernel_rfl
theorem zs25 : (Try.prog.info? 25).bind (·.zero) = some (.slice none 0 0) := by kernel_rfl
theorem zi25 : (Try.prog.info? 25).map (fun i => (i.zero, i.size)) = some (some (.slice none 0 0), 1) := by kernel_rfl
instance isz25 : Sz Try.prog 25 1 := ⟨sz25⟩
instance iin25 : Inf Try.prog 25 (some (.slice none 0 0)) 1 24 := ⟨inf25⟩
instance izs25 : Zs Try.prog 25 (.slice none 0 0) := ⟨zs25⟩
instance izi25 : Zi Try.prog 25 (some (.slice none 0 0)) 1 := ⟨zi25⟩
theorem inf27 : (Try.prog.info? 27).map (fun i => (i.zero, i.size, i.bytes)) = some (some (.agg #[.int .i64 0, .int .i64 0, .int .i64 0, .slice none 0 0, .slice none 0 0, .slice none 0 0]), 6, 96) := by kernel_rfl
theorem sz27 : (Try.prog.info? 27).map (·.size) = some 6 := by kernel_rfl
theorem zs27 : (Try.prog.info? 27).bind (·.zero) = some (.agg #[.int .i64 0, .int .i64 0, .int .i64 0, .slice none 0 0, .slice none 0 0, .slice none 0 0]) := by kernel_rfl
theorem zi27 : (Try.prog.info? 27).map (fun i => (i.zero, i.size)) = some (some (.agg #[.int .i64 0, .int .i64 0, .int .i64 0, .slice none 0 0, .slice none 0 0, .slice none 0 0]), 6) := by kernel_rfl
instance isz27 : Sz Try.prog 27 6 := ⟨sz27⟩
instance iin27 : Inf Try.prog 27 (some (.agg #[.int .i64 0, .int .i64 0, .int .i64 0, .slice none 0 0, .slice none 0 0, .slice none 0 0])) 6 96 := ⟨inf27⟩
instance izs27 : Zs Try.prog 27 (.agg #[.int .i64 0, .int .i64 0, .int .i64 0, .slice none 0 0, .slice none 0 0, .slice none 0 0]) := ⟨zs27⟩
instance izi27 : Zi Try.prog 27 (some (.agg #[.int .i64 0, .int .i64 0, .int .i64 0, .slice none 0 0, .slice none 0 0, .slice none 0 0])) 6 := ⟨zi27⟩
theorem inf29 : (Try.prog.info? 29).map (fun i => (i.zero, i.size, i.bytes)) = some (some (.slice none 0 0), 1, 24) := by kernel_rfl
theorem sz29 : (Try.prog.info? 29).map (·.size) = some 1 := by kernel_rfl
theorem zs29 : (Try.prog.info? 29).bind (·.zero) = some (.slice none 0 0) := by kernel_rfl
theorem zi29 : (Try.prog.info? 29).map (fun i => (i.zero, i.size)) = some (some (.slice none 0 0), 1) := by kernel_rfl
instance isz29 : Sz Try.prog 29 1 := ⟨sz29⟩
instance iin29 : Inf Try.prog 29 (some (.slice none 0 0)) 1 24 := ⟨inf29⟩
instance izs29 : Zs Try.prog 29 (.slice none 0 0) := ⟨zs29⟩
instance izi29 : Zi Try.prog 29 (some (.slice none 0 0)) 1 := ⟨zi29⟩
theorem inf32 : (Try.prog.info? 32).map (fun i => (i.zero, i.size, i.bytes)) = some (some (.agg #[.int .i64 0, .string ByteArray.empty, .string ByteArray.empty, .int .i64 0, .slice none 0 0]), 5, 72) := by kernel_rfl
theorem sz32 : (Try.prog.info? 32).map (·.size) = some 5 := by kernel_rfl
theorem zs32 : (Try.prog.info? 32).bind (·.zero) = some (.agg #[.int .i64 0, .string ByteArray.empty, .string ByteArray.empty, .int .i64 0, .slice none 0 0]) := by kernel_rfl
theorem zi32 : (Try.prog.info? 32).map (fun i => (i.zero, i.size)) = some (some (.agg #[.int .i64 0, .string ByteArray.empty, .string ByteArray.empty, .int .i64 0, .slice none 0 0]), 5) := by kernel_rfl
instance isz32 : Sz Try.prog 32 5 := ⟨sz32⟩
instance iin32 : Inf Try.prog 32 (some (.agg #[.int .i64 0, .string ByteArray.empty, .string ByteArray.empty, .int .i64 0, .slice none 0 0])) 5 72 := ⟨inf32⟩
instance izs32 : Zs Try.prog 32 (.agg #[.int .i64 0, .string ByteArray.empty, .string ByteArray.empty, .int .i64 0, .slice none 0 0]) := ⟨zs32⟩
instance izi32 : Zi Try.prog 32 (some (.agg #[.int .i64 0, .string ByteArray.empty, .string ByteArray.empty, .int .i64 0, .slice none 0 0])) 5 := ⟨zi32⟩
theorem inf40 : (Try.prog.info? 40).map (fun i => (i.zero, i.size, i.bytes)) = some (some (.slice none 0 0), 1, 24) := by kernel_rfl
theorem sz40 : (Try.prog.info? 40).map (·.size) = some 1 := by kernel_rfl
theorem zs40 : (Try.prog.info? 40).bind (·.zero) = some (.slice none 0 0) := by kernel_rfl
theorem zi40 : (Try.prog.info? 40).map (fun i => (i.zero, i.size)) = some (some (.slice none 0 0), 1) := by kernel_rfl
instance isz40 : Sz Try.prog 40 1 := ⟨sz40⟩
instance iin40 : Inf Try.prog 40 (some (.slice none 0 0)) 1 24 := ⟨inf40⟩
instance izs40 : Zs Try.prog 40 (.slice none 0 0) := ⟨zs40⟩
instance izi40 : Zi Try.prog 40 (some (.slice none 0 0)) 1 := ⟨zi40⟩
theorem inf47 : (Try.prog.info? 47).map (fun i => (i.zero, i.size, i.bytes)) = some (some (.agg #[.string ByteArray.empty, .int .i64 0]), 2, 24) := by kernel_rfl
theorem sz47 : (Try.prog.info? 47).map (·.size) = some 2 := by kernel_rfl
theorem zs47 : (Try.prog.info? 47).bind (·.zero) = some (.agg #[.string ByteArray.empty, .int .i64 0]) := by kernel_rfl
theorem zi47 : (Try.prog.info? 47).map (fun i => (i.zero, i.size)) = some (some (.agg #[.string ByteArray.empty, .int .i64 0]), 2) := by kernel_rfl
instance isz47 : Sz Try.prog 47 2 := ⟨sz47⟩
instance iin47 : Inf Try.prog 47 (some (.agg #[.string ByteArray.empty, .int .i64 0])) 2 24 := ⟨inf47⟩
instance izs47 : Zs Try.prog 47 (.agg #[.string ByteArray.empty, .int .i64 0]) := ⟨zs47⟩
instance izi47 : Zi Try.prog 47 (some (.agg #[.string ByteArray.empty, .int .i64 0])) 2 := ⟨zi47⟩
theorem inf53 : (Try.prog.info? 53).map (fun i => (i.zero, i.size, i.bytes)) = some (some (.pointer none), 1, 8) := by kernel_rfl
theorem sz53 : (Try.prog.info? 53).map (·.size) = some 1 := by kernel_rfl
theorem zs53 : (Try.prog.info? 53).bind (·.zero) = some (.pointer none) := by kernel_rfl
theorem zi53 : (Try.prog.info? 53).map (fun i => (i.zero, i.size)) = some (some (.pointer none), 1) := by kernel_rfl
instance isz53 : Sz Try.prog 53 1 := ⟨sz53⟩
instance iin53 : Inf Try.prog 53 (some (.pointer none)) 1 8 := ⟨inf53⟩
instance izs53 : Zs Try.prog 53 (.pointer none) := ⟨zs53⟩
instance izi53 : Zi Try.prog 53 (some (.pointer none)) 1 := ⟨zi53⟩
theorem inf57 : (Try.prog.info? 57).map (fun i => (i.zero, i.size, i.bytes)) = some (some (.agg #[.slice none 0 0, .int .i64 0, .int .i64 0]), 3, 40) := by kernel_rfl
theorem sz57 : (Try.prog.info? 57).map (·.size) = some 3 := by kernel_rfl
theorem zs57 : (Try.prog.info? 57).bind (·.zero) = some (.agg #[.slice none 0 0, .int .i64 0, .int .i64 0]) := by kernel_rfl
theorem zi57 : (Try.prog.info? 57).map (fun i => (i.zero, i.size)) = some (some (.agg #[.slice none 0 0, .int .i64 0, .int .i64 0]), 3) := by kernel_rfl
instance isz57 : Sz Try.prog 57 3 := ⟨sz57⟩
instance iin57 : Inf Try.prog 57 (some (.agg #[.slice none 0 0, .int .i64 0, .int .i64 0])) 3 40 := ⟨inf57⟩
instance izs57 : Zs Try.prog 57 (.agg #[.slice none 0 0, .int .i64 0, .int .i64 0]) := ⟨zs57⟩
instance izi57 : Zi Try.prog 57 (some (.agg #[.slice none 0 0, .int .i64 0, .int .i64 0])) 3 := ⟨zi57⟩
theorem inf63 : (Try.prog.info? 63).map (fun i => (i.zero, i.size, i.bytes)) = some (some (.map none), 1, 8) := by kernel_rfl
theorem sz63 : (Try.prog.info? 63).map (·.size) = some 1 := by kernel_rfl
theorem zs63 : (Try.prog.info? 63).bind (·.zero) = some (.map none) := by kernel_rfl
theorem zi63 : (Try.prog.info? 63).map (fun i => (i.zero, i.size)) = some (some (.map none), 1) := by kernel_rfl
instance isz63 : Sz Try.prog 63 1 := ⟨sz63⟩
instance iin63 : Inf Try.prog 63 (some (.map none)) 1 8 := ⟨inf63⟩
instance izs63 : Zs Try.prog 63 (.map none) := ⟨zs63⟩
instance izi63 : Zi Try.prog 63 (some (.map none)) 1 := ⟨zi63⟩
theorem inf64 : (Try.prog.info? 64).map (fun i => (i.zero, i.size, i.bytes)) = some (some (.map none), 1, 8) := by kernel_rfl
theorem sz64 : (Try.prog.info? 64).map (·.size) = some 1 := by kernel_rfl
theorem zs64 : (Try.prog.info? 64).bind (·.zero) = some (.map none) := by kernel_rfl
theorem zi64 : (Try.prog.info? 64).map (fun i => (i.zero, i.size)) = some (some (.map none), 1) := by kernel_rfl
instance isz64 : Sz Try.prog 64 1 := ⟨sz64⟩
instance iin64 : Inf Try.prog 64 (some (.map none)) 1 8 := ⟨inf64⟩
instance izs64 : Zs Try.prog 64 (.map none) := ⟨zs64⟩
instance izi64 : Zi Try.prog 64 (some (.map none)) 1 := ⟨zi64⟩
theorem inf67 : (Try.prog.info? 67).map (fun i => (i.zero, i.size, i.bytes)) = some (some (.pointer none), 1, 8) := by kernel_rfl
theorem sz67 : (Try.prog.info? 67).map (·.size) = some 1 := by kernel_rfl
theorem zs67 : (Try.prog.info? 67).bind (·.zero) = some (.pointer none) := by kernel_rfl
theorem zi67 : (Try.prog.info? 67).map (fun i => (i.zero, i.size)) = some (some (.pointer none), 1) := by kernel_rfl
instance isz67 : Sz Try.prog 67 1 := ⟨sz67⟩
instance iin67 : Inf Try.prog 67 (some (.pointer none)) 1 8 := ⟨inf67⟩
instance izs67 : Zs Try.prog 67 (.pointer none) := ⟨zs67⟩
instance izi67 : Zi Try.prog 67 (some (.pointer none)) 1 := ⟨zi67⟩
theorem inf70 : (Try.prog.info? 70).map (fun i => (i.zero, i.size, i.bytes)) = some (some (.agg #[.int .i64 0, .slice none 0 0, .slice none 0 0]), 3, 56) := by kernel_rfl
theorem sz70 : (Try.prog.info? 70).map (·.size) = some 3 := by kernel_rfl
theorem zs70 : (Try.prog.info? 70).bind (·.zero) = some (.agg #[.int .i64 0, .slice none 0 0, .slice none 0 0]) := by kernel_rfl
theorem zi70 : (Try.prog.info? 70).map (fun i => (i.zero, i.size)) = some (some (.agg #[.int .i64 0, .slice none 0 0, .slice none 0 0]), 3) := by kernel_rfl
instance isz70 : Sz Try.prog 70 3 := ⟨sz70⟩
instance iin70 : Inf Try.prog 70 (some (.agg #[.int .i64 0, .slice none 0 0, .slice none 0 0])) 3 56 := ⟨inf70⟩
instance izs70 : Zs Try.prog 70 (.agg #[.int .i64 0, .slice none 0 0, .slice none 0 0]) := ⟨zs70⟩
instance izi70 : Zi Try.prog 70 (some (.agg #[.int .i64 0, .slice none 0 0, .slice none 0 0])) 3 := ⟨zi70⟩
theorem inf72 : (Try.prog.info? 72).map (fun i => (i.zero, i.size, i.bytes)) = some (some (.agg #[.int .i64 0, .string ByteArray.empty, .string ByteArray.empty, .int .i64 0]), 4, 48) := by kernel_rfl
theorem sz72 : (Try.prog.info? 72).map (·.size) = some 4 := by kernel_rfl
theorem zs72 : (Try.prog.info? 72).bind (·.zero) = some (.agg #[.int .i64 0, .string ByteArray.empty, .string ByteArray.empty, .int .i64 0]) := by kernel_rfl
theorem zi72 : (Try.prog.info? 72).map (fun i => (i.zero, i.size)) = some (some (.agg #[.int .i64 0, .string ByteArray.empty, .string ByteArray.empty, .int .i64 0]), 4) := by kernel_rfl
instance isz72 : Sz Try.prog 72 4 := ⟨sz72⟩
instance iin72 : Inf Try.prog 72 (some (.agg #[.int .i64 0, .string ByteArray.empty, .string ByteArray.empty, .int .i64 0])) 4 48 := ⟨inf72⟩
instance izs72 : Zs Try.prog 72 (.agg #[.int .i64 0, .string ByteArray.empty, .string ByteArray.empty, .int .i64 0]) := ⟨zs72⟩
instance izi72 : Zi Try.prog 72 (some (.agg #[.int .i64 0, .string ByteArray.empty, .string ByteArray.empty, .int .i64 0])) 4 := ⟨zi72⟩
theorem inf91 : (Try.prog.info? 91).map (fun i => (i.zero, i.size, i.bytes)) = some (some (.pointer none), 1, 8) := by kernel_rfl
theorem sz91 : (Try.prog.info? 91).map (·.size) = some 1 := by kernel_rfl
theorem zs91 : (Try.prog.info? 91).bind (·.zero) = some (.pointer none) := by kernel_rfl
theorem zi91 : (Try.prog.info? 91).map (fun i => (i.zero, i.size)) = some (some (.pointer none), 1) := by kernel_rfl
instance isz91 : Sz Try.prog 91 1 := ⟨sz91⟩
instance iin91 : Inf Try.prog 91 (some (.pointer none)) 1 8 := ⟨inf91⟩
instance izs91 : Zs Try.prog 91 (.pointer none) := ⟨zs91⟩
instance izi91 : Zi Try.prog 91 (some (.pointer none)) 1 := ⟨zi91⟩
theorem inf92 : (Try.prog.info? 92).map (fun i => (i.zero, i.size, i.bytes)) = some (some (.map none), 1, 8) := by kernel_rfl
theorem sz92 : (Try.prog.info? 92).map (·.size) = some 1 := by kernel_rfl
theorem zs92 : (Try.prog.info? 92).bind (·.zero) = some (.map none) := by kernel_rfl
theorem zi92 : (Try.prog.info? 92).map (fun i => (i.zero, i.size)) = some (some (.map none), 1) := by kernel_rfl
instance isz92 : Sz Try.prog 92 1 := ⟨sz92⟩
instance iin92 : Inf Try.prog 92 (some (.map none)) 1 8 := ⟨inf92⟩
instance izs92 : Zs Try.prog 92 (.map none) := ⟨zs92⟩
instance izi92 : Zi Try.prog 92 (some (.map none)) 1 := ⟨zi92⟩
theorem inf99 : (Try.prog.info? 99).map (fun i => (i.zero, i.size, i.bytes)) = some (some (.slice none 0 0), 1, 24) := by kernel_rfl
theorem sz99 : (Try.prog.info? 99).map (·.size) = some 1 := by kernel_rfl
theorem zs99 : (Try.prog.info? 99).bind (·.zero) = some (.slice none 0 0) := by kernel_rfl
theorem zi99 : (Try.prog.info? 99).map (fun i => (i.zero, i.size)) = some (some (.slice none 0 0), 1) := by kernel_rfl
instance isz99 : Sz Try.prog 99 1 := ⟨sz99⟩
instance iin99 : Inf Try.prog 99 (some (.slice none 0 0)) 1 24 := ⟨inf99⟩
instance izs99 : Zs Try.prog 99 (.slice none 0 0) := ⟨zs99⟩
instance izi99 : Zi Try.prog 99 (some (.slice none 0 0)) 1 := ⟨zi99⟩
theorem inf100 : (Try.prog.info? 100).map (fun i => (i.zero, i.size, i.bytes)) = some (some (.int .u64 0), 1, 8) := by kernel_rfl
theorem sz100 : (Try.prog.info? 100).map (·.size) = some 1 := by kernel_rfl
theorem zs100 : (Try.prog.info? 100).bind (·.zero) = some (.int .u64 0) := by kernel_rfl
theorem zi100 : (Try.prog.info? 100).map (fun i => (i.zero, i.size)) = some (some (.int .u64 0), 1) := by kernel_rfl
instance isz100 : Sz Try.prog 100 1 := ⟨sz100⟩
instance iin100 : Inf Try.prog 100 (some (.int .u64 0)) 1 8 := ⟨inf100⟩
instance izs100 : Zs Try.prog 100 (.int .u64 0) := ⟨zs100⟩
instance izi100 : Zi Try.prog 100 (some (.int .u64 0)) 1 := ⟨zi100⟩
theorem inf118 : (Try.prog.info? 118).map (fun i => (i.zero, i.size, i.bytes)) = some (some (.pointer none), 1, 8) := by kernel_rfl
theorem sz118 : (Try.prog.info? 118).map (·.size) = some 1 := by kernel_rfl
theorem zs118 : (Try.prog.info? 118).bind (·.zero) = some (.pointer none) := by kernel_rfl
theorem zi118 : (Try.prog.info? 118).map (fun i => (i.zero, i.size)) = some (some (.pointer none), 1) := by kernel_rfl
instance isz118 : Sz Try.prog 118 1 := ⟨sz118⟩
instance iin118 : Inf Try.prog 118 (some (.pointer none)) 1 8 := ⟨inf118⟩
instance izs118 : Zs Try.prog 118 (.pointer none) := ⟨zs118⟩
instance izi118 : Zi Try.prog 118 (some (.pointer none)) 1 := ⟨zi118⟩
theorem inf120 : (Try.prog.info? 120).map (fun i => (i.zero, i.size, i.bytes)) = some (some (.int .u32 0), 1, 4) := by kernel_rfl
theorem sz120 : (Try.prog.info? 120).map (·.size) = some 1 := by kernel_rfl
theorem zs120 : (Try.prog.info? 120).bind (·.zero) = some (.int .u32 0) := by kernel_rfl
theorem zi120 : (Try.prog.info? 120).map (fun i => (i.zero, i.size)) = some (some (.int .u32 0), 1) := by kernel_rfl
instance isz120 : Sz Try.prog 120 1 := ⟨sz120⟩
instance iin120 : Inf Try.prog 120 (some (.int .u32 0)) 1 4 := ⟨inf120⟩
instance izs120 : Zs Try.prog 120 (.int .u32 0) := ⟨zs120⟩
instance izi120 : Zi Try.prog 120 (some (.int .u32 0)) 1 := ⟨zi120⟩
theorem inf122 : (Try.prog.info? 122).map (fun i => (i.zero, i.size, i.bytes)) = some (some (.int .u64 0), 1, 8) := by kernel_rfl
theorem sz122 : (Try.prog.info? 122).map (·.size) = some 1 := by kernel_rfl
theorem zs122 : (Try.prog.info? 122).bind (·.zero) = some (.int .u64 0) := by kernel_rfl
theorem zi122 : (Try.prog.info? 122).map (fun i => (i.zero, i.size)) = some (some (.int .u64 0), 1) := by kernel_rfl
instance isz122 : Sz Try.prog 122 1 := ⟨sz122⟩
instance iin122 : Inf Try.prog 122 (some (.int .u64 0)) 1 8 := ⟨inf122⟩
instance izs122 : Zs Try.prog 122 (.int .u64 0) := ⟨zs122⟩
instance izi122 : Zi Try.prog 122 (some (.int .u64 0)) 1 := ⟨zi122⟩
theorem inf134 : (Try.prog.info? 134).map (fun i => (i.zero, i.size, i.bytes)) = some (some (.pointer none), 1, 8) := by kernel_rfl
theorem sz134 : (Try.prog.info? 134).map (·.size) = some 1 := by kernel_rfl
theorem zs134 : (Try.prog.info? 134).bind (·.zero) = some (.pointer none) := by kernel_rfl
theorem zi134 : (Try.prog.info? 134).map (fun i => (i.zero, i.size)) = some (some (.pointer none), 1) := by kernel_rfl
instance isz134 : Sz Try.prog 134 1 := ⟨sz134⟩
instance iin134 : Inf Try.prog 134 (some (.pointer none)) 1 8 := ⟨inf134⟩
instance izs134 : Zs Try.prog 134 (.pointer none) := ⟨zs134⟩
instance izi134 : Zi Try.prog 134 (some (.pointer none)) 1 := ⟨zi134⟩
theorem inf136 : (Try.prog.info? 136).map (fun i => (i.zero, i.size, i.bytes)) = some (some (.pointer none), 1, 8) := by kernel_rfl
theorem sz136 : (Try.prog.info? 136).map (·.size) = some 1 := by kernel_rfl
theorem zs136 : (Try.prog.info? 136).bind (·.zero) = some (.pointer none) := by kernel_rfl
theorem zi136 : (Try.prog.info? 136).map (fun i => (i.zero, i.size)) = some (some (.pointer none), 1) := by kernel_rfl
instance isz136 : Sz Try.prog 136 1 := ⟨sz136⟩
instance iin136 : Inf Try.prog 136 (some (.pointer none)) 1 8 := ⟨inf136⟩
instance izs136 : Zs Try.prog 136 (.pointer none) := ⟨zs136⟩
instance izi136 : Zi Try.prog 136 (some (.pointer none)) 1 := ⟨zi136⟩
theorem inf148 : (Try.prog.info? 148).map (fun i => (i.zero, i.size, i.bytes)) = some (some (.pointer none), 1, 8) := by kernel_rfl
theorem sz148 : (Try.prog.info? 148).map (·.size) = some 1 := by kernel_rfl
theorem zs148 : (Try.prog.info? 148).bind (·.zero) = some (.pointer none) := by kernel_rfl
theorem zi148 : (Try.prog.info? 148).map (fun i => (i.zero, i.size)) = some (some (.pointer none), 1) := by kernel_rfl
instance isz148 : Sz Try.prog 148 1 := ⟨sz148⟩
instance iin148 : Inf Try.prog 148 (some (.pointer none)) 1 8 := ⟨inf148⟩
instance izs148 : Zs Try.prog 148 (.pointer none) := ⟨zs148⟩
instance izi148 : Zi Try.prog 148 (some (.pointer none)) 1 := ⟨zi148⟩
instance ius3 : Us Try.prog 3 (descOf Try.underlying3) := ⟨Try.underlying3⟩
instance ius4 : Us Try.prog 4 (descOf Try.underlying4) := ⟨Try.underlying4⟩
instance ius5 : Us Try.prog 5 (descOf Try.underlying5) := ⟨Try.underlying5⟩
instance ius9 : Us Try.prog 9 (descOf Try.underlying9) := ⟨Try.underlying9⟩
instance ius22 : Us Try.prog 22 (descOf Try.underlying22) := ⟨Try.underlying22⟩
instance ius23 : Us Try.prog 23 (descOf Try.underlying23) := ⟨Try.underlying23⟩
instance ius24 : Us Try.prog 24 (descOf Try.underlying24) := ⟨Try.underlying24⟩
instance ius25 : Us Try.prog 25 (descOf Try.underlying25) := ⟨Try.underlying25⟩
instance ius27 : Us Try.prog 27 (descOf Try.underlying27) := ⟨Try.underlying27⟩
instance ius29 : Us Try.prog 29 (descOf Try.underlying29) := ⟨Try.underlying29⟩
instance ius32 : Us Try.prog 32 (descOf Try.underlying32) := ⟨Try.underlying32⟩
instance ius40 : Us Try.prog 40 (descOf Try.underlying40) := ⟨Try.underlying40⟩
instance ius47 : Us Try.prog 47 (descOf Try.underlying47) := ⟨Try.underlying47⟩
instance ius57 : Us Try.prog 57 (descOf Try.underlying57) := ⟨Try.underlying57⟩
instance ius70 : Us Try.prog 70 (descOf Try.underlying70) := ⟨Try.underlying70⟩
instance ius72 : Us Try.prog 72 (descOf Try.underlying72) := ⟨Try.underlying72⟩
instance ius99 : Us Try.prog 99 (descOf Try.underlying99) := ⟨Try.underlying99⟩
instance ius100 : Us Try.prog 100 (descOf Try.underlying100) := ⟨Try.underlying100⟩
instance ius120 : Us Try.prog 120 (descOf Try.underlying120) := ⟨Try.underlying120⟩
theorem fl3 : flat Try.prog 3 = true := by unfold flat; rw [Try.underlying3]
theorem fl4 : flat Try.prog 4 = true := by unfold flat; rw [Try.underlying4]
theorem fl5 : flat Try.prog 5 = true := by unfold flat; rw [Try.underlying5]
theorem fl9 : flat Try.prog 9 = true := by unfold flat; rw [Try.underlying9]
theorem fl22 : flat Try.prog 22 = true := by unfold flat; rw [Try.underlying22]
theorem fl23 : flat Try.prog 23 = true := by unfold flat; rw [Try.underlying23]
theorem fl24 : flat Try.prog 24 = true := by unfold flat; rw [Try.underlying24]
theorem fl25 : flat Try.prog 25 = true := by unfold flat; rw [Try.underlying25]
theorem fl29 : flat Try.prog 29 = true := by unfold flat; rw [Try.underlying29]
theorem fl40 : flat Try.prog 40 = true := by unfold flat; rw [Try.underlying40]
theorem fl53 : flat Try.prog 53 = true := by unfold flat; rw [Try.underlying53]
theorem fl63 : flat Try.prog 63 = true := by unfold flat; rw [Try.underlying63]
theorem fl64 : flat Try.prog 64 = true := by unfold flat; rw [Try.underlying64]
theorem fl67 : flat Try.prog 67 = true := by unfold flat; rw [Try.underlying67]
theorem fl91 : flat Try.prog 91 = true := by unfold flat; rw [Try.underlying91]
theorem fl92 : flat Try.prog 92 = true := by unfold flat; rw [Try.underlying92]
theorem fl99 : flat Try.prog 99 = true := by unfold flat; rw [Try.underlying99]
theorem fl100 : flat Try.prog 100 = true := by unfold flat; rw [Try.underlying100]
theorem fl120 : flat Try.prog 120 = true := by unfold flat; rw [Try.underlying120]
instance ifl3 : Fl Try.prog 3 := ⟨fl3⟩
instance ifl4 : Fl Try.prog 4 := ⟨fl4⟩
instance ifl5 : Fl Try.prog 5 := ⟨fl5⟩
instance ifl9 : Fl Try.prog 9 := ⟨fl9⟩
instance ifl22 : Fl Try.prog 22 := ⟨fl22⟩
instance ifl23 : Fl Try.prog 23 := ⟨fl23⟩
instance ifl24 : Fl Try.prog 24 := ⟨fl24⟩
instance ifl25 : Fl Try.prog 25 := ⟨fl25⟩
instance ifl29 : Fl Try.prog 29 := ⟨fl29⟩
instance ifl40 : Fl Try.prog 40 := ⟨fl40⟩
instance ifl53 : Fl Try.prog 53 := ⟨fl53⟩
instance ifl63 : Fl Try.prog 63 := ⟨fl63⟩
instance ifl64 : Fl Try.prog 64 := ⟨fl64⟩
instance ifl67 : Fl Try.prog 67 := ⟨fl67⟩
instance ifl91 : Fl Try.prog 91 := ⟨fl91⟩
instance ifl92 : Fl Try.prog 92 := ⟨fl92⟩
instance ifl99 : Fl Try.prog 99 := ⟨fl99⟩
instance ifl100 : Fl Try.prog 100 := ⟨fl100⟩
instance ifl120 : Fl Try.prog 120 := ⟨fl120⟩
theorem mixed : Try.prog.follows .mixedOrders = true := by kernel_rfl
theorem en3 : Enters Try.prog 3 := enters_of Try.func3 (by kernel_rfl) rfl
theorem en4 : Enters Try.prog 4 := enters_of Try.func4 (by kernel_rfl) rfl
theorem en5 : Enters Try.prog 5 := enters_of Try.func5 (by kernel_rfl) rfl
theorem en6 : Enters Try.prog 6 := enters_of Try.func6 (by kernel_rfl) rfl
theorem en7 : Enters Try.prog 7 := enters_of Try.func7 (by kernel_rfl) rfl
theorem en8 : Enters Try.prog 8 := enters_of Try.func8 (by kernel_rfl) rfl
theorem en9 : Enters Try.prog 9 := enters_of Try.func9 (by kernel_rfl) rfl
theorem en10 : Enters Try.prog 10 := enters_of Try.func10 (by kernel_rfl) rfl
theorem en11 : Enters Try.prog 11 := enters_of Try.func11 (by kernel_rfl) rfl
theorem en12 : Enters Try.prog 12 := enters_of Try.func12 (by kernel_rfl) rfl
theorem en13 : Enters Try.prog 13 := enters_of Try.func13 (by kernel_rfl) rfl
theorem en14 : Enters Try.prog 14 := enters_of Try.func14 (by kernel_rfl) rfl
theorem en15 : Enters Try.prog 15 := enters_of Try.func15 (by kernel_rfl) rfl
theorem en16 : Enters Try.prog 16 := enters_of Try.func16 (by kernel_rfl) rfl
theorem en17 : Enters Try.prog 17 := enters_of Try.func17 (by kernel_rfl) rfl
theorem en18 : Enters Try.prog 18 := enters_of Try.func18 (by kernel_rfl) rfl
theorem en19 : Enters Try.prog 19 := enters_of Try.func19 (by kernel_rfl) rfl
theorem en20 : Enters Try.prog 20 := enters_of Try.func20 (by kernel_rfl) rfl
theorem en21 : Enters Try.prog 21 := enters_of Try.func21 (by kernel_rfl) rfl
theorem en22 : Enters Try.prog 22 := enters_of Try.func22 (by kernel_rfl) rfl
theorem en23 : Enters Try.prog 23 := enters_of Try.func23 (by kernel_rfl) rfl
theorem en24 : Enters Try.prog 24 := enters_of Try.func24 (by kernel_rfl) rfl
theorem en25 : Enters Try.prog 25 := enters_of Try.func25 (by kernel_rfl) rfl
theorem en26 : Enters Try.prog 26 := enters_of Try.func26 (by kernel_rfl) rfl
theorem en27 : Enters Try.prog 27 := enters_of Try.func27 (by kernel_rfl) rfl
theorem en28 : Enters Try.prog 28 := enters_of Try.func28 (by kernel_rfl) rfl
theorem en29 : Enters Try.prog 29 := enters_of Try.func29 (by kernel_rfl) rfl
theorem en30 : Enters Try.prog 30 := enters_of Try.func30 (by kernel_rfl) rfl
theorem en31 : Enters Try.prog 31 := enters_of Try.func31 (by kernel_rfl) rfl
theorem en32 : Enters Try.prog 32 := enters_of Try.func32 (by kernel_rfl) rfl
theorem en33 : Enters Try.prog 33 := enters_of Try.func33 (by kernel_rfl) rfl
theorem en34 : Enters Try.prog 34 := enters_of Try.func34 (by kernel_rfl) rfl
theorem en35 : Enters Try.prog 35 := enters_of Try.func35 (by kernel_rfl) rfl
theorem en36 : Enters Try.prog 36 := enters_of Try.func36 (by kernel_rfl) rfl
theorem en37 : Enters Try.prog 37 := enters_of Try.func37 (by kernel_rfl) rfl
theorem en38 : Enters Try.prog 38 := enters_of Try.func38 (by kernel_rfl) rfl
theorem en39 : Enters Try.prog 39 := enters_of Try.func39 (by kernel_rfl) rfl
theorem en40 : Enters Try.prog 40 := enters_of Try.func40 (by kernel_rfl) rfl
theorem en41 : Enters Try.prog 41 := enters_of Try.func41 (by kernel_rfl) rfl
theorem en42 : Enters Try.prog 42 := enters_of Try.func42 (by kernel_rfl) rfl
theorem en43 : Enters Try.prog 43 := enters_of Try.func43 (by kernel_rfl) rfl
theorem en44 : Enters Try.prog 44 := enters_of Try.func44 (by kernel_rfl) rfl
theorem en45 : Enters Try.prog 45 := enters_of Try.func45 (by kernel_rfl) rfl
theorem en46 : Enters Try.prog 46 := enters_of Try.func46 (by kernel_rfl) rfl
theorem en47 : Enters Try.prog 47 := enters_of Try.func47 (by kernel_rfl) rfl
theorem en48 : Enters Try.prog 48 := enters_of Try.func48 (by kernel_rfl) rfl
theorem en49 : Enters Try.prog 49 := enters_of Try.func49 (by kernel_rfl) rfl
theorem en50 : Enters Try.prog 50 := enters_of Try.func50 (by kernel_rfl) rfl
theorem en51 : Enters Try.prog 51 := enters_of Try.func51 (by kernel_rfl) rfl
theorem en52 : Enters Try.prog 52 := enters_of Try.func52 (by kernel_rfl) rfl
theorem en53 : Enters Try.prog 53 := enters_of Try.func53 (by kernel_rfl) rfl
theorem en54 : Enters Try.prog 54 := enters_of Try.func54 (by kernel_rfl) rfl
theorem en55 : Enters Try.prog 55 := enters_of Try.func55 (by kernel_rfl) rfl
theorem en56 : Enters Try.prog 56 := enters_of Try.func56 (by kernel_rfl) rfl
theorem en57 : Enters Try.prog 57 := enters_of Try.func57 (by kernel_rfl) rfl
theorem en58 : Enters Try.prog 58 := enters_of Try.func58 (by kernel_rfl) rfl
theorem en59 : Enters Try.prog 59 := enters_of Try.func59 (by kernel_rfl) rfl
theorem en60 : Enters Try.prog 60 := enters_of Try.func60 (by kernel_rfl) rfl
theorem en61 : Enters Try.prog 61 := enters_of Try.func61 (by kernel_rfl) rfl
theorem en62 : Enters Try.prog 62 := enters_of Try.func62 (by kernel_rfl) rfl
theorem en63 : Enters Try.prog 63 := enters_of Try.func63 (by kernel_rfl) rfl
theorem en64 : Enters Try.prog 64 := enters_of Try.func64 (by kernel_rfl) rfl
theorem en65 : Enters Try.prog 65 := enters_of Try.func65 (by kernel_rfl) rfl
theorem en69 : Enters Try.prog 69 := enters_of Try.func69 (by kernel_rfl) rfl
theorem en70 : Enters Try.prog 70 := enters_of Try.func70 (by kernel_rfl) rfl
theorem en71 : Enters Try.prog 71 := enters_of Try.func71 (by kernel_rfl) rfl
theorem en72 : Enters Try.prog 72 := enters_of Try.func72 (by kernel_rfl) rfl
theorem en73 : Enters Try.prog 73 := enters_of Try.func73 (by kernel_rfl) rfl
theorem en83 : Enters Try.prog 83 := enters_of Try.func83 (by kernel_rfl) rfl
theorem en84 : Enters Try.prog 84 := enters_of Try.func84 (by kernel_rfl) rfl
theorem en85 : Enters Try.prog 85 := enters_of Try.func85 (by kernel_rfl) rfl
theorem en86 : Enters Try.prog 86 := enters_of Try.func86 (by kernel_rfl) rfl
theorem en87 : Enters Try.prog 87 := enters_of Try.func87 (by kernel_rfl) rfl
theorem en88 : Enters Try.prog 88 := enters_of Try.func88 (by kernel_rfl) rfl
theorem en89 : Enters Try.prog 89 := enters_of Try.func89 (by kernel_rfl) rfl
theorem en90 : Enters Try.prog 90 := enters_of Try.func90 (by kernel_rfl) rfl
theorem en91 : Enters Try.prog 91 := enters_of Try.func91 (by kernel_rfl) rfl
theorem en92 : Enters Try.prog 92 := enters_of Try.func92 (by kernel_rfl) rfl
theorem en93 : Enters Try.prog 93 := enters_of Try.func93 (by kernel_rfl) rfl
theorem en94 : Enters Try.prog 94 := enters_of Try.func94 (by kernel_rfl) rfl
theorem en95 : Enters Try.prog 95 := enters_of Try.func95 (by kernel_rfl) rfl
theorem en96 : Enters Try.prog 96 := enters_of Try.func96 (by kernel_rfl) rfl
theorem en97 : Enters Try.prog 97 := enters_of Try.func97 (by kernel_rfl) rfl
theorem en98 : Enters Try.prog 98 := enters_of Try.func98 (by kernel_rfl) rfl
end Go.Proofs.Ytggaghghclomkaa

/- Contracts of the small helpers. -/
namespace Go.Proofs.Ytggaghghclomkaa
open Go.RowKit
attribute [local irreducible] TL TC TN TX TR TQ Pu Ret

theorem u8s_get (s : List UInt8) {k : Nat} (h : k < s.length) : (u8s s).getD k undef = B8 (s.getD k 0) := by
  simp [u8s, List.getD_eq_getElem?_getD, List.getElem?_eq_getElem h]

theorem copyBytes_c {A : Option Addr} {c lo hi : Nat} {s : List UInt8} {w : World} (hr : Rd w lo hi 1 A s.length (u8s s)) (hl : s.length ≤ 1099511627776) :
    Ret Try.prog 32 #[.slice A s.length c] w fun v w' => ∃ A' c', v = .slice A' s.length c' ∧ Ext w w' ∧ Own w' w.heap.size w'.heap.size 5 1 A' s.length c' (u8s s) := by
  refine Ret_enter Try.func32 rfl rfl rfl ?_
  repeat' (first | apply Jbq | apply Jbr | apply Jbs | apply Jbt | (apply Jcg; (first | exact Jaa rfl | exact Jab rfl); exact rfl))
  refine TL_append Us.h Inf.h rfl rfl rfl rfl (Own.nil w w.heap.size w.heap.size 5 1 (Nat.le_refl _)) hr (u8s_one s) (Nat.le_refl _) (by omega) (by omega) rfl ?_
  intro w1 hi1 A1 c1 hch h1 h2 h3 hown
  have hz := hch.size
  repeat' (first | apply Jbq | apply Jbr | apply Jbu | (apply Jcg; exact Jab rfl; exact rfl))
  refine TR_of (res1 rfl rfl) ⟨A1, c1, by rw [Nat.zero_add], hch.mono (fun k hk => by simp only [Iv] at hk; omega), ?_⟩
  rw [Nat.zero_add, List.nil_append] at hown
  exact hown.wide (Nat.le_refl _) (by omega) (Nat.le_refl _)



/-- The marks of bytes: k, k + 1, .. -/
def mk8 (k : Int) (n : Nat) : List UInt8 := (List.range n).map fun (i : Nat) => UInt8.ofNat ((k + (i : Int)) % 256).toNat
@[simp] theorem mk8_length (k : Int) (n : Nat) : (mk8 k n).length = n := by simp [mk8]
theorem mk8_get (k : Int) (n i : Nat) (h : i < n) : (mk8 k n).getD i 0 = UInt8.ofNat ((k + i) % 256).toNat := by
  simp [mk8, List.getD_eq_getElem?_getD, h]
end Go.Proofs.Ytggaghghclomkaa

/- Bytes and numbers that go from call to call: what reads so, what a call owns, what bears marks; the laws' helpers in these words. No condition. -/
namespace Go.Proofs.Ytggaghghclomkaa
open Go.RowKit
attribute [local irreducible] TL TC TN TX TR TQ Pu Ret

/-- The slice v reads as the bytes s. -/
def RB (w : World) (lo hi : Nat) (v : Value) (s : List UInt8) : Prop := ∃ A c, v = .slice A s.length c ∧ s.length ≤ c ∧ Rd w lo hi 1 A s.length (u8s s)
/-- The slice v is the call's own and holds the bytes s. -/
def OB (w : World) (lo hi : Nat) (v : Value) (s : List UInt8) : Prop := ∃ A c, v = .slice A s.length c ∧ Own w lo hi 5 1 A s.length c (u8s s)
/-- The slice v is the call's own and bears the marks k, k + 1, .. -/
def MB (w : World) (lo hi : Nat) (v : Value) (k : Int) (s : List UInt8) : Prop := OB w lo hi v (mk8 k s.length)
section
variable {w w' : World} {lo hi : Nat} {v : Value} {s : List UInt8} {k : Int} {T : Nat → Prop}
theorem RB.ch (h : RB w lo hi v s) (c : Ch T w w') (hd : ∀ k, lo ≤ k → k < hi → ¬ T k) : RB w' lo hi v s := by
  obtain ⟨A, cc, h1, h2, h3⟩ := h; exact ⟨A, cc, h1, h2, h3.ch c hd⟩
theorem RB.ext (h : RB w lo hi v s) (c : Ext w w') : RB w' lo hi v s := h.ch c (fun _ _ _ t => t)
theorem OB.ch (h : OB w lo hi v s) (c : Ch T w w') (hd : ∀ k, lo ≤ k → k < hi → ¬ T k) : OB w' lo hi v s := by
  obtain ⟨A, cc, h1, h3⟩ := h; exact ⟨A, cc, h1, h3.ch c hd⟩
theorem OB.ext (h : OB w lo hi v s) (c : Ext w w') : OB w' lo hi v s := h.ch c (fun _ _ _ t => t)
theorem MB.ch (h : MB w lo hi v k s) (c : Ch T w w') (hd : ∀ k, lo ≤ k → k < hi → ¬ T k) : MB w' lo hi v k s := OB.ch h c hd
theorem MB.ext (h : MB w lo hi v k s) (c : Ext w w') : MB w' lo hi v k s := OB.ext h c
theorem OB.rd (h : OB w lo hi v s) : RB w lo hi v s := by obtain ⟨A, cc, h1, h3⟩ := h; exact ⟨A, cc, h1, h3.cap.1, h3.rd⟩
theorem OB.hi_le (h : OB w lo hi v s) : hi ≤ w.heap.size := by obtain ⟨A, cc, h1, h3⟩ := h; exact h3.hi_le
end
theorem OB.nil (w : World) (k : Nat) (h : k ≤ w.heap.size) : OB w k w.heap.size (.slice none 0 0) [] := ⟨none, 0, rfl, Own.nil _ _ _ _ _ (Nat.le_refl _)⟩
theorem OB_new {w1 : World} {g : Nat} {s : List UInt8} {w : World} {n : Nat} (hs : s.length = n) (h : Own w1 g (g + 1) 5 1 (some ⟨g, 0, none⟩) n n (u8s s)) (hg : g = w.heap.size) (hz : w1.heap.size = g + 1) : OB w1 w.heap.size w1.heap.size (.slice (some ⟨g, 0, none⟩) n n) s := by
  subst hs; exact ⟨_, _, rfl, h.wide (by omega) (by omega) (Nat.le_refl _)⟩
theorem fillu1 (a : UInt8) : Instr.fill (fun i => some (i * 1, 1)) ((Array.range (1 * 1)).map ((Value.int .u8 0).cells[· % (Value.int .u8 0).cells.size]!)) [(0, B8 a)] = some (u8s [a]).toArray := by kernel_rfl
theorem fillu2 (a b : UInt8) : Instr.fill (fun i => some (i * 1, 1)) ((Array.range (2 * 1)).map ((Value.int .u8 0).cells[· % (Value.int .u8 0).cells.size]!)) [(0, B8 a), (1, B8 b)] = some (u8s [a, b]).toArray := by kernel_rfl
theorem fillu3 (a b c : UInt8) : Instr.fill (fun i => some (i * 1, 1)) ((Array.range (3 * 1)).map ((Value.int .u8 0).cells[· % (Value.int .u8 0).cells.size]!)) [(0, B8 a), (1, B8 b), (2, B8 c)] = some (u8s [a, b, c]).toArray := by kernel_rfl
theorem fillu4 (a b c d : UInt8) : Instr.fill (fun i => some (i * 1, 1)) ((Array.range (4 * 1)).map ((Value.int .u8 0).cells[· % (Value.int .u8 0).cells.size]!)) [(0, B8 a), (1, B8 b), (2, B8 c), (3, B8 d)] = some (u8s [a, b, c, d]).toArray := by kernel_rfl
def pb (x : Int) : UInt8 := UInt8.ofNat (x % 256).toNat
section
variable {P : Program} {L : List Oper} {Q : Exit → Act → World → Prop} {n d : Nat} {l : Env} {w : World} {rest : List Oper} {ty : TypeId} {pos : String} {af : Array Edge} {v v2 : Value} {x y : Operand} {t : TypeId}
/-- Own bytes are appended to. -/
theorem TL_appendB {lo hi lo2 hi2 : Nat} {s s2 : List UInt8} (ht : Try.prog.underlying t = some (.slice 5)) (hx : ev l x = some v) (hy : ev l y = some v2) (ho : OB w lo hi v s) (hr : RB w lo2 hi2 v2 s2)
    (hlo : lo ≤ w.heap.size) (hm : s.length + s2.length ≤ 17592186044416) (hn : Nat.blt d n = true)
    (h : ∀ w' v', Ch (Iv lo hi) w w' → OB w' lo w'.heap.size v' (s ++ s2) → TL Try.prog L Q rest n ((d, v') :: l) w') :
    TL Try.prog L Q (⟨some d, .call { callee := .builtin .append, args := #[x, y], argTypes := #[t, t] }, ty, pos, af, none⟩ :: rest) n l w := by
  obtain ⟨A, c, rfl, ho⟩ := ho
  obtain ⟨A2, c2, rfl, _, hr⟩ := hr
  refine TL_append ht inf5 rfl rfl hx hy ho hr (u8s_one s2) hlo (by omega) (by omega) hn ?_
  intro w1 hi1 A1 c1 hch h1 h2 h3 hown
  have hz := hch.size
  have hh := ho.hi_le
  exact h w1 _ hch ⟨A1, c1, by rw [List.length_append], (hown.wide (Nat.le_refl _) (by omega) (Nat.le_refl _)).cast (by rw [List.length_append]) (by simp [u8s])⟩
end
end Go.Proofs.Ytggaghghclomkaa

/- Numbers in bytes, checksums, digits: the plain law. No condition. -/
namespace Go.Proofs.Ytggaghghclomkaa
open Go.RowKit

theorem bit_xor64 (a b : Nat) (ha : a < 9223372036854775808) (hb : b < 9223372036854775808) : bitv .xor .i64 (a : Int) (b : Int) = ((a ^^^ b : Nat) : Int) := by
  have h : a ^^^ b < 2 ^ 63 := Nat.xor_lt_two_pow (by omega) (by omega)
  have e : (BitVec.ofInt 64 (a : Int) ^^^ BitVec.ofInt 64 (b : Int)).toNat = a ^^^ b := by
    rw [BitVec.ofInt_natCast, BitVec.ofInt_natCast, BitVec.toNat_xor, BitVec.toNat_ofNat, BitVec.toNat_ofNat, Nat.mod_eq_of_lt (by omega), Nat.mod_eq_of_lt (by omega)]
  show IntKind.i64.wrap (((BitVec.ofInt 64 (a : Int) ^^^ BitVec.ofInt 64 (b : Int)).toNat : Nat) : Int) = _
  rw [e, IntWalk.i64_in _ (by omega)]
theorem bit_xor32 (a b : Nat) (ha : a < 4294967296) (hb : b < 4294967296) : bitv .xor .u32 (a : Int) (b : Int) = ((a ^^^ b : Nat) : Int) := by
  have h : a ^^^ b < 2 ^ 32 := Nat.xor_lt_two_pow (by omega) (by omega)
  have e : (BitVec.ofInt 32 (a : Int) ^^^ BitVec.ofInt 32 (b : Int)).toNat = a ^^^ b := by
    rw [BitVec.ofInt_natCast, BitVec.ofInt_natCast, BitVec.toNat_xor, BitVec.toNat_ofNat, BitVec.toNat_ofNat, Nat.mod_eq_of_lt (by omega), Nat.mod_eq_of_lt (by omega)]
  show IntKind.u32.wrap (((BitVec.ofInt 32 (a : Int) ^^^ BitVec.ofInt 32 (b : Int)).toNat : Nat) : Int) = _
  rw [e, IntKind.wrap_u32]; omega
theorem bit_and32 (a b : Nat) (ha : a < 4294967296) (hb : b < 4294967296) : bitv .and .u32 (a : Int) (b : Int) = ((a &&& b : Nat) : Int) := by
  have h : a &&& b < 2 ^ 32 := Nat.and_lt_two_pow _ (by omega)
  have e : (BitVec.ofInt 32 (a : Int) &&& BitVec.ofInt 32 (b : Int)).toNat = a &&& b := by
    rw [BitVec.ofInt_natCast, BitVec.ofInt_natCast, BitVec.toNat_and, BitVec.toNat_ofNat, BitVec.toNat_ofNat, Nat.mod_eq_of_lt (by omega), Nat.mod_eq_of_lt (by omega)]
  show IntKind.u32.wrap (((BitVec.ofInt 32 (a : Int) &&& BitVec.ofInt 32 (b : Int)).toNat : Nat) : Int) = _
  rw [e, IntKind.wrap_u32]; omega
theorem bit_and8 (a b : Nat) (ha : a < 256) (hb : b < 256) : bitv .and .u8 (a : Int) (b : Int) = ((a &&& b : Nat) : Int) := by
  have h : a &&& b < 2 ^ 8 := Nat.and_lt_two_pow _ (by omega)
  have e : (BitVec.ofInt 8 (a : Int) &&& BitVec.ofInt 8 (b : Int)).toNat = a &&& b := by
    rw [BitVec.ofInt_natCast, BitVec.ofInt_natCast, BitVec.toNat_and, BitVec.toNat_ofNat, BitVec.toNat_ofNat, Nat.mod_eq_of_lt (by omega), Nat.mod_eq_of_lt (by omega)]
  show IntKind.u8.wrap (((BitVec.ofInt 8 (a : Int) &&& BitVec.ofInt 8 (b : Int)).toNat : Nat) : Int) = _
  rw [e, IntKind.wrap_u8]; omega
theorem bit_and64 (a b : Nat) (ha : a < 9223372036854775808) (hb : b < 9223372036854775808) : bitv .and .i64 (a : Int) (b : Int) = ((a &&& b : Nat) : Int) := by
  have h : a &&& b < 2 ^ 63 := Nat.and_lt_two_pow _ (by omega)
  have e : (BitVec.ofInt 64 (a : Int) &&& BitVec.ofInt 64 (b : Int)).toNat = a &&& b := by
    rw [BitVec.ofInt_natCast, BitVec.ofInt_natCast, BitVec.toNat_and, BitVec.toNat_ofNat, BitVec.toNat_ofNat, Nat.mod_eq_of_lt (by omega), Nat.mod_eq_of_lt (by omega)]
  show IntKind.i64.wrap (((BitVec.ofInt 64 (a : Int) &&& BitVec.ofInt 64 (b : Int)).toNat : Nat) : Int) = _
  rw [e, IntWalk.i64_in _ (by omega)]
theorem and_one32 (a : Nat) (ha : a < 4294967296) : bitv .and .u32 (a : Int) 1 = ((a % 2 : Nat) : Int) := by
  have := bit_and32 a 1 ha (by omega)
  rw [Nat.and_one_is_mod] at this
  exact this
theorem and_15 (a : Nat) (ha : a < 256) : bitv .and .u8 (a : Int) 15 = ((a % 16 : Nat) : Int) := by
  have := bit_and8 a 15 ha (by omega)
  rw [show 15 = 2 ^ 4 - 1 from rfl, Nat.and_two_pow_sub_one_eq_mod] at this
  exact this

/-! numbers in bytes -/
theorem pow4 : ∀ k : Nat, k ≤ 4 → 0 < (256 : Int) ^ k ∧ (256 : Int) ^ k ≤ 4294967296
  | 0, _ => ⟨by decide, by decide⟩
  | 1, _ => ⟨by decide, by decide⟩
  | 2, _ => ⟨by decide, by decide⟩
  | 3, _ => ⟨by decide, by decide⟩
  | 4, _ => ⟨by decide, by decide⟩
  | k + 5, h => by omega
def putR (n : Int) : Nat → List UInt8
  | 0 => []
  | k + 1 => pb (n / 256 ^ k) :: putR n k
@[simp] theorem putR_length (n : Int) : ∀ k, (putR n k).length = k
  | 0 => rfl
  | k + 1 => by simp [putR, putR_length n k]
def pPut (b : List UInt8) (n size : Int) : List UInt8 × Bool :=
  if 1 ≤ size ∧ size ≤ 4 ∧ 0 ≤ n ∧ n < 256 ^ size.toNat ∧ (b.length : Int) + size ≤ 65536 then (b ++ putR n size.toNat, true) else ([], false)
theorem pPut_len (b : List UInt8) (n size : Int) : (pPut b n size).1.length ≤ 65536 := by
  unfold pPut
  split
  · rename_i h; simp only [List.length_append, putR_length]; omega
  · simp
def getF (b : List UInt8) (a : Nat) : Nat → Int
  | 0 => 0
  | k + 1 => getF b a k * 256 + ((b.getD (a + k) 0).toNat : Int)
theorem getF_nn (b : List UInt8) (a : Nat) : ∀ k, 0 ≤ getF b a k
  | 0 => by simp [getF]
  | k + 1 => by have := getF_nn b a k; simp only [getF]; omega
theorem getF_lt (b : List UInt8) (a : Nat) : ∀ k, getF b a k < 256 ^ k
  | 0 => by simp [getF]
  | k + 1 => by
    have := getF_lt b a k
    have h := (b.getD (a + k) 0).toNat_lt
    simp only [getF, Int.pow_succ]
    omega
theorem getF_le (b : List UInt8) (a k : Nat) (hk : k ≤ 4) : getF b a k < 4294967296 := by
  have h := getF_lt b a k
  have := (pow4 k hk).2
  omega
theorem putR_back (n : Int) : ∀ k, putR n (k + 1) = putR (n / 256) k ++ [pb n]
  | 0 => by simp [putR]
  | k + 1 => by
    have h : n / 256 / 256 ^ k = n / 256 ^ (k + 1) := by rw [Int.pow_succ, Int.mul_comm, ← Int.ediv_ediv_of_nonneg (by omega)]
    rw [putR, putR_back n k, putR, h]; rfl
/-- Bytes as a number. -/
def val (s : List UInt8) : Int := s.foldl (fun n x => n * 256 + (x.toNat : Int)) 0
theorem val_snoc (s : List UInt8) (x : UInt8) : val (s ++ [x]) = val s * 256 + x.toNat := by simp [val, List.foldl_append]
theorem pb_toNat (x : Int) : ((pb x).toNat : Int) = x % 256 := by
  unfold pb
  rw [UInt8.toNat_ofNat']
  omega
theorem pb_of {x : Int} {c : UInt8} (h : x % 256 = c.toNat) : pb x = c := by
  apply UInt8.toNat_inj.1
  have := pb_toNat x
  omega
theorem val_putR : ∀ (k : Nat) {n : Int}, 0 ≤ n → n < 256 ^ k → val (putR n k) = n
  | 0, n, h0, h1 => by simp at h1; simp [putR, val]; omega
  | k + 1, n, h0, h1 => by
    rw [putR_back, val_snoc, val_putR k (by omega) (by rw [Int.pow_succ] at h1; omega), pb_toNat]
    omega
theorem val_nn (s : List UInt8) : 0 ≤ val s := by
  have : ∀ (s : List UInt8) (n : Int), 0 ≤ n → 0 ≤ s.foldl (fun n x => n * 256 + (x.toNat : Int)) n := by
    intro s
    induction s with
    | nil => intro n h; exact h
    | cons x s ih => intro n h; exact ih _ (by show 0 ≤ n * 256 + (x.toNat : Int); omega)
  exact this s 0 (by omega)
theorem putR_val : ∀ s : List UInt8, putR (val s) s.length = s := by
  have : ∀ (n : Nat) (s : List UInt8), s.length = n → putR (val s) n = s := by
    intro n
    induction n with
    | zero => intro s h; rw [List.eq_nil_of_length_eq_zero h]; rfl
    | succ n ih =>
      intro s h
      have hne : s ≠ [] := by intro e; subst e; simp at h
      obtain ⟨s', x, rfl⟩ : ∃ s' x, s = s' ++ [x] := ⟨_, _, (List.dropLast_concat_getLast hne).symm⟩
      have hl : s'.length = n := by simpa using h
      have hx := x.toNat_lt
      rw [val_snoc, putR_back, show (val s' * 256 + (x.toNat : Int)) / 256 = val s' by omega, ih s' hl]
      rw [pb_of (c := x) (by omega)]
  exact fun s => this _ s rfl
theorem getF_val (b : List UInt8) (a : Nat) : ∀ k, a + k ≤ b.length → getF b a k = val ((b.drop a).take k)
  | 0, _ => by simp [getF, val]
  | k + 1, h => by
    have hk : k < (b.drop a).length := by rw [List.length_drop]; omega
    rw [List.take_succ_eq_append_getElem hk, val_snoc, ← getF_val b a k (by omega), getF]
    congr 2
    rw [List.getElem_drop, List.getD_eq_getElem?_getD, List.getElem?_eq_getElem (by omega)]; rfl
theorem getF_putR {b : List UInt8} {a k : Nat} (h : a + k ≤ b.length) : putR (getF b a k) k = (b.drop a).take k := by
  have hl : ((b.drop a).take k).length = k := by rw [List.length_take, List.length_drop]; omega
  have := putR_val ((b.drop a).take k)
  rw [hl] at this
  rw [getF_val b a k h, this]
def pGet (b : List UInt8) (a size : Int) : Int × Bool :=
  if 1 ≤ size ∧ size ≤ 4 ∧ 0 ≤ a ∧ a ≤ b.length - size then (getF b a.toNat size.toNat, true) else (0, false)

/-! checksums -/
def crcBit (r : Nat) : Nat := if r % 2 = 1 then (r / 2) ^^^ 3988292384 else r / 2
theorem crcBit_lt {r : Nat} (h : r < 4294967296) : crcBit r < 4294967296 := by
  unfold crcBit
  split
  · exact Nat.xor_lt_two_pow (n := 32) (by omega) (by omega)
  · omega
def crcBits (r : Nat) : Nat → Nat
  | 0 => r
  | k + 1 => crcBit (crcBits r k)
theorem crcBits_lt {r : Nat} (h : r < 4294967296) : ∀ k, crcBits r k < 4294967296
  | 0 => h
  | k + 1 => crcBit_lt (crcBits_lt h k)
def crcStep (r : Nat) (x : UInt8) : Nat := crcBits (r ^^^ x.toNat) 8
theorem xor8_lt {r : Nat} (h : r < 4294967296) (x : UInt8) : r ^^^ x.toNat < 4294967296 := by
  have := x.toNat_lt
  exact Nat.xor_lt_two_pow (n := 32) (by omega) (by omega)
theorem crcStep_lt {r : Nat} (h : r < 4294967296) (x : UInt8) : crcStep r x < 4294967296 := crcBits_lt (xor8_lt h x) 8
def crcR (r : Nat) (s : List UInt8) : Nat := s.foldl crcStep r
theorem crcR_lt : ∀ (s : List UInt8) {r : Nat}, r < 4294967296 → crcR r s < 4294967296
  | [], _, h => h
  | x :: s, _, h => crcR_lt s (crcStep_lt h x)
theorem crcR_take {r : Nat} {s : List UInt8} {k : Nat} (h : k < s.length) : crcR r (s.take (k + 1)) = crcStep (crcR r (s.take k)) (s.getD k 0) := by
  unfold crcR
  rw [List.take_succ_eq_append_getElem h, List.foldl_append]
  simp [List.getD_eq_getElem?_getD, List.getElem?_eq_getElem h]
def crc (s : List UInt8) : Nat := crcR 4294967295 s ^^^ 4294967295
theorem crc_lt (s : List UInt8) : crc s < 4294967296 := Nat.xor_lt_two_pow (n := 32) (crcR_lt s (by omega)) (by omega)

/-! digits -/
def hexc (d : Nat) : UInt8 := if d < 10 then UInt8.ofNat (48 + d) else UInt8.ofNat (87 + d)
def hexOf (s : List UInt8) : List UInt8 := s.flatMap fun x => [hexc (x.toNat / 16), hexc (x.toNat % 16)]
theorem hexOf_length (s : List UInt8) : (hexOf s).length = 2 * s.length := by
  unfold hexOf
  induction s with
  | nil => rfl
  | cons a s ih => rw [List.flatMap_cons, List.length_append, ih]; simp; omega
theorem hexOf_take {s : List UInt8} {k : Nat} (h : k < s.length) : hexOf (s.take (k + 1)) = hexOf (s.take k) ++ [hexc ((s.getD k 0).toNat / 16), hexc ((s.getD k 0).toNat % 16)] := by
  unfold hexOf
  rw [List.take_succ_eq_append_getElem h, List.flatMap_append]
  congr 1
  simp [List.getD_eq_getElem?_getD, List.getElem?_eq_getElem h]
def hexd (c : UInt8) : Nat := if 48 ≤ c.toNat ∧ c.toNat ≤ 57 then c.toNat - 48 else if 97 ≤ c.toNat ∧ c.toNat ≤ 102 then c.toNat - 87 else 16
theorem hexd_le (c : UInt8) : hexd c ≤ 16 := by unfold hexd; split; omega; split <;> omega
theorem hexc_toNat {d : Nat} (h : d < 16) : (hexc d).toNat = if d < 10 then 48 + d else 87 + d := by
  unfold hexc
  split
  · rw [UInt8.toNat_ofNat', Nat.mod_eq_of_lt (by omega)]
  · rw [UInt8.toNat_ofNat', Nat.mod_eq_of_lt (by omega)]
theorem hexd_hexc {d : Nat} (h : d < 16) : hexd (hexc d) = d := by
  have e := hexc_toNat h
  unfold hexd
  by_cases hd : d < 10
  · rw [if_pos hd] at e; rw [if_pos (by omega)]; omega
  · rw [if_neg hd] at e; rw [if_neg (by omega), if_pos (by omega)]; omega
theorem hexc_hexd {c : UInt8} (h : hexd c < 16) : hexc (hexd c) = c := by
  have e := hexc_toNat h
  apply UInt8.toNat_inj.1
  rw [e]
  unfold hexd at h ⊢
  by_cases h1 : 48 ≤ c.toNat ∧ c.toNat ≤ 57
  · rw [if_pos h1]; rw [if_pos (by omega)]; omega
  · rw [if_neg h1] at h ⊢
    by_cases h2 : 97 ≤ c.toNat ∧ c.toNat ≤ 102
    · rw [if_pos h2]; rw [if_neg (by omega)]; omega
    · rw [if_neg h2] at h; omega
theorem hexc_ne {d : Nat} (c : UInt8) (hd : d < 16) (h : d ≠ hexd c) : hexc d ≠ c := fun e => h (by rw [← e, hexd_hexc hd])
def pairs (s : List UInt8) (m : Nat) : List UInt8 := (List.range m).map fun j => UInt8.ofNat (16 * hexd (s.getD (2 * j) 0) + hexd (s.getD (2 * j + 1) 0))
@[simp] theorem pairs_length (s : List UInt8) (m : Nat) : (pairs s m).length = m := by simp [pairs]
theorem pairs_succ (s : List UInt8) (m : Nat) : pairs s (m + 1) = pairs s m ++ [UInt8.ofNat (16 * hexd (s.getD (2 * m) 0) + hexd (s.getD (2 * m + 1) 0))] := by simp [pairs, List.range_succ]
def pUnhex (s : List UInt8) : List UInt8 × Bool :=
  if s.length % 2 = 0 ∧ s.length ≤ 131072 ∧ ∀ j, j < s.length → hexd (s.getD j 0) < 16 then (pairs s (s.length / 2), true) else ([], false)
theorem pUnhex_len (s : List UInt8) : (pUnhex s).1.length ≤ 65536 := by
  unfold pUnhex
  split
  · rename_i h; simp only [pairs_length]; omega
  · simp
theorem RB.to {w : World} {lo hi c : Nat} {A : Option Addr} {s : List UInt8} {k : Int} (h : Rd w lo hi 1 A s.length (u8s s)) (hk : 0 ≤ k ∧ k ≤ s.length) (hc : s.length ≤ c) : RB w lo hi (.slice (cutA A c 0 1) k.toNat c) (s.take k.toNat) := by
  have hl : (s.take k.toNat).length = k.toNat := by rw [List.length_take]; omega
  exact ⟨_, _, by rw [hl], by rw [hl]; omega, by rw [hl]; exact h.to8 hk hc⟩
theorem RB.from {w : World} {lo hi c : Nat} {A : Option Addr} {s : List UInt8} {k : Int} (h : Rd w lo hi 1 A s.length (u8s s)) (hk : 0 ≤ k ∧ k ≤ s.length) (hc : s.length ≤ c) : RB w lo hi (.slice (cutA A c k.toNat 1) (s.length - k.toNat) (c - k.toNat)) (s.drop k.toNat) := by
  have hl : (s.drop k.toNat).length = s.length - k.toNat := by rw [List.length_drop]
  exact ⟨_, _, by rw [hl], by rw [hl]; omega, by rw [hl]; exact h.from8 hk hc⟩
end Go.Proofs.Ytggaghghclomkaa

/- Rules for regions whose order is open and that hold operations which make memory. No condition. -/
namespace Go.Proofs.Ytggaghghclomkaa
open Go.RowKit

/-- What is listed has come up; what the world must keep is kept. -/
def TA (P : Program) (L : List Oper) (S : World → Prop) (Q : Exit → Act → World → Prop) (f : Nat) (listed : Array Bool) (n : Nat) (l : Env) (w : World) : Prop :=
  ∀ a, Holds n l a → wpAnyH P .any L.toArray Q S f listed a w
section
variable {P : Program} {L : List Oper} {S : World → Prop} {w : World} {Q : Exit → Act → World → Prop} {f n : Nat} {listed : Array Bool} {l : Env} {v : Value}
theorem TC_any {id : Nat} (hm : P.follows .mixedOrders = true) (hf : L.length = f)
    (h : ∀ w', Ext w w' → w'.heap.size = w.heap.size → TA P L (Ext w) Q f (Array.replicate f false) n l w') : TC P Q (.region id L.toArray true) n l w := fun a ha => by
  refine wp_region_held (S := Ext w) hm ?_
  have := h { w with drawn := w.drawn + 1 } ((Ch.refl _ _).drew) rfl a ha
  rw [show L.toArray.size = f from by simpa using hf]
  exact this
/-- The same, for any class of worlds that is kept. -/
theorem TC_anyS {id : Nat} (S : World → Prop) (hm : P.follows .mixedOrders = true) (hf : L.length = f) (hS : S { w with drawn := w.drawn + 1 })
    (h : ∀ w', Ext w w' → w'.heap.size = w.heap.size → S w' → TA P L S Q f (Array.replicate f false) n l w') : TC P Q (.region id L.toArray true) n l w := fun a ha => by
  refine wp_region_held (S := S) hm ?_
  have := h { w with drawn := w.drawn + 1 } ((Ch.refl _ _).drew) rfl hS a ha
  rw [show L.toArray.size = f from by simpa using hf]
  exact this
theorem TA_done (hr : Region.ready .any L.toArray listed = []) (h : TN Q n l w) : TA P L S Q f listed n l w := fun a ha => wpAnyH_done hr (h a ha) _
/-- An operation that gives one value whatever comes before it. -/
theorem Jco (i : Nat) {dd : Nat} {op : Op} {ty : TypeId} {pos : String} {af : Array Edge} (hi : L[i]? = some ⟨some dd, op, ty, pos, af, none⟩) (hs : Region.noSelect L.toArray = true) (hf : Region.free .any L.toArray listed i = true)
    (hr : (Region.ready .any L.toArray listed).contains i = true) (hQ : ∀ c a w, Q (.panic c) (a.put (some dd) v) w → Q (.panic c) a w) (hE : S w)
    (hp : Pu P S n l ⟨some dd, op, ty, pos, af, none⟩ v) (hn : Nat.blt dd n = true) (h : TA P L S Q f (listed.setIfInBounds i true) n ((dd, v) :: l) w) : TA P L S Q (f + 1) listed n l w := fun a ha =>
  wpAnyH_take (oi := ⟨some dd, op, ty, pos, af, none⟩) (v := v) (by simpa using hi) hs hf hr hQ (.inl ⟨by simp [Region.wanted], hp a ha⟩) hE (h _ (ha.put hn v))
theorem Jcp (i : Nat) {dd : Nat} {op : Op} {ty : TypeId} {pos : String} {af : Array Edge} {j dj : Nat} {b : Bool} (hi : L[i]? = some ⟨some dd, op, ty, pos, af, some (j, b)⟩) (hs : Region.noSelect L.toArray = true) (hf : Region.free .any L.toArray listed i = true)
    (hr : (Region.ready .any L.toArray listed).contains i = true) (hQ : ∀ c a w, Q (.panic c) (a.put (some dd) v) w → Q (.panic c) a w) (hE : S w) (hj : nthDst L j = some dj) (hjn : Nat.blt dj n = true) (hv : look l dj = some (.bool b))
    (hp : Pu P S n l ⟨some dd, op, ty, pos, af, none⟩ v) (hn : Nat.blt dd n = true) (h : TA P L S Q f (listed.setIfInBounds i true) n ((dd, v) :: l) w) : TA P L S Q (f + 1) listed n l w := fun a ha =>
  wpAnyH_take (oi := ⟨some dd, op, ty, pos, af, some (j, b)⟩) (v := v) (by simpa using hi) hs hf hr hQ (.inl ⟨by simp [Region.wanted, yielded_of (L := L) ha hj hjn hv], hp a ha⟩) hE (h _ (ha.put hn v))
theorem Jcq (i : Nat) {dd : Nat} {op : Op} {ty : TypeId} {pos : String} {af : Array Edge} {j dj : Nat} {b b' : Bool} (hi : L[i]? = some ⟨some dd, op, ty, pos, af, some (j, b)⟩) (hs : Region.noSelect L.toArray = true) (hf : Region.free .any L.toArray listed i = true)
    (hr : (Region.ready .any L.toArray listed).contains i = true) (hQ : ∀ c a w, Q (.panic c) (a.put (some dd) undef) w → Q (.panic c) a w) (hE : S w) (hj : nthDst L j = some dj) (hjn : Nat.blt dj n = true) (hv : look l dj = some (.bool b')) (hne : (b' == b) = false)
    (hn : Nat.blt dd n = true) (h : TA P L S Q f (listed.setIfInBounds i true) n ((dd, undef) :: l) w) : TA P L S Q (f + 1) listed n l w := fun a ha =>
  wpAnyH_take (oi := ⟨some dd, op, ty, pos, af, some (j, b)⟩) (v := undef) (by simpa using hi) hs hf hr hQ (.inr ⟨by simp [Region.wanted, yielded_of (L := L) ha hj hjn hv]; simpa using hne, rfl⟩) hE (h _ (ha.put hn undef))
theorem TA_pass_undef (i : Nat) {dd : Nat} {op : Op} {ty : TypeId} {pos : String} {af : Array Edge} {j dj : Nat} {b : Bool} (hi : L[i]? = some ⟨some dd, op, ty, pos, af, some (j, b)⟩) (hs : Region.noSelect L.toArray = true) (hf : Region.free .any L.toArray listed i = true)
    (hr : (Region.ready .any L.toArray listed).contains i = true) (hQ : ∀ c a w, Q (.panic c) (a.put (some dd) undef) w → Q (.panic c) a w) (hE : S w) (hj : nthDst L j = some dj) (hjn : Nat.blt dj n = true) (hv : look l dj = some undef)
    (hn : Nat.blt dd n = true) (h : TA P L S Q f (listed.setIfInBounds i true) n ((dd, undef) :: l) w) : TA P L S Q (f + 1) listed n l w := fun a ha =>
  wpAnyH_take (oi := ⟨some dd, op, ty, pos, af, some (j, b)⟩) (v := undef) (by simpa using hi) hs hf hr hQ (.inr ⟨by have := yielded_undef (L := L) (b := b) ha hj hjn hv; simpa [Region.wanted] using this, rfl⟩) hE (h _ (ha.put hn undef))
theorem Oper.wp_then {o : Oper} {a : Act} {K K' : Act → World → Prop} (h : o.wp P a w K (Exit.then K' Q)) : o.wp P a w K Q := by
  unfold Oper.wp at *
  generalize (execOp a.eval o).run P w = r at *
  cases r with
  | ok m w' =>
    cases m <;> simp only [Oper.upon] at h ⊢ <;>
      first
        | exact h
        | exact Calls.mono h (fun e w'' he => by cases e <;> exact he)
  | halt x w' => cases x <;> simp only [Oper.upon] at h ⊢ <;> exact h
/-- What follows an operation that is carried out inside. -/
def AK (P : Program) (L : List Oper) (S : World → Prop) (Q : Exit → Act → World → Prop) (f : Nat) (listed : Array Bool) : Act → World → Prop := fun a' w' => S w' ∧ wpAnyH P .any L.toArray Q S f listed a' w'
theorem TN_any (e : S w) (h : TA P L S Q f listed n l w) : TN (Exit.then (AK P L S Q f listed) Q) n l w := fun a ha => ⟨e, h a ha⟩
/-- The one operation that may come up now is carried out. -/
theorem TA_one (i : Nat) {o : Oper} (hr : Region.ready .any L.toArray listed = [i]) (hi : L[i]? = some o)
    (h : TL P L (Exit.then (AK P L S Q f (listed.setIfInBounds i true)) Q) [o] n l w) : TA P L S Q (f + 1) listed n l w := fun a ha => by
  refine wpAnyH_all hr (by simp) fun j hj => ?_
  obtain rfl : j = i := by simpa using hj
  have h1 := h a ha
  unfold wpOp
  rw [show L.toArray[j]? = some o from by simpa using hi]
  unfold wpList at h1
  simp only at h1 ⊢
  split
  · rename_i hw
    rw [if_pos hw] at h1
    rcases h1 with h1 | ⟨h1, h2⟩
    · refine .inl (Oper.wp_then (K' := AK P L S Q f (listed.setIfInBounds j true)) ?_)
      exact h1
    · exact .inr ⟨h1, h2⟩
  · rename_i hw
    rw [if_neg hw] at h1
    exact h1
/-- One of two operations is carried out. -/
theorem TA_two (i j : Nat) {o o' : Oper} (hr : Region.ready .any L.toArray listed = [i, j]) (hi : L[i]? = some o) (hj : L[j]? = some o')
    (h : TL P L (Exit.then (AK P L S Q f (listed.setIfInBounds i true)) Q) [o] n l w) (h' : TL P L (Exit.then (AK P L S Q f (listed.setIfInBounds j true)) Q) [o'] n l w) : TA P L S Q (f + 1) listed n l w := fun a ha => by
  refine wpAnyH_all hr (by simp) fun k hk => ?_
  have key : ∀ (i : Nat) (o : Oper), L[i]? = some o → TL P L (Exit.then (AK P L S Q f (listed.setIfInBounds i true)) Q) [o] n l w → wpOp P L.toArray Q i (AK P L S Q f (listed.setIfInBounds i true)) a w := by
    intro i o hi h
    have h1 := h a ha
    unfold wpOp
    rw [show L.toArray[i]? = some o from by simpa using hi]
    unfold wpList at h1
    simp only at h1 ⊢
    split
    · rename_i hw
      rw [if_pos hw] at h1
      rcases h1 with h1 | ⟨h1, h2⟩
      · refine .inl (Oper.wp_then (K' := AK P L S Q f (listed.setIfInBounds i true)) ?_)
        exact h1
      · exact .inr ⟨h1, h2⟩
    · rename_i hw
      rw [if_neg hw] at h1
      exact h1
  simp only [List.mem_cons, List.not_mem_nil, or_false] at hk
  rcases hk with rfl | rfl
  · exact key _ _ hi h
  · exact key _ _ hj h'
end
end Go.Proofs.Ytggaghghclomkaa

/- The cursor over the bytes of a draw: what it gives, weakly said. -/
namespace Go.Proofs.Ytggaghghclomkaa
open Go.RowKit
attribute [local irreducible] TL TC TN TX TR TQ TA Pu Ret

def Cur (w : World) (g : Nat) : Prop := ∃ (A : Option Addr) (c lo : Nat) (s : List UInt8) (i : Nat) (h : Int), Blk w g 57 [.slice A s.length c, I i, I h] ∧ Rd w lo g 1 A s.length (u8s s) ∧ i ≤ s.length ∧ s.length ≤ 1048576
abbrev pt (g : Nat) : Value := .pointer (some ⟨g, 0, none⟩)
theorem Cur.ch {w w' : World} {g : Nat} {T : Nat → Prop} (h : Cur w g) (c : Ch T w w') (hT : ∀ k, k ≤ g → ¬ T k) : Cur w' g := by
  obtain ⟨A, cc, lo, s, i, x, hb, hr, hi, hl⟩ := h
  exact ⟨A, cc, lo, s, i, x, hb.ch c (hT g (Nat.le_refl _)), hr.ch c (fun k _ hk => hT k (by omega)), hi, hl⟩
theorem Cur.ext {w w' : World} {g : Nat} (h : Cur w g) (e : Ext w w') : Cur w' g := h.ch e (fun _ _ t => t)
theorem Cur.lt {w : World} {g : Nat} (h : Cur w g) : g < w.heap.size := by obtain ⟨_, _, _, _, _, _, hb, _⟩ := h; exact hb.lt
theorem and255 (x : Int) : ∃ n : Nat, bitv .and .i64 x 255 = (n : Int) ∧ n < 256 := by
  have h : (BitVec.ofInt 64 x &&& BitVec.ofInt 64 255).toNat ≤ 255 := by
    rw [BitVec.toNat_and]
    exact Nat.le_trans Nat.and_le_right (by decide)
  refine ⟨(BitVec.ofInt 64 x &&& BitVec.ofInt 64 255).toNat, ?_, by omega⟩
  show IntKind.i64.wrap (((BitVec.ofInt 64 x &&& BitVec.ofInt 64 255).toNat : Nat) : Int) = _
  rw [IntWalk.i64_in _ (by omega)]
theorem Own.step {w w1 w2 : World} {g lo hi : Nat} (c : Ch (Iv g (g + 1)) w w1) (c2 : Ch (Iv lo hi) w1 w2) (h : w.heap.size ≤ lo) : Ch (Iv g (g + 1)) w w2 := c.trans c2 (fun _ _ t => t) (fun i hi t => absurd t.1 (by omega))
set_option maxHeartbeats 2000000 in
theorem l01Byte_c {w : World} {g : Nat} (hcur : Cur w g) :
    Ret Try.prog 54 #[pt g] w fun v w' => ∃ n : Nat, v = I n ∧ n < 256 ∧ Ch (Iv g (g + 1)) w w' ∧ Cur w' g := by
  obtain ⟨A, c, lo, s, i, h, hb, hr, hi, hl⟩ := hcur
  refine Ret_enter Try.func54 rfl rfl rfl ?_
  repeat' (first | apply Jbq | apply Jbr | apply Jbs | apply Jbt | (apply Jcg; (first | exact Jaa rfl | exact Jab rfl | exact Jba rfl | (apply Jbl; exact Us.h; exact rfl; exact Sz.h; exact rfl)); exact rfl) | refine Jcg (Pu_load Fl.h rfl (fun _ e => by rw [e]; exact hb.ld rfl)) rfl ?_ | refine Jcg (Pu_mulw rfl rfl) rfl ?_ | refine Jcg (Pu_addw rfl rfl) rfl ?_)
  refine TL_store rfl rfl Sz.h rfl hb rfl ?_
  intro w1 c1 hz1 hb1
  replace hr := hr.ch c1 (by intro k _ _; simp only [Iv]; omega)
  obtain ⟨h1, hh1⟩ : ∃ h1, h1 = IntKind.i64.wrap (IntKind.i64.wrap (h * 6364136223846793005) + 1442695040888963407) := ⟨_, rfl⟩
  replace hb1 : Blk w1 g 57 [.slice A s.length c, I i, I h1] := by rw [hh1]; exact hb1
  clear hh1 hb
  repeat' (first | apply Jbq | apply Jbr | apply Jbs)
  refine TC_quietExt mixed (by kernel_rfl) ?_
  repeat' (first | (apply Jck; (first | exact Jaa rfl | exact Jab rfl | exact Jba rfl | (apply Jbl; exact Us.h; exact rfl; exact Sz.h; exact rfl)); exact rfl) | refine Jck (Pu_load Fl.h rfl (fun _ e => Ext.cell e (hb1.ld rfl))) rfl ?_ | refine Jck (Pu_shr rfl rfl (by omega)) rfl ?_ | refine Jck (Pu_xor rfl rfl) rfl ?_ | refine Jck (Pu_and rfl rfl) rfl ?_)
  refine TQ_nil fun w2 e2 => ?_
  obtain ⟨x, hx, hxl⟩ := and255 (bitv .xor .i64 (h1.fdiv (2 ^ min (33 : Int).toNat IntKind.i64.bits)) (h1.fdiv (2 ^ min (45 : Int).toNat IntKind.i64.bits)))
  rw [hx]
  clear hx
  replace hb1 := hb1.ext e2
  replace hr := hr.ext e2
  repeat' (first | apply Jbr | apply Jbs)
  refine TC_quietExt mixed (by kernel_rfl) ?_
  repeat' (first | (apply Jck; (first | exact Jaa rfl | exact Jac Us.h rfl | exact Jad rfl rfl | exact Jba rfl | (apply Jbl; exact Us.h; exact rfl; exact Sz.h; exact rfl)); exact rfl) | refine Jck (Pu_load Fl.h rfl (fun _ e => Ext.cell e (hb1.ld rfl))) rfl ?_)
  refine TQ_nil fun w3 e3 => ?_
  replace hb1 := hb1.ext e3
  replace hr := hr.ext e3
  have c3 := (c1.ext e2).ext e3
  have hg3 := hb1.lt
  repeat' (apply Jbr)
  refine Jcx rfl (fun hlt => ?_) (fun hge => ?_)
  · obtain ⟨ad, rfl, hcell⟩ := hr.get (show i < s.length by omega)
    rw [u8s_get s (by omega)] at hcell
    have hx2 := (s.getD i 0).toNat_lt
    repeat' (apply Jbs)
    refine TC_quietExt mixed (by kernel_rfl) ?_
    repeat' (first | (apply Jck; (first | exact Jaa rfl | exact Jab rfl | exact Jaf rfl rfl (by omega) | exact Jag Us.h Sz.h rfl rfl (by omega) | exact Jax Us.h Us.h rfl (by omega) | exact Jba rfl | (apply Jbl; exact Us.h; exact rfl; exact Sz.h; exact rfl)); exact rfl) | refine Jck (Pu_load Fl.h rfl (fun _ e => Ext.cell e (hb1.ld rfl))) rfl ?_ | refine Jck (Pu_load Fl.h rfl (fun _ e => Ext.cell e hcell)) rfl ?_ | refine Jck (Pu_and rfl rfl) rfl ?_)
    refine TQ_nil fun w4 e4 => ?_
    obtain ⟨y, hy, hyl⟩ := and255 ((x : Int) + ((s.getD i 0).toNat : Int))
    rw [hy]
    replace hb1 := hb1.ext e4
    replace hr := hr.ext e4
    repeat' (first | apply Jbr | apply Jbt | (apply Jcg; (first | exact Jaa rfl | exact Jaf rfl rfl (by omega) | exact Jba rfl | (apply Jbl; exact Us.h; exact rfl; exact Sz.h; exact rfl)); exact rfl) | refine Jcg (Pu_load Fl.h rfl (fun _ e => by rw [e]; exact hb1.ld rfl)) rfl ?_)
    refine TL_store rfl rfl Sz.h rfl hb1 rfl ?_
    intro w5 c5 hz5 hb5
    repeat' (first | apply Jbq | apply Jbr | apply Jbs | apply Jbt | apply Jbu | (apply Jcg; (first | exact Jaa rfl | exact Jab rfl); exact rfl))
    refine TR_of (res1 rfl rfl) ⟨y, rfl, hyl, (c3.ext e4).then c5, some ad, c, lo, s, i + 1, h1, hb5, hr.ch c5 (by intro k _ _; simp only [Iv]; omega), by omega, hl⟩
  · repeat' (first | apply Jbq | apply Jbr | apply Jbs | apply Jbt | apply Jbu | apply Jbz | (apply Jcg; (first | exact Jaa rfl | exact Jab rfl); exact rfl))
    exact TR_of (res1 rfl rfl) ⟨x, rfl, hxl, c3, A, c, lo, s, i, h1, hb1, hr, hi, hl⟩
set_option maxHeartbeats 2000000 in
theorem l01Below_c {w : World} {g : Nat} {n : Int} (hcur : Cur w g) (hn : n ≤ 4611686018427387904) :
    Ret Try.prog 25 #[pt g, I n] w fun v w' => ∃ x : Int, v = I x ∧ 0 ≤ x ∧ (0 < n → x < n) ∧ (n ≤ 0 → x = 0) ∧ Ch (Iv g (g + 1)) w w' ∧ Cur w' g := by
  refine Ret_enter Try.func25 rfl rfl rfl ?_
  repeat' (first | apply Jbq | apply Jbr | apply Jbs | apply Jbt | apply Jbu | apply Jbv | apply Jbz | (apply Jcg; (first | exact Jaa rfl | exact Jab rfl | exact Jan rfl rfl); exact rfl) | (refine Jcx rfl (fun hb => ?_) (fun hb => ?_) <;> (try (exfalso; omega))))
  · exact TR_of (res1 rfl rfl) ⟨0, rfl, by omega, by omega, fun _ => rfl, Ch.refl _ _, hcur⟩
  · refine TL_call rfl en54 (l01Byte_c hcur) rfl rfl ?_
    rintro _ w1 ⟨x, rfl, hx, c1, hcur1⟩
    repeat' (first | apply Jbq | apply Jbr | apply Jbu | apply Jbv | (apply Jcg; (first | exact Jaa rfl | exact Jab rfl | exact Jbj rfl rfl (by omega)); exact rfl))
    have h1 := Int.emod_nonneg (x : Int) (show n ≠ 0 by omega)
    have h2 := Int.emod_lt_of_pos (x : Int) (show 0 < n by omega)
    exact TR_of (res1 rfl rfl) ⟨_, rfl, h1, fun _ => h2, by omega, c1, hcur1⟩
  · refine TL_call rfl en54 (l01Byte_c hcur) rfl rfl ?_
    rintro _ w1 ⟨x1, rfl, hx1, c1, hcur1⟩
    repeat' (first | apply Jbq | apply Jbr | apply Jbs | apply Jbt | (apply Jcg; (first | exact Jaa rfl | exact Jab rfl); exact rfl))
    refine TL_call rfl en54 (l01Byte_c hcur1) rfl rfl ?_
    rintro _ w2 ⟨x2, rfl, hx2, c2, hcur2⟩
    repeat' (first | apply Jbq | apply Jbr | apply Jbs | apply Jbt | (apply Jcg; (first | exact Jaa rfl | exact Jab rfl); exact rfl))
    refine TL_call rfl en54 (l01Byte_c hcur2) rfl rfl ?_
    rintro _ w3 ⟨x3, rfl, hx3, c3, hcur3⟩
    repeat' (first | apply Jbq | apply Jbr | apply Jbs | apply Jbt | (apply Jcg; (first | exact Jaa rfl | exact Jab rfl); exact rfl))
    refine TL_call rfl en54 (l01Byte_c hcur3) rfl rfl ?_
    rintro _ w4 ⟨x4, rfl, hx4, c4, hcur4⟩
    repeat' (first | apply Jbq | apply Jbr | apply Jbs | apply Jbt | apply Jbu | (apply Jcg; (first | exact Jaa rfl | exact Jab rfl | exact Jaf rfl rfl (by omega) | exact Jbj rfl rfl (by omega) | exact Jbk rfl rfl (by omega)); exact rfl))
    have h1 := Int.emod_nonneg ((x1 : Int) * 16777216 + (x2 : Int) * 65536 + (x3 : Int) * 256 + (x4 : Int)) (show n ≠ 0 by omega)
    have h2 := Int.emod_lt_of_pos ((x1 : Int) * 16777216 + (x2 : Int) * 65536 + (x3 : Int) * 256 + (x4 : Int)) (show 0 < n by omega)
    exact TR_of (res1 rfl rfl) ⟨_, rfl, h1, fun _ => h2, by omega, ((c1.then c2).then c3).then c4, hcur4⟩
set_option maxRecDepth 100000 in
set_option maxHeartbeats 4000000 in
theorem l01New_c {w : World} {lo hi : Nat} {v : Value} {s : List UInt8} (hR : RB w lo hi v s) (hl : s.length ≤ 1048576) :
    Ret Try.prog 23 #[v] w fun v' w' => ∃ g, v' = pt g ∧ Ext w w' ∧ w.heap.size ≤ g ∧ w'.heap.size = g + 1 ∧ Cur w' g := by
  obtain ⟨A, c, rfl, hc, hr⟩ := hR
  refine Ret_enter Try.func23 rfl rfl rfl ?_
  repeat' (first | apply Jbq | apply Jbr | apply Jbs | apply Jbt | apply Jby | (apply Jcg; (first | exact Jaa rfl | exact Jab rfl | exact Jac Us.h rfl | exact Jaf rfl rfl (by omega)); exact rfl))
  refine TC_loop (ι := Nat × Int) (fun x => [(0, .slice A s.length c), (3, I x.2), (4, I x.1)]) (fun x w' => x.1 ≤ s.length ∧ w = w') (fun x => s.length - x.1) (0, _) (subEnv_cons rfl (subEnv_cons rfl (subEnv_cons rfl (subEnv_nil _)))) ⟨Nat.zero_le _, rfl⟩ ?_
  rintro ⟨i, h⟩ _ ⟨hi, rfl⟩
  simp only at hi
  by_cases hlt : i < s.length ∧ i < 4000
  · obtain ⟨ad, rfl, hcell⟩ := hr.get hlt.1
    rw [u8s_get s hlt.1] at hcell
    have hx2 := (s.getD i 0).toNat_lt
    repeat' (first | apply Jbq | apply Jbr | apply Jbs | apply Jbt | apply Jbx | apply Jby | apply Jbz | (apply Jcg; (first | exact Jaa rfl | exact Jab rfl | exact Jac Us.h rfl | exact Jad rfl rfl | exact Jaf rfl rfl (by omega) | exact Jag Us.h Sz.h rfl rfl (by omega) | exact Jah rfl rfl | exact Jax Us.h Us.h rfl (by omega)); exact rfl) | refine Jch rfl rfl rfl ?_ | refine Jcg (Pu_mulw rfl rfl) rfl ?_ | refine Jcg (Pu_addw rfl rfl) rfl ?_ | refine Jcg (Pu_and rfl rfl) rfl ?_ | refine Jcg (Pu_load Fl.h rfl (fun _ e => by rw [e]; exact hcell)) rfl ?_ | (refine Jcs rfl rfl (fun hb => ?_) (fun hb => ?_) <;> (try (exfalso; omega))) | (refine Jcx rfl (fun hb => ?_) (fun hb => ?_) <;> (try (exfalso; omega))))
    exact TN_round (i + 1, _) (subEnv_cons rfl (subEnv_cons rfl (subEnv_cons rfl (subEnv_nil _)))) ⟨hlt.1, rfl⟩ (by simp only; omega)
  · repeat' (first | apply Jbq | apply Jbr | apply Jbs | apply Jbt | apply Jbu | apply Jca | apply Jcb | apply Jcc | (refine Jcf rfl ?_) | (apply Jcg; (first | exact Jaa rfl | exact Jab rfl | exact Jac Us.h rfl | exact Jad rfl rfl | exact Jah rfl rfl | exact Jai rfl rfl); exact rfl) | refine Jch rfl rfl rfl ?_ | refine Jci rfl rfl rfl rfl rfl ?_ | (refine Jcg (Pu_build (cs := [.slice A s.length c, I 0, I h]) rfl (by kernel_rfl)) rfl ?_) | (refine TL_box (cs := [.slice A s.length c, I 0, I h]) rfl rfl ?_; intro w1 g1 e1 hg1 hz1 hb1) | (refine Jcs rfl rfl (fun hb => ?_) (fun hb => ?_) <;> (try (exfalso; omega))) | (refine Jcx rfl (fun hb => ?_) (fun hb => ?_) <;> (try (exfalso; omega))))
    all_goals exact TR_of (res1 rfl rfl) ⟨g1, rfl, e1, by omega, hz1, A, c, lo, s, 0, h, hb1, (hr.ext e1).wide (Nat.le_refl _) (by have := hr.hi_le; omega) (by omega), Nat.zero_le _, hl⟩
set_option maxHeartbeats 2000000 in
theorem l01Bytes_c {w : World} {g : Nat} {most : Nat} (hcur : Cur w g) (hm : most ≤ 65536) :
    Ret Try.prog 55 #[pt g, I most] w fun v w' => ∃ s : List UInt8, s.length ≤ most ∧ Ch (Iv g (g + 1)) w w' ∧ OB w' w.heap.size w'.heap.size v s ∧ Cur w' g := by
  refine Ret_enter Try.func55 rfl rfl rfl ?_
  repeat' (first | apply Jbq | apply Jbr | apply Jbs | apply Jbt | (apply Jcg; (first | exact Jaa rfl | exact Jab rfl | exact Jaf rfl rfl (by omega)); exact rfl))
  refine TL_call rfl en25 (l01Below_c hcur (by omega)) rfl rfl ?_
  rintro _ w1 ⟨n, rfl, hn0, hn1, _, c1, hcur1⟩
  have hn1 := hn1 (by omega)
  have hg := hcur.lt
  repeat' (first | apply Jbq | apply Jbr | apply Jbs | apply Jbt | apply Jby | (apply Jcg; exact Jab rfl; exact rfl) | (refine TL_buildSlice0 Us.h Sz.h rfl ?_; intro w2 g2 e2 hg2 hz2 hown2))
  have hnew : OB w2 w.heap.size w2.heap.size (.slice (some ⟨g2, 0, none⟩) 0 0) [] := by
    have hs1 := c1.size
    exact ⟨_, _, rfl, hown2.wide (by omega) (by omega) (Nat.le_refl _)⟩
  refine TC_loop (ι := Nat × List UInt8 × Value) (fun x => [(0, pt g), (5, I n), (6, x.2.2), (7, I x.1)]) (fun x w' => (x.1 : Int) ≤ n ∧ x.2.1.length = x.1 ∧ Ch (Iv g (g + 1)) w w' ∧ OB w' w.heap.size w'.heap.size x.2.2 x.2.1 ∧ Cur w' g) (fun x => (n - x.1).toNat) (0, [], _) (subEnv_cons rfl (subEnv_cons rfl (subEnv_cons rfl (subEnv_cons rfl (subEnv_nil _)))))
    ⟨hn0, rfl, c1.ext e2, hnew, hcur1.ext e2⟩ ?_
  rintro ⟨k, s, va⟩ w3 ⟨hs, hsl, c3, ho3, hcur3⟩
  simp only at hs hsl ho3
  repeat' (first | apply Jbq | apply Jbr | apply Jbs | apply Jbt | (apply Jcg; (first | exact Jaa rfl | exact Jad rfl rfl); exact rfl))
  refine Jcx rfl (fun hb => ?_) (fun hb => ?_)
  · repeat' (first | apply Jbr | apply Jbs | apply Jbt | apply Jby | apply Jbz | (apply Jcg; exact Jaa rfl; exact rfl))
    refine TL_call rfl en54 (l01Byte_c hcur3) rfl rfl ?_
    rintro _ w4 ⟨x, rfl, hx, c4, hcur4⟩
    repeat' ((apply Jcg; exact Jaw Us.h Us.h rfl; exact rfl))
    refine TL_buildSlice Us.h Zi.h rfl rfl rfl rfl (fillu1 _) rfl rfl ?_
    intro w5 g5 e5 hg5 hz5 hown5
    have ho5 := (ho3.ch c4 (by intro k _ _; simp only [Iv]; omega)).ext e5
    refine TL_appendB Us.h rfl rfl ho5 (OB_new (s := [_]) rfl hown5 hg5 hz5).rd (by have := c3.size; have := c4.size; have := e5.size; omega) (by simp only [List.length_cons, List.length_nil]; omega) rfl ?_
    intro w6 v6 c6 ho6
    repeat' (first | apply Jbq | apply Jbr | apply Jbt | apply Jbx | (apply Jcg; (first | exact Jaa rfl | exact Jab rfl | exact Jaf rfl rfl (by omega)); exact rfl))
    exact TN_round (k + 1, s ++ [UInt8.ofNat ((x : Int) % 256).toNat], v6) (subEnv_cons rfl (subEnv_cons rfl (subEnv_cons rfl (subEnv_cons rfl (subEnv_nil _))))) ⟨by simp only; omega, by simp only [List.length_append, List.length_cons, List.length_nil]; omega, Own.step ((c3.then c4).ext e5) c6 (Nat.le_refl _), ho6, (hcur4.ext e5).ch c6 (by intro k _; simp only [Iv]; omega)⟩ (by simp only; omega)
  · repeat' (first | apply Jbq | apply Jbr | apply Jbs | apply Jbt | apply Jbu | apply Jca | apply Jcb | apply Jcc | (apply Jcg; (first | exact Jaa rfl | exact Jab rfl); exact rfl))
    exact TR_of (res1 rfl rfl) ⟨s, by omega, c3, ho3, hcur3⟩
theorem MakeNum_c {w : World} {lo hi : Nat} {v : Value} {s : List UInt8} {n : Int} (hR : RB w lo hi v s) (hl : s.length ≤ 1048576) (hn : n ≤ 4611686018427387904) :
    Ret Try.prog 20 #[v, I n] w fun v' w' => ∃ x : Int, v' = I x ∧ 0 ≤ x ∧ (0 < n → x < n) ∧ (n ≤ 0 → x = 0) ∧ Ext w w' := by
  refine Ret_enter Try.func20 rfl rfl rfl ?_
  repeat' (first | apply Jbq | apply Jbr | apply Jbs | apply Jbt | (apply Jcg; (first | exact Jaa rfl | exact Jab rfl); exact rfl))
  refine TL_call rfl en23 (l01New_c hR hl) rfl rfl ?_
  rintro _ w1 ⟨g, rfl, e1, hg, hz1, hcur⟩
  obtain ⟨A, c, lo2, s2, i, h, hb, hr, hi2, hl2⟩ := hcur
  repeat' (first | apply Jbq | apply Jbr | apply Jbs | apply Jbt | (apply Jcg; (first | exact Jaa rfl | exact Jab rfl | exact Jba rfl | (apply Jbl; exact Us.h; exact rfl; exact Sz.h; exact rfl)); exact rfl) | refine Jcg (Pu_load Fl.h rfl (fun _ e => by rw [e]; exact hb.ld rfl)) rfl ?_ | refine Jcg (Pu_addw rfl rfl) rfl ?_)
  refine TL_store rfl rfl Sz.h rfl hb rfl ?_
  intro w2 c2 hz2 hb2
  have hcur2 : Cur w2 g := ⟨A, c, lo2, s2, i, _, hb2, hr.ch c2 (by intro k _ _; simp only [Iv]; omega), hi2, hl2⟩
  repeat' (first | apply Jbq | apply Jbr | apply Jbs | apply Jbt | (apply Jcg; exact Jaa rfl; exact rfl))
  refine TL_call rfl en25 (l01Below_c hcur2 hn) rfl rfl ?_
  rintro _ w3 ⟨x, rfl, h0, h1, h2, c3, _⟩
  repeat' (first | apply Jbq | apply Jbr | apply Jbu | (apply Jcg; exact Jab rfl; exact rfl))
  exact TR_of (res1 rfl rfl) ⟨x, rfl, h0, h1, h2, Ext.then_iv (Ext.then_iv e1 c2 hg) c3 hg⟩
end Go.Proofs.Ytggaghghclomkaa

/- Contracts of the functions that only compute: ranges, runes, names, entries. -/
namespace Go.Proofs.Ytggaghghclomkaa
open Go.RowKit
attribute [local irreducible] TL TC TN TX TR TQ Pu Ret

def inB (n lo hi : Int) : Bool := decide (lo ≤ n ∧ n ≤ hi)
def pRuneOk (r : Int) : Bool := decide (0 ≤ r ∧ r ≤ 1114111 ∧ (r < 55296 ∨ 57343 < r))
def pPrintable (r : Int) : Bool := decide (32 ≤ r ∧ r ≤ 1114111 ∧ (r < 55296 ∨ 57343 < r) ∧ (r < 127 ∨ 159 < r))
def pClass (r : Int) : Int := if r = 9 ∨ r = 10 ∨ r = 32 then 0 else if (97 ≤ r ∧ r ≤ 122) ∨ (65 ≤ r ∧ r ≤ 90) ∨ (48 ≤ r ∧ r ≤ 57) ∨ r = 95 ∨ (159 < r ∧ pPrintable r = true) then 1 else 2
def okByte (b : UInt8) : Bool := decide (97 ≤ (b.toNat : Int) ∧ (b.toNat : Int) ≤ 122)
def pName (s : List UInt8) : Bool := decide (1 ≤ s.length ∧ s.length ≤ 12) && s.all okByte
def pEntry (num : Int) (text : List UInt8) : Bool := decide (1 ≤ num ∧ num ≤ 1000000000 ∧ 1 ≤ text.length ∧ text.length ≤ 1000)
theorem boolv {a b : Bool} (h : a = true ↔ b = true) : Value.bool a = Value.bool b := by rw [Bool.eq_iff_iff.2 h]
theorem okTake {s : List UInt8} {k : Nat} (h : k < s.length) : (s.take (k + 1)).all okByte = ((s.take k).all okByte && okByte (at8 s k)) := by
  rw [List.take_succ_eq_append_getElem h, List.all_append]
  simp only [at8, Int.toNat_natCast, List.getD_eq_getElem?_getD, List.getElem?_eq_getElem h, Option.getD_some, List.all_cons, List.all_nil, Bool.and_true]
theorem okBad {s : List UInt8} {k : Nat} (h : k < s.length) (hb : okByte (at8 s k) = false) : s.all okByte = false := by
  rw [List.all_eq_false]
  refine ⟨s[k], List.getElem_mem h, ?_⟩
  simpa [at8, List.getD_eq_getElem?_getD, List.getElem?_eq_getElem h] using hb

theorem in_c (n lo hi : Int) (w : World) : Ret Try.prog 45 #[I n, I lo, I hi] w fun v w' => v = .bool (inB n lo hi) ∧ w = w' := by
  refine Ret_enter Try.func45 rfl rfl rfl ?_
  repeat' (first | apply Jbq | apply Jbr | apply Jbs | apply Jbt | apply Jbu | (apply Jcg; (first | exact Jaa rfl | exact Jab rfl | exact Jah rfl rfl | exact Jai rfl rfl | exact Jan rfl rfl | exact Jao rfl rfl); exact rfl) | refine Jch rfl rfl rfl ?_ | refine Jci rfl rfl rfl rfl rfl ?_ | (refine Jcs rfl rfl (fun hb => ?_) (fun hb => ?_) <;> (try (exfalso; omega))))
  all_goals exact TR_of (res1 rfl rfl) ⟨boolv (by simp [inB]; omega), rfl⟩
theorem isLower_c (r : Int) (w : World) : Ret Try.prog 62 #[I r] w fun v w' => v = .bool (inB r 97 122) ∧ w = w' := by
  refine Ret_enter Try.func62 rfl rfl rfl ?_
  repeat' (first | apply Jbq | apply Jbr | apply Jbs | apply Jbt | apply Jbu | (apply Jcg; (first | exact Jaa rfl | exact Jab rfl); exact rfl) | (refine TL_call rfl en45 (in_c _ _ _ _) rfl rfl ?_; rintro _ _ ⟨rfl, rfl⟩))
  exact TR_of (res1 rfl rfl) ⟨rfl, rfl⟩
theorem specNameOk_c (s : List UInt8) (w : World) (hl : s.length ≤ 9223372036854775807) : Ret Try.prog 59 #[S s] w fun v w' => v = .bool (pName s) ∧ w = w' := by
  refine Ret_enter Try.func59 rfl rfl rfl ?_
  by_cases h : 1 ≤ s.length ∧ s.length ≤ 12
  · repeat' (first | apply Jbq | apply Jbr | apply Jbs | apply Jbt | apply Jby | apply Jbz | (apply Jcg; (first | exact Jaa rfl | exact Jab rfl | exact Jad rfl rfl | exact Jai rfl rfl | exact Jam rfl rfl | exact Jaq Us.h rfl); exact rfl) | refine Jch rfl rfl rfl ?_ | (refine Jcs rfl rfl (fun hb => ?_) (fun hb => ?_) <;> (try (exfalso; omega))) | (refine Jcx rfl (fun hb => ?_) (fun hb => ?_) <;> (try (exfalso; omega))))
    refine TC_loop (ι := Nat) (fun k => [(0, S s), (3, I k)]) (fun k w' => k ≤ s.length ∧ (s.take k).all okByte = true ∧ w = w') (fun k => s.length - k) 0 (subEnv_cons rfl (subEnv_cons rfl (subEnv_nil _))) ⟨Nat.zero_le _, by simp, rfl⟩ ?_
    rintro k _ ⟨hk, hall, rfl⟩
    by_cases hlt : k < s.length
    · have ht := okTake hlt
      repeat' (first | apply Jbq | apply Jbr | apply Jbs | apply Jbt | apply Jbu | apply Jbv | apply Jbw | apply Jbx | apply Jby | apply Jbz | (refine Jce rfl ?_) | (apply Jcg; (first | exact Jaa rfl | exact Jab rfl | exact Jad rfl rfl | exact Jaf rfl rfl (by omega) | exact Jah rfl rfl | exact Jai rfl rfl | exact Jam rfl rfl | exact Jaq Us.h rfl | exact Jbb Us.h rfl rfl (by omega)); exact rfl) | refine Jch rfl rfl rfl ?_ | refine Jci rfl rfl rfl rfl rfl ?_ | (refine Jcs rfl rfl (fun hb => ?_) (fun hb => ?_) <;> (try (exfalso; omega))) | (refine Jcx rfl (fun hb => ?_) (fun hb => ?_) <;> (try (exfalso; omega))))
      · exact TR_of (res1 rfl rfl) ⟨boolv (by have := okBad hlt (by simp [okByte]; omega); simp [pName, this]), rfl⟩
      · exact TR_of (res1 rfl rfl) ⟨boolv (by have := okBad hlt (by simp [okByte]; omega); simp [pName, this]), rfl⟩
      · exact TN_round (k + 1) (subEnv_cons rfl (subEnv_cons rfl (subEnv_nil _))) ⟨hlt, by rw [ht, hall]; simp [okByte]; omega, rfl⟩ (by omega)
    · obtain rfl : k = s.length := by omega
      repeat' (first | apply Jbq | apply Jbr | apply Jbs | apply Jbt | apply Jbu | apply Jca | apply Jcb | apply Jcc | (apply Jcg; (first | exact Jaa rfl | exact Jab rfl | exact Jad rfl rfl | exact Jaq Us.h rfl); exact rfl) | (refine Jcx rfl (fun hb => ?_) (fun hb => ?_) <;> (try (exfalso; omega))))
      exact TR_of (res1 rfl rfl) ⟨boolv (by rw [List.take_length] at hall; simp [pName, hall, h]), rfl⟩
  · have hp : pName s = false := by simp [pName]; omega
    repeat' (first | apply Jbq | apply Jbr | apply Jbs | apply Jbt | apply Jbu | apply Jbv | (refine Jce rfl ?_) | (apply Jcg; (first | exact Jaa rfl | exact Jab rfl | exact Jad rfl rfl | exact Jah rfl rfl | exact Jai rfl rfl | exact Jam rfl rfl | exact Jaq Us.h rfl); exact rfl) | refine Jch rfl rfl rfl ?_ | refine Jci rfl rfl rfl rfl rfl ?_ | (refine Jcs rfl rfl (fun hb => ?_) (fun hb => ?_) <;> (try (exfalso; omega))) | (refine Jcx rfl (fun hb => ?_) (fun hb => ?_) <;> (try (exfalso; omega))))
    all_goals exact TR_of (res1 rfl rfl) ⟨by rw [hp], rfl⟩
theorem implNameOk_c (s : List UInt8) (w : World) (hl : s.length ≤ 9223372036854775807) : Ret Try.prog 46 #[S s] w fun v w' => v = .bool (pName s) ∧ w = w' := by
  refine Ret_enter Try.func46 rfl rfl rfl ?_
  repeat' (first | apply Jbq | apply Jbr | apply Jbs | apply Jbt | (apply Jcg; (first | exact Jaa rfl | exact Jab rfl | exact Jaj rfl | exact Jaq Us.h rfl); exact rfl) | (refine TL_call rfl en45 (in_c _ _ _ _) rfl rfl ?_; rintro _ _ ⟨rfl, rfl⟩))
  by_cases h : 1 ≤ s.length ∧ s.length ≤ 12
  · rw [show inB (s.length : Int) 1 12 = true from by simp [inB]; omega]
    repeat' (first | apply Jbq | apply Jbr | apply Jbs | apply Jbt | apply Jby | apply Jbz | (refine Jcf rfl ?_) | (apply Jcg; exact Jab rfl; exact rfl))
    refine TC_loop (ι := Nat) (fun k => [(0, S s), (3, I k)]) (fun k w' => k ≤ s.length ∧ (s.take k).all okByte = true ∧ w = w') (fun k => s.length - k) 0 (subEnv_cons rfl (subEnv_cons rfl (subEnv_nil _))) ⟨Nat.zero_le _, by simp, rfl⟩ ?_
    rintro k _ ⟨hk, hall, rfl⟩
    by_cases hlt : k < s.length
    · have ht := okTake hlt
      repeat' (first | apply Jbq | apply Jbr | apply Jbs | apply Jbt | (apply Jcg; (first | exact Jaa rfl | exact Jad rfl rfl | exact Jaq Us.h rfl); exact rfl))
      refine Jce (by rw [show decide ((k : Int) < (s.length : Int)) = true from by simpa using hlt]; rfl) ?_
      have hcb : (0 : Int) ≤ ((at8 s k).toNat : Int) ∧ ((at8 s k).toNat : Int) ≤ 255 := by have := (at8 s k).toNat_lt; omega
      repeat' (first | apply Jbq | apply Jbr | apply Jbs | apply Jbt | apply Jby | apply Jbz | (apply Jcg; (first | exact Jaa rfl | exact Jaj rfl | exact Jax Us.h Us.h rfl (by omega) | exact Jbb Us.h rfl rfl (by omega)); exact rfl) | (refine TL_call rfl en62 (isLower_c _ _) rfl rfl ?_; rintro _ _ ⟨rfl, rfl⟩))
      cases hb : inB ((at8 s k).toNat : Int) 97 122
      · repeat' (first | apply Jbq | apply Jbr | apply Jbs | apply Jbt | apply Jbu | apply Jbv | apply Jbw | (refine Jce rfl ?_) | (apply Jcg; exact Jab rfl; exact rfl))
        exact TR_of (res1 rfl rfl) ⟨boolv (by have := okBad hlt (by simpa [okByte, inB] using hb); simp [pName, this]), rfl⟩
      · repeat' (first | apply Jbq | apply Jbr | apply Jbt | apply Jbx | apply Jbz | (refine Jcf rfl ?_) | (apply Jcg; (first | exact Jaa rfl | exact Jab rfl | exact Jaf rfl rfl (by omega)); exact rfl))
        exact TN_round (k + 1) (subEnv_cons rfl (subEnv_cons rfl (subEnv_nil _))) ⟨hlt, by rw [ht, hall]; simpa [okByte, inB] using hb, rfl⟩ (by omega)
    · obtain rfl : k = s.length := by omega
      repeat' (first | apply Jbq | apply Jbr | apply Jbs | apply Jbt | (apply Jcg; (first | exact Jaa rfl | exact Jad rfl rfl | exact Jaq Us.h rfl); exact rfl))
      refine Jcf (by rw [show decide ((s.length : Int) < (s.length : Int)) = false from by simp]; rfl) ?_
      repeat' (first | apply Jbq | apply Jbr | apply Jbs | apply Jbt | apply Jbu | apply Jca | apply Jcb | apply Jcc | (apply Jcg; exact Jab rfl; exact rfl))
      exact TR_of (res1 rfl rfl) ⟨boolv (by rw [List.take_length] at hall; simp [pName, hall, h]), rfl⟩
  · have hp : pName s = false := by simp [pName]; omega
    rw [show inB (s.length : Int) 1 12 = false from by simp [inB]; omega]
    repeat' (first | apply Jbq | apply Jbr | apply Jbs | apply Jbt | apply Jbu | apply Jbv | (refine Jce rfl ?_) | (apply Jcg; exact Jab rfl; exact rfl))
    exact TR_of (res1 rfl rfl) ⟨by rw [hp], rfl⟩
end Go.Proofs.Ytggaghghclomkaa

/- Contracts: numbers in bytes, checksums, digits. -/
namespace Go.Proofs.Ytggaghghclomkaa
open Go.RowKit
attribute [local irreducible] TL TC TN TX TR TQ TA Pu Ret

section
variable {P : Program} {C : World → Prop} {n : Nat} {l : Env} {dd : Option Nat} {ty : TypeId} {pos : String} {af : Array Edge} {v : Value}
/-- A call of a function that the model carries out itself. -/
theorem Pu_extern {f : FuncId} {xs : List Operand} {ats : Array TypeId} {vs : List Value} (hx : evs l xs = some vs) (hr : ∀ w, (callFunc f vs.toArray).run P w = .ok (.value v) w) :
    Pu P C n l ⟨dd, .call { callee := .value (.func f), args := xs.toArray, argTypes := ats }, ty, pos, af, none⟩ v := by
  unfold Pu
  intro a ha w _
  have hm : xs.toArray.map a.eval = vs.toArray := by rw [List.map_toArray, ha.evals hx]
  have hm' : #[] ++ xs.toArray.map a.eval ++ #[] = vs.toArray := by simpa using hm
  unfold execOp
  simp only [resolve, Act.eval, Deferred.ofValue, Sem.run_bind, Sem.run_pure, Result.andThen_ok, invoke]
  show (callFunc f (#[] ++ xs.toArray.map (fun x => a.eval x) ++ #[])).run P w = _
  rw [show (fun x => a.eval x) = a.eval from rfl, hm', hr w]
end
theorem l01Pow_c (k : Nat) (w : World) (hk : k ≤ 4) : Ret Try.prog 73 #[I k] w fun v w' => v = I (256 ^ k) ∧ w = w' := by
  refine Ret_enter Try.func73 rfl rfl rfl ?_
  repeat' (first | apply Jbq | apply Jbr | apply Jbs | apply Jbt | apply Jby | (apply Jcg; exact Jab rfl; exact rfl))
  refine TC_loop (ι := Nat) (fun i => [(0, I k), (3, I (256 ^ i)), (4, I i)]) (fun i w' => i ≤ k ∧ w = w') (fun i => k - i) 0 (subEnv_cons rfl (subEnv_cons rfl (subEnv_cons rfl (subEnv_nil _)))) ⟨Nat.zero_le _, rfl⟩ ?_
  rintro i _ ⟨hi, rfl⟩
  have hp := pow4 i (by omega)
  repeat' (first | apply Jbq | apply Jbr | apply Jbs | apply Jbt | (apply Jcg; (first | exact Jaa rfl | exact Jad rfl rfl); exact rfl))
  refine Jcx rfl (fun hb => ?_) (fun hb => ?_)
  · repeat' (first | apply Jbq | apply Jbr | apply Jbs | apply Jbt | apply Jbx | apply Jby | apply Jbz | (apply Jcg; (first | exact Jaa rfl | exact Jab rfl | exact Jaf rfl rfl (by omega) | exact Jbk rfl rfl (by omega)); exact rfl))
    exact TN_round (i + 1) (subEnv_cons rfl (subEnv_cons (congrArg (fun z => some (I z)) (Int.pow_succ _ _).symm) (subEnv_cons rfl (subEnv_nil _)))) ⟨by omega, rfl⟩ (by omega)
  · obtain rfl : i = k := by omega
    repeat' (first | apply Jbq | apply Jbr | apply Jbs | apply Jbt | apply Jbu | apply Jca | apply Jcb | apply Jcc | (apply Jcg; (first | exact Jaa rfl | exact Jab rfl); exact rfl))
    exact TR_of (res1 rfl rfl) ⟨rfl, rfl⟩
theorem shr_pow {n : Int} (k : Nat) (hk : k < 4) : n.fdiv (2 ^ (min (8 * (k : Int)).toNat IntKind.i64.bits)) = n / 256 ^ k := by
  rw [Int.fdiv_eq_ediv_of_nonneg _ (by exact Int.pow_nonneg (by omega))]
  congr 1
  match k, hk with
  | 0, _ | 1, _ | 2, _ | 3, _ => decide
theorem l01Pow_i {k : Int} (w : World) (hk : 0 ≤ k ∧ k ≤ 4) : Ret Try.prog 73 #[I k] w fun v w' => v = I (256 ^ k.toNat) ∧ w = w' := by
  obtain ⟨m, rfl⟩ := Int.eq_ofNat_of_zero_le hk.1
  exact l01Pow_c m w (by omega)
theorem pb_rem (x : Int) : UInt8.ofNat (x % 256 % 256).toNat = pb x := by unfold pb; rw [Int.emod_emod_of_dvd _ (Int.dvd_refl 256)]
theorem pPut_no {b : List UInt8} {n size : Int} (h : ¬ (1 ≤ size ∧ size ≤ 4 ∧ 0 ≤ n ∧ n < 256 ^ size.toNat ∧ (b.length : Int) + size ≤ 65536)) : pPut b n size = ([], false) := by unfold pPut; rw [if_neg h]
theorem pPut_yes {b : List UInt8} {n size : Int} (h : 1 ≤ size ∧ size ≤ 4 ∧ 0 ≤ n ∧ n < 256 ^ size.toNat ∧ (b.length : Int) + size ≤ 65536) : pPut b n size = (b ++ putR n size.toNat, true) := by unfold pPut; rw [if_pos h]
theorem in_t {n lo hi : Int} (w : World) (h : lo ≤ n ∧ n ≤ hi) : Ret Try.prog 45 #[I n, I lo, I hi] w fun v w' => v = .bool true ∧ w = w' := (in_c n lo hi w).mono fun v w' ⟨h1, h2⟩ => ⟨by rw [h1]; simp [inB, h], h2⟩
theorem in_f {n lo hi : Int} (w : World) (h : ¬ (lo ≤ n ∧ n ≤ hi)) : Ret Try.prog 45 #[I n, I lo, I hi] w fun v w' => v = .bool false ∧ w = w' := (in_c n lo hi w).mono fun v w' ⟨h1, h2⟩ => ⟨by rw [h1]; unfold inB; rw [decide_eq_false h], h2⟩
theorem shl_pow : ∀ (k : Nat), k ≤ 4 → IntKind.i64.wrap (1 * 2 ^ min (8 * (k : Int)).toNat IntKind.i64.bits) = 256 ^ k
  | 0, _ => by decide
  | 1, _ => by decide
  | 2, _ => by decide
  | 3, _ => by decide
  | 4, _ => by decide
  | k + 5, h => by omega
theorem pGet_no {b : List UInt8} {a size : Int} (h : ¬ (1 ≤ size ∧ size ≤ 4 ∧ 0 ≤ a ∧ a ≤ b.length - size)) : pGet b a size = (0, false) := by unfold pGet; rw [if_neg h]
theorem pGet_yes {b : List UInt8} {a size : Int} (h : 1 ≤ size ∧ size ≤ 4 ∧ 0 ≤ a ∧ a ≤ b.length - size) : pGet b a size = (getF b a.toNat size.toNat, true) := by unfold pGet; rw [if_pos h]
theorem pow3 : ∀ k : Nat, k ≤ 3 → (256 : Int) ^ k ≤ 16777216
  | 0, _ => by decide
  | 1, _ => by decide
  | 2, _ => by decide
  | 3, _ => by decide
  | k + 4, h => by omega
theorem getF_bound (b : List UInt8) (a : Nat) {k : Nat} (hk : k < 4) : 0 ≤ getF b a k ∧ getF b a k < 16777216 := by
  have h := getF_lt b a k
  refine ⟨getF_nn b a k, ?_⟩
  have := pow3 k (by omega)
  omega
theorem bit_or8 (m : Int) (x : UInt8) (h0 : 0 ≤ m) (h1 : m < 16777216) : bitv .or .i64 (IntKind.i64.wrap (m * 2 ^ min (8 : Int).toNat IntKind.i64.bits)) (x.toNat : Int) = m * 256 + x.toNat := by
  have hx := x.toNat_lt
  obtain ⟨a, rfl⟩ := Int.eq_ofNat_of_zero_le h0
  have e1 : IntKind.i64.wrap ((a : Int) * 2 ^ min (8 : Int).toNat IntKind.i64.bits) = ((a * 256 : Nat) : Int) := by
    rw [show min (8 : Int).toNat IntKind.i64.bits = 8 from by decide, IntWalk.i64_in _ (by omega)]; omega
  rw [e1]
  have e3 : a * 256 ||| x.toNat = a * 256 + x.toNat := by
    have := Nat.shiftLeft_add_eq_or_of_lt (i := 8) (b := x.toNat) (by omega) a
    rw [Nat.shiftLeft_eq] at this
    exact this.symm
  have e2 : (BitVec.ofInt 64 ((a * 256 : Nat) : Int) ||| BitVec.ofInt 64 (x.toNat : Int)).toNat = a * 256 + x.toNat := by
    rw [BitVec.ofInt_natCast, BitVec.ofInt_natCast, BitVec.toNat_or, BitVec.toNat_ofNat, BitVec.toNat_ofNat, Nat.mod_eq_of_lt (by omega), Nat.mod_eq_of_lt (by omega), e3]
  show IntKind.i64.wrap (((BitVec.ofInt 64 ((a * 256 : Nat) : Int) ||| BitVec.ofInt 64 (x.toNat : Int)).toNat : Nat) : Int) = _
  rw [e2, IntWalk.i64_in _ (by omega)]; omega
end Go.Proofs.Ytggaghghclomkaa

/- Contracts of the laws' own helpers on entries. -/
namespace Go.Proofs.Ytggaghghclomkaa
open Go.RowKit
attribute [local irreducible] TL TC TN TX TR TQ Pu Ret

end Go.Proofs.Ytggaghghclomkaa

/- Operations on a disk: their values, the laws' helpers on them, whether they are right. -/
namespace Go.Proofs.Ytggaghghclomkaa
open Go.RowKit
attribute [local irreducible] TL TC TN TX TR TQ TA Pu Ret

structure OpD where
  kind : Int
  name : List UInt8
  to : List UInt8
  size : Int
  data : List UInt8
def opC (o : OpD) (v : Value) : List Value := [I o.kind, S o.name, S o.to, I o.size, v]
def OpD.fits (o : OpD) : Prop := (-9223372036854775808 ≤ o.kind ∧ o.kind ≤ 9223372036854775807) ∧ (-9223372036854775808 ≤ o.size ∧ o.size ≤ 9223372036854775807) ∧ o.name.length ≤ 9223372036854775807 ∧ o.to.length ≤ 9223372036854775807
def pOp (o : OpD) : Bool :=
  decide (1 ≤ o.kind ∧ o.kind ≤ 7) && (if o.kind = 7 then decide (o.name = []) else pName o.name) && (if o.kind = 5 then pName o.to else decide (o.to = [])) &&
    (if o.kind = 4 then decide (0 ≤ o.size ∧ o.size ≤ 60000) else decide (o.size = 0)) && decide (o.data.length ≤ 60000 ∧ (o.kind = 2 ∨ o.data.length = 0))
set_option maxRecDepth 100000 in
set_option maxHeartbeats 8000000 in
theorem specOpOk_c {w : World} {lo hi : Nat} {v : Value} {o : OpD} (h : RB w lo hi v o.data) (hf : o.fits) :
    Ret Try.prog 36 #[.agg (opC o v).toArray] w fun v' w' => v' = .bool (pOp o) ∧ Ext w w' := by
  obtain ⟨_, _, hn, ht⟩ := hf
  obtain ⟨kind, name, to, size, data⟩ := o
  simp only at hn ht h
  obtain ⟨A, c, rfl, _, _⟩ := h
  refine Ret_enter Try.func36 rfl rfl rfl ?_
  repeat' (first | apply Jbs | apply Jbt)
  refine TL_box (cs := opC ⟨kind, name, to, size, data⟩ (.slice A data.length c)) rfl rfl ?_
  intro w1 g e1 hg hz hbk
  clear hg hz
  repeat' (first | apply Jbq | apply Jbr | apply Jbs | apply Jbt | apply Jbu | apply Jbv | apply Jbz | (refine Jce rfl ?_) | (refine Jcf rfl ?_) | (apply Jcg; (first | exact Jaa rfl | exact Jab rfl | exact Jac Us.h rfl | exact Jad rfl rfl | exact Jah rfl rfl | exact Jai rfl rfl | exact Jaj rfl | exact Jak rfl rfl | exact Jal rfl rfl | exact Jam rfl rfl | exact Jan rfl rfl | exact Jat rfl rfl | (apply Jbl; exact Us.h; exact rfl; exact Sz.h; exact rfl)); exact rfl) | refine Jch rfl rfl rfl ?_ | refine Jci rfl rfl rfl rfl rfl ?_ | refine Jcj rfl rfl rfl rfl ?_ | refine Jcg (Pu_load Fl.h rfl (fun _ e => by rw [e]; exact hbk.ld rfl)) rfl ?_ | (refine TL_call rfl en59 (specNameOk_c _ _ (by assumption)) rfl rfl ?_; rintro _ _ ⟨rfl, rfl⟩) | (refine Jcs rfl rfl (fun hb => ?_) (fun hb => ?_) <;> (try (exfalso; omega))) | (refine Jct rfl rfl (fun hb => ?_) (fun hb => ?_) <;> (try (exfalso; omega))) | refine Jcr rfl rfl (fun hb => ?_) (fun hb => ?_) | (refine Jcx rfl (fun hb => ?_) (fun hb => ?_) <;> (try (exfalso; omega))) | (refine Jcy rfl (fun hb => ?_) (fun hb => ?_) <;> (try (exfalso; omega))) | refine Jcz rfl (fun hb => ?_) (fun hb => ?_))
  all_goals (refine TR_of (res1 rfl rfl) ⟨boolv ?_, e1⟩; clear hbk e1; simp only [pOp]; generalize data.length = n at *; simp_all [inB]; try omega)
set_option maxRecDepth 100000 in
set_option maxHeartbeats 8000000 in
theorem implOpOk_c {w : World} {lo hi : Nat} {v : Value} {o : OpD} (h : RB w lo hi v o.data) (hf : o.fits) :
    Ret Try.prog 27 #[.agg (opC o v).toArray] w fun v' w' => v' = .bool (pOp o) ∧ Ext w w' := by
  obtain ⟨_, _, hn, ht⟩ := hf
  obtain ⟨kind, name, to, size, data⟩ := o
  simp only at hn ht h
  obtain ⟨A, c, rfl, _, _⟩ := h
  refine Ret_enter Try.func27 rfl rfl rfl ?_
  repeat' (first | apply Jbs | apply Jbt)
  refine TL_box (cs := opC ⟨kind, name, to, size, data⟩ (.slice A data.length c)) rfl rfl ?_
  intro w1 g e1 hg hz hbk
  clear hg hz
  repeat' (first | apply Jbq | apply Jbr | apply Jbs | apply Jbt | apply Jbu | apply Jbv | apply Jbz | (refine Jce rfl ?_) | (refine Jcf rfl ?_) | (apply Jcg; (first | exact Jaa rfl | exact Jab rfl | exact Jac Us.h rfl | exact Jah rfl rfl | exact Jai rfl rfl | exact Jaj rfl | exact Jak rfl rfl | exact Jal rfl rfl | exact Jan rfl rfl | exact Jat rfl rfl | (apply Jbl; exact Us.h; exact rfl; exact Sz.h; exact rfl)); exact rfl) | refine Jch rfl rfl rfl ?_ | refine Jci rfl rfl rfl rfl rfl ?_ | refine Jcj rfl rfl rfl rfl ?_ | refine Jcg (Pu_load Fl.h rfl (fun _ e => by rw [e]; exact hbk.ld rfl)) rfl ?_ | (refine TL_call rfl en46 (implNameOk_c _ _ (by assumption)) rfl rfl ?_; rintro _ _ ⟨rfl, rfl⟩) | (refine TL_call rfl en45 (in_c _ _ _ _) rfl rfl ?_; rintro _ _ ⟨rfl, rfl⟩) | (refine Jcs rfl rfl (fun hb => ?_) (fun hb => ?_) <;> (try (exfalso; omega))) | (refine Jct rfl rfl (fun hb => ?_) (fun hb => ?_) <;> (try (exfalso; omega))) | refine Jcr rfl rfl (fun hb => ?_) (fun hb => ?_) | (refine Jcy rfl (fun hb => ?_) (fun hb => ?_) <;> (try (exfalso; omega))) | refine Jcz rfl (fun hb => ?_) (fun hb => ?_))
  all_goals (refine TR_of (res1 rfl rfl) ⟨boolv ?_, e1⟩; clear hbk e1; simp only [pOp]; generalize data.length = n at *; simp_all [inB]; try omega)
end Go.Proofs.Ytggaghghclomkaa

/- Rows whose elements are several cells. No condition. -/
namespace Go.Proofs.Ytggaghghclomkaa
open Go.RowKit

def setL : List Value → Nat → List Value → List Value
  | xs, _, [] => xs
  | xs, o, v :: r => setL (xs.set o v) (o + 1) r
theorem setL_length : ∀ (us xs : List Value) (o : Nat), (setL xs o us).length = xs.length
  | [], _, _ => rfl
  | v :: r, xs, o => by rw [setL, setL_length r]; simp
theorem setL_over (ys xs : List Value) (hl : ys.length = xs.length) : ∀ (us : List Value) (k : Nat), (∀ j, j < us.length → us[j]? = ys[k + j]?) → k + us.length ≤ xs.length → setL (overTo ys xs k) k us = overTo ys xs (k + us.length)
  | [], k, _, _ => rfl
  | v :: r, k, h, hk => by
    simp only [List.length_cons] at hk h
    have h0 := h 0 (by omega)
    simp only [List.getElem?_cons_zero, Nat.add_zero] at h0
    rw [setL]
    have hv : v = ys.getD k undef := by rw [List.getD_eq_getElem?_getD, ← h0]; rfl
    rw [hv, overTo_set ys xs k (by omega) hl, setL_over ys xs hl r (k + 1) (fun j hj => by
      have := h (j + 1) (by omega)
      rw [List.getElem?_cons_succ] at this
      rw [this, show k + (j + 1) = k + 1 + j by omega]) (by omega)]
    rw [List.length_cons, show k + 1 + r.length = k + (r.length + 1) by omega]
section
variable {w w' : World} {lo hi size m c g : Nat} {e : TypeId} {xs : List Value}
theorem Own.storedL : ∀ (us : List Value) (off : Nat) (w : World) (xs : List Value), Own w lo hi e size (some ⟨g, 0, none⟩) m c xs → Own (w.setCells g off us) lo hi e size (some ⟨g, 0, none⟩) m c (setL xs off us) ∧ Ch (Iv g (g + 1)) w (w.setCells g off us) ∧ (w.setCells g off us).heap.size = w.heap.size
  | [], off, w, xs, h => ⟨h, Ch.refl _ _, rfl⟩
  | v :: r, off, w, xs, h => by
    have h1 : Own (w.setCell ⟨g, off, none⟩ v) lo hi e size (some ⟨g, 0, none⟩) m c (xs.set off v) := ⟨by simpa using h.hi_le, (h.row.stored off v).1, h.lt⟩
    have c1 : Ch (Iv g (g + 1)) w (w.setCell ⟨g, off, none⟩ v) := ⟨rfl, rfl, rfl, by simp, fun k _ hk => heap_setCell_other w ⟨g, off, none⟩ k v (fun e => hk (by simp [Iv, e]))⟩
    obtain ⟨h2, c2, z2⟩ := Own.storedL r (off + 1) _ _ h1
    exact ⟨h2, c1.then c2, by rw [show (w.setCells g off (v :: r)) = (w.setCell ⟨g, off, none⟩ v).setCells g (off + 1) r from rfl, z2]; simp⟩
end
section
variable {P : Program} {L : List Oper} {Q : Exit → Act → World → Prop} {n : Nat} {l : Env} {w : World} {rest : List Oper} {ty t e : TypeId} {pos : String} {af : Array Edge} {x y : Operand}
/-- A value of several cells goes into an own row. -/
theorem TL_storeOwnAgg {g lo hi m c size off : Nat} {xs us : List Value} {ad : Addr} (hx : ev l x = some (.pointer (some ad))) (had : ad = ⟨g, off, none⟩) (hy : ev l y = some (.agg us.toArray)) (hz : (P.info? t).map (·.size) = some us.length) (hv : us.all (·.oneCell') = true)
    (ho : Own w lo hi e size (some ⟨g, 0, none⟩) m c xs) (hoff : off + us.length ≤ m * size)
    (h : ∀ w', Ch (Iv g (g + 1)) w w' → w'.heap.size = w.heap.size → Own w' lo hi e size (some ⟨g, 0, none⟩) m c (setL xs off us) → TL P L Q rest n l w') :
    TL P L Q (⟨none, .store t x y, ty, pos, af, none⟩ :: rest) n l w := by
  subst had
  have hlen := ho.len
  obtain ⟨h1, h2, h3⟩ := Own.storedL us off w xs ho
  refine TL_skipped (w' := w.setCells g off us) rfl rfl (fun a ha => ?_) (h _ h2 h3 h1)
  have := run_storeAt_mid (P := P) w g off t us.toArray (fun j hj => ⟨by rw [ho.row.cellAt (off + j) (by simp at hj; omega), List.getElem?_eq_getElem (by simp at hj; omega)]; rfl, ho.row.frozenAt _⟩) (by simpa using hz) (by simpa using hv)
  simp [execOp, ha.eval hx, ha.eval hy, this]
end
/-- The cells of a list of elements, each of as many cells. -/
def cellsL {α : Type} (f : α → List Value) (l : List α) : List Value := l.flatMap f
theorem cellsL_length {α : Type} {f : α → List Value} {s : Nat} (hf : ∀ a, (f a).length = s) : ∀ l : List α, (cellsL f l).length = l.length * s
  | [] => by simp [cellsL]
  | a :: l => by
    have := cellsL_length hf l
    simp only [cellsL, List.flatMap_cons, List.length_append, List.length_cons, hf] at *
    rw [this, Nat.succ_mul]; omega
theorem cellsL_at {α : Type} {f : α → List Value} {s : Nat} (hf : ∀ a, (f a).length = s) : ∀ (l : List α) (k j : Nat) (h : k < l.length), j < s → (cellsL f l)[k * s + j]? = (f l[k])[j]?
  | [], k, j, h, _ => by simp at h
  | a :: l, 0, j, h, hj => by
    simp only [cellsL, List.flatMap_cons, Nat.zero_mul, Nat.zero_add]
    rw [List.getElem?_append_left (by rw [hf]; exact hj)]; rfl
  | a :: l, k + 1, j, h, hj => by
    have ih := cellsL_at hf l k j (by simpa using h) hj
    simp only [cellsL, List.flatMap_cons] at *
    rw [List.getElem?_append_right (by rw [hf, Nat.succ_mul]; omega), hf, show (k + 1) * s + j - s = k * s + j by rw [Nat.succ_mul]; omega, ih]
    rfl
theorem cellsL_take {α : Type} {f : α → List Value} {s : Nat} (hf : ∀ a, (f a).length = s) : ∀ (l : List α) (k : Nat), (cellsL f l).take (k * s) = cellsL f (l.take k)
  | [], k => by simp [cellsL]
  | a :: l, 0 => by simp [cellsL]
  | a :: l, k + 1 => by
    have ih := cellsL_take hf l k
    simp only [cellsL, List.flatMap_cons, List.take_succ_cons] at *
    rw [List.take_append, hf, List.take_of_length_le (by rw [hf, Nat.succ_mul]; omega), show (k + 1) * s - s = k * s by rw [Nat.succ_mul]; omega, ih]
theorem cellsL_drop {α : Type} {f : α → List Value} {s : Nat} (hf : ∀ a, (f a).length = s) : ∀ (l : List α) (k : Nat), (cellsL f l).drop (k * s) = cellsL f (l.drop k)
  | [], k => by simp [cellsL]
  | a :: l, 0 => by simp [cellsL]
  | a :: l, k + 1 => by
    have ih := cellsL_drop hf l k
    simp only [cellsL, List.flatMap_cons, List.drop_succ_cons] at *
    rw [List.drop_append, hf, List.drop_eq_nil_of_le (by rw [hf, Nat.succ_mul]; omega), show (k + 1) * s - s = k * s by rw [Nat.succ_mul]; omega, ih, List.nil_append]
theorem cellsL_append {α : Type} {f : α → List Value} (l m : List α) : cellsL f (l ++ m) = cellsL f l ++ cellsL f m := by simp [cellsL]
theorem cellsL_one {α : Type} {f : α → List Value} (hf : ∀ a, ∀ u ∈ f a, u.oneCell' = true) (l : List α) : ∀ u ∈ cellsL f l, u.oneCell' = true := by
  intro u hu
  simp only [cellsL, List.mem_flatMap] at hu
  obtain ⟨a, _, h⟩ := hu
  exact hf a u h
theorem Rd.elem {α : Type} {w : World} {lo hi s : Nat} {A : Option Addr} {f : α → List Value} {l : List α} (hf : ∀ a, (f a).length = s) (h : Rd w lo hi s A l.length (cellsL f l)) {k : Nat} (hk : k < l.length) :
    ∃ ad, A = some ad ∧ ∀ j u, (f l[k])[j]? = some u → w.cell? ((ad.add (k * s)).add j) = some u := by
  obtain ⟨ad, e, _, _, hc⟩ := h.at_ (by omega)
  refine ⟨ad, e, fun j u hu => ?_⟩
  have hj : j < s := by have := (List.getElem?_eq_some_iff.1 hu).1; rwa [hf] at this
  rw [add_of_add]
  exact hc _ u (by rw [cellsL_at hf l k j hk hj]; exact hu)
end Go.Proofs.Ytggaghghclomkaa
