/- Closed facts on the program's types and functions, each asked of the kernel. -/
import Derived.Test.YthdfbaoenjhkbaaProg
import Derived.Test.YthdfbaoenjhkbaaMake
import Derived.KernelRfl
namespace Go.Proofs.Ythdfbaoenjhkbaa
class Sz (P : Program) (t : TypeId) (n : outParam Nat) : Prop where
  h : (P.info? t).map (·.size) = some n
class Us (P : Program) (t : TypeId) (d : outParam TypeDesc) : Prop where
  h : P.underlying t = some d
@[reducible] def descOf {P : Program} {t : TypeId} {d : TypeDesc} (_ : P.underlying t = some d) : TypeDesc := d
class Inf (P : Program) (t : TypeId) (z : outParam (Option Value)) (s b : outParam Nat) : Prop where
  h : (P.info? t).map (fun i => (i.zero, i.size, i.bytes)) = some (z, s, b)
class Zs (P : Program) (t : TypeId) (z : outParam Value) : Prop where
  h : (P.info? t).bind (·.zero) = some z
class Zi (P : Program) (t : TypeId) (z : outParam (Option Value)) (s : outParam Nat) : Prop where
  h : (P.info? t).map (fun i => (i.zero, i.size)) = some (z, s)
class Fl (P : Program) (t : TypeId) : Prop where
  h : flat P t = true
theorem inf2 : (Try.prog.info? 2).map (fun i => (i.zero, i.size, i.bytes)) = some (some (.int .i64 0), 1, 8) := by kernel_rfl
theorem sz2 : (Try.prog.info? 2).map (·.size) = some 1 := by kernel_rfl
theorem zs2 : (Try.prog.info? 2).bind (·.zero) = some (.int .i64 0) := by kernel_rfl
theorem zi2 : (Try.prog.info? 2).map (fun i => (i.zero, i.size)) = some (some (.int .i64 0), 1) := by kernel_rfl
instance isz2 : Sz Try.prog 2 1 := ⟨sz2⟩
instance iin2 : Inf Try.prog 2 (some (.int .i64 0)) 1 8 := ⟨inf2⟩
instance izs2 : Zs Try.prog 2 (.int .i64 0) := ⟨zs2⟩
instance izi2 : Zi Try.prog 2 (some (.int .i64 0)) 1 := ⟨zi2⟩
theorem inf3 : (Try.prog.info? 3).map (fun i => (i.zero, i.size, i.bytes)) = some (some (.int .i64 0), 1, 8) := by kernel_rfl
theorem sz3 : (Try.prog.info? 3).map (·.size) = some 1 := by kernel_rfl
theorem zs3 : (Try.prog.info? 3).bind (·.zero) = some (.int .i64 0) := by kernel_rfl
theorem zi3 : (Try.prog.info? 3).map (fun i => (i.zero, i.size)) = some (some (.int .i64 0), 1) := by kernel_rfl
instance isz3 : Sz Try.prog 3 1 := ⟨sz3⟩
instance iin3 : Inf Try.prog 3 (some (.int .i64 0)) 1 8 := ⟨inf3⟩
instance izs3 : Zs Try.prog 3 (.int .i64 0) := ⟨zs3⟩
instance izi3 : Zi Try.prog 3 (some (.int .i64 0)) 1 := ⟨zi3⟩
theorem inf4 : (Try.prog.info? 4).map (fun i => (i.zero, i.size, i.bytes)) = some (some (.bool false), 1, 1) := by kernel_rfl
theorem sz4 : (Try.prog.info? 4).map (·.size) = some 1 := by kernel_rfl
theorem zs4 : (Try.prog.info? 4).bind (·.zero) = some (.bool false) := by kernel_rfl
theorem zi4 : (Try.prog.info? 4).map (fun i => (i.zero, i.size)) = some (some (.bool false), 1) := by kernel_rfl
instance isz4 : Sz Try.prog 4 1 := ⟨sz4⟩
instance iin4 : Inf Try.prog 4 (some (.bool false)) 1 1 := ⟨inf4⟩
instance izs4 : Zs Try.prog 4 (.bool false) := ⟨zs4⟩
instance izi4 : Zi Try.prog 4 (some (.bool false)) 1 := ⟨zi4⟩
theorem inf5 : (Try.prog.info? 5).map (fun i => (i.zero, i.size, i.bytes)) = some (some (.int .u8 0), 1, 1) := by kernel_rfl
theorem sz5 : (Try.prog.info? 5).map (·.size) = some 1 := by kernel_rfl
theorem zs5 : (Try.prog.info? 5).bind (·.zero) = some (.int .u8 0) := by kernel_rfl
theorem zi5 : (Try.prog.info? 5).map (fun i => (i.zero, i.size)) = some (some (.int .u8 0), 1) := by kernel_rfl
instance isz5 : Sz Try.prog 5 1 := ⟨sz5⟩
instance iin5 : Inf Try.prog 5 (some (.int .u8 0)) 1 1 := ⟨inf5⟩
instance izs5 : Zs Try.prog 5 (.int .u8 0) := ⟨zs5⟩
instance izi5 : Zi Try.prog 5 (some (.int .u8 0)) 1 := ⟨zi5⟩
theorem inf9 : (Try.prog.info? 9).map (fun i => (i.zero, i.size, i.bytes)) = some (some (.string ByteArray.empty), 1, 16) := by kernel_rfl
theorem sz9 : (Try.prog.info? 9).map (·.size) = some 1 := by kernel_rfl
theorem zs9 : (Try.prog.info? 9).bind (·.zero) = some (.string ByteArray.empty) := by kernel_rfl
theorem zi9 : (Try.prog.info? 9).map (fun i => (i.zero, i.size)) = some (some (.string ByteArray.empty), 1) := by kernel_rfl
instance isz9 : Sz Try.prog 9 1 := ⟨sz9⟩
instance iin9 : Inf Try.prog 9 (some (.string ByteArray.empty)) 1 16 := ⟨inf9⟩
instance izs9 : Zs Try.prog 9 (.string ByteArray.empty) := ⟨zs9⟩
instance izi9 : Zi Try.prog 9 (some (.string ByteArray.empty)) 1 := ⟨zi9⟩
theorem inf15 : (Try.prog.info? 15).map (fun i => (i.zero, i.size, i.bytes)) = some (some (.pointer none), 1, 8) := by kernel_rfl
theorem sz15 : (Try.prog.info? 15).map (·.size) = some 1 := by kernel_rfl
theorem zs15 : (Try.prog.info? 15).bind (·.zero) = some (.pointer none) := by kernel_rfl
theorem zi15 : (Try.prog.info? 15).map (fun i => (i.zero, i.size)) = some (some (.pointer none), 1) := by kernel_rfl
instance isz15 : Sz Try.prog 15 1 := ⟨sz15⟩
instance iin15 : Inf Try.prog 15 (some (.pointer none)) 1 8 := ⟨inf15⟩
instance izs15 : Zs Try.prog 15 (.pointer none) := ⟨zs15⟩
instance izi15 : Zi Try.prog 15 (some (.pointer none)) 1 := ⟨zi15⟩
theorem inf16 : (Try.prog.info? 16).map (fun i => (i.zero, i.size, i.bytes)) = some (some (.pointer none), 1, 8) := by kernel_rfl
theorem sz16 : (Try.prog.info? 16).map (·.size) = some 1 := by kernel_rfl
theorem zs16 : (Try.prog.info? 16).bind (·.zero) = some (.pointer none) := by kernel_rfl
theorem zi16 : (Try.prog.info? 16).map (fun i => (i.zero, i.size)) = some (some (.pointer none), 1) := by kernel_rfl
instance isz16 : Sz Try.prog 16 1 := ⟨sz16⟩
instance iin16 : Inf Try.prog 16 (some (.pointer none)) 1 8 := ⟨inf16⟩
instance izs16 : Zs Try.prog 16 (.pointer none) := ⟨zs16⟩
instance izi16 : Zi Try.prog 16 (some (.pointer none)) 1 := ⟨zi16⟩
theorem inf17 : (Try.prog.info? 17).map (fun i => (i.zero, i.size, i.bytes)) = some (some (.pointer none), 1, 8) := by kernel_rfl
theorem sz17 : (Try.prog.info? 17).map (·.size) = some 1 := by kernel_rfl
theorem zs17 : (Try.prog.info? 17).bind (·.zero) = some (.pointer none) := by kernel_rfl
theorem zi17 : (Try.prog.info? 17).map (fun i => (i.zero, i.size)) = some (some (.pointer none), 1) := by kernel_rfl
instance isz17 : Sz Try.prog 17 1 := ⟨sz17⟩
instance iin17 : Inf Try.prog 17 (some (.pointer none)) 1 8 := ⟨inf17⟩
instance izs17 : Zs Try.prog 17 (.pointer none) := ⟨zs17⟩
instance izi17 : Zi Try.prog 17 (some (.pointer none)) 1 := ⟨zi17⟩
theorem inf23 : (Try.prog.info? 23).map (fun i => (i.zero, i.size, i.bytes)) = some (some (.agg #[.int .i64 0, .string ByteArray.empty]), 2, 24) := by kernel_rfl
theorem sz23 : (Try.prog.info? 23).map (·.size) = some 2 := by kernel_rfl
theorem zs23 : (Try.prog.info? 23).bind (·.zero) = some (.agg #[.int .i64 0, .string ByteArray.empty]) := by kernel_rfl
theorem zi23 : (Try.prog.info? 23).map (fun i => (i.zero, i.size)) = some (some (.agg #[.int .i64 0, .string ByteArray.empty]), 2) := by kernel_rfl
instance isz23 : Sz Try.prog 23 2 := ⟨sz23⟩
instance iin23 : Inf Try.prog 23 (some (.agg #[.int .i64 0, .string ByteArray.empty])) 2 24 := ⟨inf23⟩
instance izs23 : Zs Try.prog 23 (.agg #[.int .i64 0, .string ByteArray.empty]) := ⟨zs23⟩
instance izi23 : Zi Try.prog 23 (some (.agg #[.int .i64 0, .string ByteArray.empty])) 2 := ⟨zi23⟩
theorem inf25 : (Try.prog.info? 25).map (fun i => (i.zero, i.size, i.bytes)) = some (some (.slice none 0 0), 1, 24) := by kernel_rfl
theorem sz25 : (Try.prog.info? 25).map (·.size) = some 1 := by kernel_rfl
theorem zs25 : (Try.prog.info? 25).bind (·.zero) = some (.slice none 0 0) := by kernel_rfl
theorem zi25 : (Try.prog.info? 25).map (fun i => (i.zero, i.size)) = some (some (.slice none 0 0), 1) := by kernel_rfl
instance isz25 : Sz Try.prog 25 1 := ⟨sz25⟩
instance iin25 : Inf Try.prog 25 (some (.slice none 0 0)) 1 24 := ⟨inf25⟩
instance izs25 : Zs Try.prog 25 (.slice none 0 0) := ⟨zs25⟩
instance izi25 : Zi Try.prog 25 (some (.slice none 0 0)) 1 := ⟨zi25⟩
theorem inf28 : (Try.prog.info? 28).map (fun i => (i.zero, i.size, i.bytes)) = some (some (.agg #[.int .i64 0, .string ByteArray.empty]), 2, 24) := by kernel_rfl
theorem sz28 : (Try.prog.info? 28).map (·.size) = some 2 := by kernel_rfl
theorem zs28 : (Try.prog.info? 28).bind (·.zero) = some (.agg #[.int .i64 0, .string ByteArray.empty]) := by kernel_rfl
theorem zi28 : (Try.prog.info? 28).map (fun i => (i.zero, i.size)) = some (some (.agg #[.int .i64 0, .string ByteArray.empty]), 2) := by kernel_rfl
instance isz28 : Sz Try.prog 28 2 := ⟨sz28⟩
instance iin28 : Inf Try.prog 28 (some (.agg #[.int .i64 0, .string ByteArray.empty])) 2 24 := ⟨inf28⟩
instance izs28 : Zs Try.prog 28 (.agg #[.int .i64 0, .string ByteArray.empty]) := ⟨zs28⟩
instance izi28 : Zi Try.prog 28 (some (.agg #[.int .i64 0, .string ByteArray.empty])) 2 := ⟨zi28⟩
theorem inf38 : (Try.prog.info? 38).map (fun i => (i.zero, i.size, i.bytes)) = some (some (.slice none 0 0), 1, 24) := by kernel_rfl
theorem sz38 : (Try.prog.info? 38).map (·.size) = some 1 := by kernel_rfl
theorem zs38 : (Try.prog.info? 38).bind (·.zero) = some (.slice none 0 0) := by kernel_rfl
theorem zi38 : (Try.prog.info? 38).map (fun i => (i.zero, i.size)) = some (some (.slice none 0 0), 1) := by kernel_rfl
instance isz38 : Sz Try.prog 38 1 := ⟨sz38⟩
instance iin38 : Inf Try.prog 38 (some (.slice none 0 0)) 1 24 := ⟨inf38⟩
instance izs38 : Zs Try.prog 38 (.slice none 0 0) := ⟨zs38⟩
instance izi38 : Zi Try.prog 38 (some (.slice none 0 0)) 1 := ⟨zi38⟩
theorem inf41 : (Try.prog.info? 41).map (fun i => (i.zero, i.size, i.bytes)) = some (some (.slice none 0 0), 1, 24) := by kernel_rfl
theorem sz41 : (Try.prog.info? 41).map (·.size) = some 1 := by kernel_rfl
theorem zs41 : (Try.prog.info? 41).bind (·.zero) = some (.slice none 0 0) := by kernel_rfl
theorem zi41 : (Try.prog.info? 41).map (fun i => (i.zero, i.size)) = some (some (.slice none 0 0), 1) := by kernel_rfl
instance isz41 : Sz Try.prog 41 1 := ⟨sz41⟩
instance iin41 : Inf Try.prog 41 (some (.slice none 0 0)) 1 24 := ⟨inf41⟩
instance izs41 : Zs Try.prog 41 (.slice none 0 0) := ⟨zs41⟩
instance izi41 : Zi Try.prog 41 (some (.slice none 0 0)) 1 := ⟨zi41⟩
theorem inf52 : (Try.prog.info? 52).map (fun i => (i.zero, i.size, i.bytes)) = some (some (.slice none 0 0), 1, 24) := by kernel_rfl
theorem sz52 : (Try.prog.info? 52).map (·.size) = some 1 := by kernel_rfl
theorem zs52 : (Try.prog.info? 52).bind (·.zero) = some (.slice none 0 0) := by kernel_rfl
theorem zi52 : (Try.prog.info? 52).map (fun i => (i.zero, i.size)) = some (some (.slice none 0 0), 1) := by kernel_rfl
instance isz52 : Sz Try.prog 52 1 := ⟨sz52⟩
instance iin52 : Inf Try.prog 52 (some (.slice none 0 0)) 1 24 := ⟨inf52⟩
instance izs52 : Zs Try.prog 52 (.slice none 0 0) := ⟨zs52⟩
instance izi52 : Zi Try.prog 52 (some (.slice none 0 0)) 1 := ⟨zi52⟩
theorem inf53 : (Try.prog.info? 53).map (fun i => (i.zero, i.size, i.bytes)) = some (some (.slice none 0 0), 1, 24) := by kernel_rfl
theorem sz53 : (Try.prog.info? 53).map (·.size) = some 1 := by kernel_rfl
theorem zs53 : (Try.prog.info? 53).bind (·.zero) = some (.slice none 0 0) := by kernel_rfl
theorem zi53 : (Try.prog.info? 53).map (fun i => (i.zero, i.size)) = some (some (.slice none 0 0), 1) := by kernel_rfl
instance isz53 : Sz Try.prog 53 1 := ⟨sz53⟩
instance iin53 : Inf Try.prog 53 (some (.slice none 0 0)) 1 24 := ⟨inf53⟩
instance izs53 : Zs Try.prog 53 (.slice none 0 0) := ⟨zs53⟩
instance izi53 : Zi Try.prog 53 (some (.slice none 0 0)) 1 := ⟨zi53⟩
theorem inf54 : (Try.prog.info? 54).map (fun i => (i.zero, i.size, i.bytes)) = some (some (.slice none 0 0), 1, 24) := by kernel_rfl
theorem sz54 : (Try.prog.info? 54).map (·.size) = some 1 := by kernel_rfl
theorem zs54 : (Try.prog.info? 54).bind (·.zero) = some (.slice none 0 0) := by kernel_rfl
theorem zi54 : (Try.prog.info? 54).map (fun i => (i.zero, i.size)) = some (some (.slice none 0 0), 1) := by kernel_rfl
instance isz54 : Sz Try.prog 54 1 := ⟨sz54⟩
instance iin54 : Inf Try.prog 54 (some (.slice none 0 0)) 1 24 := ⟨inf54⟩
instance izs54 : Zs Try.prog 54 (.slice none 0 0) := ⟨zs54⟩
instance izi54 : Zi Try.prog 54 (some (.slice none 0 0)) 1 := ⟨zi54⟩
theorem inf56 : (Try.prog.info? 56).map (fun i => (i.zero, i.size, i.bytes)) = some (some (.agg #[.int .i64 0, .int .i64 0, .int .i64 0, .slice none 0 0, .slice none 0 0, .slice none 0 0]), 6, 96) := by kernel_rfl
theorem sz56 : (Try.prog.info? 56).map (·.size) = some 6 := by kernel_rfl
theorem zs56 : (Try.prog.info? 56).bind (·.zero) = some (.agg #[.int .i64 0, .int .i64 0, .int .i64 0, .slice none 0 0, .slice none 0 0, .slice none 0 0]) := by kernel_rfl
theorem zi56 : (Try.prog.info? 56).map (fun i => (i.zero, i.size)) = some (some (.agg #[.int .i64 0, .int .i64 0, .int .i64 0, .slice none 0 0, .slice none 0 0, .slice none 0 0]), 6) := by kernel_rfl
instance isz56 : Sz Try.prog 56 6 := ⟨sz56⟩
instance iin56 : Inf Try.prog 56 (some (.agg #[.int .i64 0, .int .i64 0, .int .i64 0, .slice none 0 0, .slice none 0 0, .slice none 0 0])) 6 96 := ⟨inf56⟩
instance izs56 : Zs Try.prog 56 (.agg #[.int .i64 0, .int .i64 0, .int .i64 0, .slice none 0 0, .slice none 0 0, .slice none 0 0]) := ⟨zs56⟩
instance izi56 : Zi Try.prog 56 (some (.agg #[.int .i64 0, .int .i64 0, .int .i64 0, .slice none 0 0, .slice none 0 0, .slice none 0 0])) 6 := ⟨zi56⟩
theorem inf62 : (Try.prog.info? 62).map (fun i => (i.zero, i.size, i.bytes)) = some (some (.slice none 0 0), 1, 24) := by kernel_rfl
theorem sz62 : (Try.prog.info? 62).map (·.size) = some 1 := by kernel_rfl
theorem zs62 : (Try.prog.info? 62).bind (·.zero) = some (.slice none 0 0) := by kernel_rfl
theorem zi62 : (Try.prog.info? 62).map (fun i => (i.zero, i.size)) = some (some (.slice none 0 0), 1) := by kernel_rfl
instance isz62 : Sz Try.prog 62 1 := ⟨sz62⟩
instance iin62 : Inf Try.prog 62 (some (.slice none 0 0)) 1 24 := ⟨inf62⟩
instance izs62 : Zs Try.prog 62 (.slice none 0 0) := ⟨zs62⟩
instance izi62 : Zi Try.prog 62 (some (.slice none 0 0)) 1 := ⟨zi62⟩
theorem inf63 : (Try.prog.info? 63).map (fun i => (i.zero, i.size, i.bytes)) = some (some (.slice none 0 0), 1, 24) := by kernel_rfl
theorem sz63 : (Try.prog.info? 63).map (·.size) = some 1 := by kernel_rfl
theorem zs63 : (Try.prog.info? 63).bind (·.zero) = some (.slice none 0 0) := by kernel_rfl
theorem zi63 : (Try.prog.info? 63).map (fun i => (i.zero, i.size)) = some (some (.slice none 0 0), 1) := by kernel_rfl
instance isz63 : Sz Try.prog 63 1 := ⟨sz63⟩
instance iin63 : Inf Try.prog 63 (some (.slice none 0 0)) 1 24 := ⟨inf63⟩
instance izs63 : Zs Try.prog 63 (.slice none 0 0) := ⟨zs63⟩
instance izi63 : Zi Try.prog 63 (some (.slice none 0 0)) 1 := ⟨zi63⟩
theorem inf64 : (Try.prog.info? 64).map (fun i => (i.zero, i.size, i.bytes)) = some (some (.slice none 0 0), 1, 24) := by kernel_rfl
theorem sz64 : (Try.prog.info? 64).map (·.size) = some 1 := by kernel_rfl
theorem zs64 : (Try.prog.info? 64).bind (·.zero) = some (.slice none 0 0) := by kernel_rfl
theorem zi64 : (Try.prog.info? 64).map (fun i => (i.zero, i.size)) = some (some (.slice none 0 0), 1) := by kernel_rfl
instance isz64 : Sz Try.prog 64 1 := ⟨sz64⟩
instance iin64 : Inf Try.prog 64 (some (.slice none 0 0)) 1 24 := ⟨inf64⟩
instance izs64 : Zs Try.prog 64 (.slice none 0 0) := ⟨zs64⟩
instance izi64 : Zi Try.prog 64 (some (.slice none 0 0)) 1 := ⟨zi64⟩
theorem inf66 : (Try.prog.info? 66).map (fun i => (i.zero, i.size, i.bytes)) = some (some (.agg #[.int .i64 0, .int .i64 0, .int .i64 0, .slice none 0 0, .slice none 0 0, .slice none 0 0]), 6, 96) := by kernel_rfl
theorem sz66 : (Try.prog.info? 66).map (·.size) = some 6 := by kernel_rfl
theorem zs66 : (Try.prog.info? 66).bind (·.zero) = some (.agg #[.int .i64 0, .int .i64 0, .int .i64 0, .slice none 0 0, .slice none 0 0, .slice none 0 0]) := by kernel_rfl
theorem zi66 : (Try.prog.info? 66).map (fun i => (i.zero, i.size)) = some (some (.agg #[.int .i64 0, .int .i64 0, .int .i64 0, .slice none 0 0, .slice none 0 0, .slice none 0 0]), 6) := by kernel_rfl
instance isz66 : Sz Try.prog 66 6 := ⟨sz66⟩
instance iin66 : Inf Try.prog 66 (some (.agg #[.int .i64 0, .int .i64 0, .int .i64 0, .slice none 0 0, .slice none 0 0, .slice none 0 0])) 6 96 := ⟨inf66⟩
instance izs66 : Zs Try.prog 66 (.agg #[.int .i64 0, .int .i64 0, .int .i64 0, .slice none 0 0, .slice none 0 0, .slice none 0 0]) := ⟨zs66⟩
instance izi66 : Zi Try.prog 66 (some (.agg #[.int .i64 0, .int .i64 0, .int .i64 0, .slice none 0 0, .slice none 0 0, .slice none 0 0])) 6 := ⟨zi66⟩
theorem inf72 : (Try.prog.info? 72).map (fun i => (i.zero, i.size, i.bytes)) = some (some (.agg #[.int .i64 0, .int .i64 0, .int .i64 0, .slice none 0 0, .slice none 0 0, .slice none 0 0, .int .i64 0, .int .i64 0, .slice none 0 0, .int .i64 0]), 10, 144) := by kernel_rfl
theorem sz72 : (Try.prog.info? 72).map (·.size) = some 10 := by kernel_rfl
theorem zs72 : (Try.prog.info? 72).bind (·.zero) = some (.agg #[.int .i64 0, .int .i64 0, .int .i64 0, .slice none 0 0, .slice none 0 0, .slice none 0 0, .int .i64 0, .int .i64 0, .slice none 0 0, .int .i64 0]) := by kernel_rfl
theorem zi72 : (Try.prog.info? 72).map (fun i => (i.zero, i.size)) = some (some (.agg #[.int .i64 0, .int .i64 0, .int .i64 0, .slice none 0 0, .slice none 0 0, .slice none 0 0, .int .i64 0, .int .i64 0, .slice none 0 0, .int .i64 0]), 10) := by kernel_rfl
instance isz72 : Sz Try.prog 72 10 := ⟨sz72⟩
instance iin72 : Inf Try.prog 72 (some (.agg #[.int .i64 0, .int .i64 0, .int .i64 0, .slice none 0 0, .slice none 0 0, .slice none 0 0, .int .i64 0, .int .i64 0, .slice none 0 0, .int .i64 0])) 10 144 := ⟨inf72⟩
instance izs72 : Zs Try.prog 72 (.agg #[.int .i64 0, .int .i64 0, .int .i64 0, .slice none 0 0, .slice none 0 0, .slice none 0 0, .int .i64 0, .int .i64 0, .slice none 0 0, .int .i64 0]) := ⟨zs72⟩
instance izi72 : Zi Try.prog 72 (some (.agg #[.int .i64 0, .int .i64 0, .int .i64 0, .slice none 0 0, .slice none 0 0, .slice none 0 0, .int .i64 0, .int .i64 0, .slice none 0 0, .int .i64 0])) 10 := ⟨zi72⟩
theorem inf76 : (Try.prog.info? 76).map (fun i => (i.zero, i.size, i.bytes)) = some (some (.agg #[.int .i64 0, .int .i64 0, .int .i64 0, .slice none 0 0, .slice none 0 0, .slice none 0 0, .int .i64 0, .int .i64 0, .slice none 0 0, .int .i64 0]), 10, 144) := by kernel_rfl
theorem sz76 : (Try.prog.info? 76).map (·.size) = some 10 := by kernel_rfl
theorem zs76 : (Try.prog.info? 76).bind (·.zero) = some (.agg #[.int .i64 0, .int .i64 0, .int .i64 0, .slice none 0 0, .slice none 0 0, .slice none 0 0, .int .i64 0, .int .i64 0, .slice none 0 0, .int .i64 0]) := by kernel_rfl
theorem zi76 : (Try.prog.info? 76).map (fun i => (i.zero, i.size)) = some (some (.agg #[.int .i64 0, .int .i64 0, .int .i64 0, .slice none 0 0, .slice none 0 0, .slice none 0 0, .int .i64 0, .int .i64 0, .slice none 0 0, .int .i64 0]), 10) := by kernel_rfl
instance isz76 : Sz Try.prog 76 10 := ⟨sz76⟩
instance iin76 : Inf Try.prog 76 (some (.agg #[.int .i64 0, .int .i64 0, .int .i64 0, .slice none 0 0, .slice none 0 0, .slice none 0 0, .int .i64 0, .int .i64 0, .slice none 0 0, .int .i64 0])) 10 144 := ⟨inf76⟩
instance izs76 : Zs Try.prog 76 (.agg #[.int .i64 0, .int .i64 0, .int .i64 0, .slice none 0 0, .slice none 0 0, .slice none 0 0, .int .i64 0, .int .i64 0, .slice none 0 0, .int .i64 0]) := ⟨zs76⟩
instance izi76 : Zi Try.prog 76 (some (.agg #[.int .i64 0, .int .i64 0, .int .i64 0, .slice none 0 0, .slice none 0 0, .slice none 0 0, .int .i64 0, .int .i64 0, .slice none 0 0, .int .i64 0])) 10 := ⟨zi76⟩
theorem inf88 : (Try.prog.info? 88).map (fun i => (i.zero, i.size, i.bytes)) = some (some (.pointer none), 1, 8) := by kernel_rfl
theorem sz88 : (Try.prog.info? 88).map (·.size) = some 1 := by kernel_rfl
theorem zs88 : (Try.prog.info? 88).bind (·.zero) = some (.pointer none) := by kernel_rfl
theorem zi88 : (Try.prog.info? 88).map (fun i => (i.zero, i.size)) = some (some (.pointer none), 1) := by kernel_rfl
instance isz88 : Sz Try.prog 88 1 := ⟨sz88⟩
instance iin88 : Inf Try.prog 88 (some (.pointer none)) 1 8 := ⟨inf88⟩
instance izs88 : Zs Try.prog 88 (.pointer none) := ⟨zs88⟩
instance izi88 : Zi Try.prog 88 (some (.pointer none)) 1 := ⟨zi88⟩
theorem inf92 : (Try.prog.info? 92).map (fun i => (i.zero, i.size, i.bytes)) = some (some (.agg #[.slice none 0 0, .int .i64 0, .int .i64 0]), 3, 40) := by kernel_rfl
theorem sz92 : (Try.prog.info? 92).map (·.size) = some 3 := by kernel_rfl
theorem zs92 : (Try.prog.info? 92).bind (·.zero) = some (.agg #[.slice none 0 0, .int .i64 0, .int .i64 0]) := by kernel_rfl
theorem zi92 : (Try.prog.info? 92).map (fun i => (i.zero, i.size)) = some (some (.agg #[.slice none 0 0, .int .i64 0, .int .i64 0]), 3) := by kernel_rfl
instance isz92 : Sz Try.prog 92 3 := ⟨sz92⟩
instance iin92 : Inf Try.prog 92 (some (.agg #[.slice none 0 0, .int .i64 0, .int .i64 0])) 3 40 := ⟨inf92⟩
instance izs92 : Zs Try.prog 92 (.agg #[.slice none 0 0, .int .i64 0, .int .i64 0]) := ⟨zs92⟩
instance izi92 : Zi Try.prog 92 (some (.agg #[.slice none 0 0, .int .i64 0, .int .i64 0])) 3 := ⟨zi92⟩
theorem inf104 : (Try.prog.info? 104).map (fun i => (i.zero, i.size, i.bytes)) = some (some (.agg #[.int .i64 0, .slice none 0 0, .slice none 0 0]), 3, 56) := by kernel_rfl
theorem sz104 : (Try.prog.info? 104).map (·.size) = some 3 := by kernel_rfl
theorem zs104 : (Try.prog.info? 104).bind (·.zero) = some (.agg #[.int .i64 0, .slice none 0 0, .slice none 0 0]) := by kernel_rfl
theorem zi104 : (Try.prog.info? 104).map (fun i => (i.zero, i.size)) = some (some (.agg #[.int .i64 0, .slice none 0 0, .slice none 0 0]), 3) := by kernel_rfl
instance isz104 : Sz Try.prog 104 3 := ⟨sz104⟩
instance iin104 : Inf Try.prog 104 (some (.agg #[.int .i64 0, .slice none 0 0, .slice none 0 0])) 3 56 := ⟨inf104⟩
instance izs104 : Zs Try.prog 104 (.agg #[.int .i64 0, .slice none 0 0, .slice none 0 0]) := ⟨zs104⟩
instance izi104 : Zi Try.prog 104 (some (.agg #[.int .i64 0, .slice none 0 0, .slice none 0 0])) 3 := ⟨zi104⟩
theorem inf110 : (Try.prog.info? 110).map (fun i => (i.zero, i.size, i.bytes)) = some (some (.int .u32 0), 1, 4) := by kernel_rfl
theorem sz110 : (Try.prog.info? 110).map (·.size) = some 1 := by kernel_rfl
theorem zs110 : (Try.prog.info? 110).bind (·.zero) = some (.int .u32 0) := by kernel_rfl
theorem zi110 : (Try.prog.info? 110).map (fun i => (i.zero, i.size)) = some (some (.int .u32 0), 1) := by kernel_rfl
instance isz110 : Sz Try.prog 110 1 := ⟨sz110⟩
instance iin110 : Inf Try.prog 110 (some (.int .u32 0)) 1 4 := ⟨inf110⟩
instance izs110 : Zs Try.prog 110 (.int .u32 0) := ⟨zs110⟩
instance izi110 : Zi Try.prog 110 (some (.int .u32 0)) 1 := ⟨zi110⟩
theorem inf111 : (Try.prog.info? 111).map (fun i => (i.zero, i.size, i.bytes)) = some (some (.int .u64 0), 1, 8) := by kernel_rfl
theorem sz111 : (Try.prog.info? 111).map (·.size) = some 1 := by kernel_rfl
theorem zs111 : (Try.prog.info? 111).bind (·.zero) = some (.int .u64 0) := by kernel_rfl
theorem zi111 : (Try.prog.info? 111).map (fun i => (i.zero, i.size)) = some (some (.int .u64 0), 1) := by kernel_rfl
instance isz111 : Sz Try.prog 111 1 := ⟨sz111⟩
instance iin111 : Inf Try.prog 111 (some (.int .u64 0)) 1 8 := ⟨inf111⟩
instance izs111 : Zs Try.prog 111 (.int .u64 0) := ⟨zs111⟩
instance izi111 : Zi Try.prog 111 (some (.int .u64 0)) 1 := ⟨zi111⟩
theorem inf117 : (Try.prog.info? 117).map (fun i => (i.zero, i.size, i.bytes)) = some (some (.agg #[.string ByteArray.empty, .int .i64 0]), 2, 24) := by kernel_rfl
theorem sz117 : (Try.prog.info? 117).map (·.size) = some 2 := by kernel_rfl
theorem zs117 : (Try.prog.info? 117).bind (·.zero) = some (.agg #[.string ByteArray.empty, .int .i64 0]) := by kernel_rfl
theorem zi117 : (Try.prog.info? 117).map (fun i => (i.zero, i.size)) = some (some (.agg #[.string ByteArray.empty, .int .i64 0]), 2) := by kernel_rfl
instance isz117 : Sz Try.prog 117 2 := ⟨sz117⟩
instance iin117 : Inf Try.prog 117 (some (.agg #[.string ByteArray.empty, .int .i64 0])) 2 24 := ⟨inf117⟩
instance izs117 : Zs Try.prog 117 (.agg #[.string ByteArray.empty, .int .i64 0]) := ⟨zs117⟩
instance izi117 : Zi Try.prog 117 (some (.agg #[.string ByteArray.empty, .int .i64 0])) 2 := ⟨zi117⟩
theorem inf120 : (Try.prog.info? 120).map (fun i => (i.zero, i.size, i.bytes)) = some (some (.agg #[.int .i64 0, .string ByteArray.empty, .string ByteArray.empty, .int .i64 0]), 4, 48) := by kernel_rfl
theorem sz120 : (Try.prog.info? 120).map (·.size) = some 4 := by kernel_rfl
theorem zs120 : (Try.prog.info? 120).bind (·.zero) = some (.agg #[.int .i64 0, .string ByteArray.empty, .string ByteArray.empty, .int .i64 0]) := by kernel_rfl
theorem zi120 : (Try.prog.info? 120).map (fun i => (i.zero, i.size)) = some (some (.agg #[.int .i64 0, .string ByteArray.empty, .string ByteArray.empty, .int .i64 0]), 4) := by kernel_rfl
instance isz120 : Sz Try.prog 120 4 := ⟨sz120⟩
instance iin120 : Inf Try.prog 120 (some (.agg #[.int .i64 0, .string ByteArray.empty, .string ByteArray.empty, .int .i64 0])) 4 48 := ⟨inf120⟩
instance izs120 : Zs Try.prog 120 (.agg #[.int .i64 0, .string ByteArray.empty, .string ByteArray.empty, .int .i64 0]) := ⟨zs120⟩
instance izi120 : Zi Try.prog 120 (some (.agg #[.int .i64 0, .string ByteArray.empty, .string ByteArray.empty, .int .i64 0])) 4 := ⟨zi120⟩
theorem inf122 : (Try.prog.info? 122).map (fun i => (i.zero, i.size, i.bytes)) = some (some (.agg #[.int .i64 0, .slice none 0 0, .slice none 0 0]), 3, 56) := by kernel_rfl
theorem sz122 : (Try.prog.info? 122).map (·.size) = some 3 := by kernel_rfl
theorem zs122 : (Try.prog.info? 122).bind (·.zero) = some (.agg #[.int .i64 0, .slice none 0 0, .slice none 0 0]) := by kernel_rfl
theorem zi122 : (Try.prog.info? 122).map (fun i => (i.zero, i.size)) = some (some (.agg #[.int .i64 0, .slice none 0 0, .slice none 0 0]), 3) := by kernel_rfl
instance isz122 : Sz Try.prog 122 3 := ⟨sz122⟩
instance iin122 : Inf Try.prog 122 (some (.agg #[.int .i64 0, .slice none 0 0, .slice none 0 0])) 3 56 := ⟨inf122⟩
instance izs122 : Zs Try.prog 122 (.agg #[.int .i64 0, .slice none 0 0, .slice none 0 0]) := ⟨zs122⟩
instance izi122 : Zi Try.prog 122 (some (.agg #[.int .i64 0, .slice none 0 0, .slice none 0 0])) 3 := ⟨zi122⟩
theorem inf124 : (Try.prog.info? 124).map (fun i => (i.zero, i.size, i.bytes)) = some (some (.agg #[.string ByteArray.empty, .int .i64 0]), 2, 24) := by kernel_rfl
theorem sz124 : (Try.prog.info? 124).map (·.size) = some 2 := by kernel_rfl
theorem zs124 : (Try.prog.info? 124).bind (·.zero) = some (.agg #[.string ByteArray.empty, .int .i64 0]) := by kernel_rfl
theorem zi124 : (Try.prog.info? 124).map (fun i => (i.zero, i.size)) = some (some (.agg #[.string ByteArray.empty, .int .i64 0]), 2) := by kernel_rfl
instance isz124 : Sz Try.prog 124 2 := ⟨sz124⟩
instance iin124 : Inf Try.prog 124 (some (.agg #[.string ByteArray.empty, .int .i64 0])) 2 24 := ⟨inf124⟩
instance izs124 : Zs Try.prog 124 (.agg #[.string ByteArray.empty, .int .i64 0]) := ⟨zs124⟩
instance izi124 : Zi Try.prog 124 (some (.agg #[.string ByteArray.empty, .int .i64 0])) 2 := ⟨zi124⟩
theorem inf126 : (Try.prog.info? 126).map (fun i => (i.zero, i.size, i.bytes)) = some (some (.agg #[.int .i64 0, .string ByteArray.empty, .string ByteArray.empty, .int .i64 0]), 4, 48) := by kernel_rfl
theorem sz126 : (Try.prog.info? 126).map (·.size) = some 4 := by kernel_rfl
theorem zs126 : (Try.prog.info? 126).bind (·.zero) = some (.agg #[.int .i64 0, .string ByteArray.empty, .string ByteArray.empty, .int .i64 0]) := by kernel_rfl
theorem zi126 : (Try.prog.info? 126).map (fun i => (i.zero, i.size)) = some (some (.agg #[.int .i64 0, .string ByteArray.empty, .string ByteArray.empty, .int .i64 0]), 4) := by kernel_rfl
instance isz126 : Sz Try.prog 126 4 := ⟨sz126⟩
instance iin126 : Inf Try.prog 126 (some (.agg #[.int .i64 0, .string ByteArray.empty, .string ByteArray.empty, .int .i64 0])) 4 48 := ⟨inf126⟩
instance izs126 : Zs Try.prog 126 (.agg #[.int .i64 0, .string ByteArray.empty, .string ByteArray.empty, .int .i64 0]) := ⟨zs126⟩
instance izi126 : Zi Try.prog 126 (some (.agg #[.int .i64 0, .string ByteArray.empty, .string ByteArray.empty, .int .i64 0])) 4 := ⟨zi126⟩
theorem inf130 : (Try.prog.info? 130).map (fun i => (i.zero, i.size, i.bytes)) = some (some (.slice none 0 0), 1, 24) := by kernel_rfl
theorem sz130 : (Try.prog.info? 130).map (·.size) = some 1 := by kernel_rfl
theorem zs130 : (Try.prog.info? 130).bind (·.zero) = some (.slice none 0 0) := by kernel_rfl
theorem zi130 : (Try.prog.info? 130).map (fun i => (i.zero, i.size)) = some (some (.slice none 0 0), 1) := by kernel_rfl
instance isz130 : Sz Try.prog 130 1 := ⟨sz130⟩
instance iin130 : Inf Try.prog 130 (some (.slice none 0 0)) 1 24 := ⟨inf130⟩
instance izs130 : Zs Try.prog 130 (.slice none 0 0) := ⟨zs130⟩
instance izi130 : Zi Try.prog 130 (some (.slice none 0 0)) 1 := ⟨zi130⟩
theorem inf141 : (Try.prog.info? 141).map (fun i => (i.zero, i.size, i.bytes)) = some (some (.pointer none), 1, 8) := by kernel_rfl
theorem sz141 : (Try.prog.info? 141).map (·.size) = some 1 := by kernel_rfl
theorem zs141 : (Try.prog.info? 141).bind (·.zero) = some (.pointer none) := by kernel_rfl
theorem zi141 : (Try.prog.info? 141).map (fun i => (i.zero, i.size)) = some (some (.pointer none), 1) := by kernel_rfl
instance isz141 : Sz Try.prog 141 1 := ⟨sz141⟩
instance iin141 : Inf Try.prog 141 (some (.pointer none)) 1 8 := ⟨inf141⟩
instance izs141 : Zs Try.prog 141 (.pointer none) := ⟨zs141⟩
instance izi141 : Zi Try.prog 141 (some (.pointer none)) 1 := ⟨zi141⟩
instance ius3 : Us Try.prog 3 (descOf Try.underlying3) := ⟨Try.underlying3⟩
instance ius4 : Us Try.prog 4 (descOf Try.underlying4) := ⟨Try.underlying4⟩
instance ius5 : Us Try.prog 5 (descOf Try.underlying5) := ⟨Try.underlying5⟩
instance ius9 : Us Try.prog 9 (descOf Try.underlying9) := ⟨Try.underlying9⟩
instance ius23 : Us Try.prog 23 (descOf Try.underlying23) := ⟨Try.underlying23⟩
instance ius25 : Us Try.prog 25 (descOf Try.underlying25) := ⟨Try.underlying25⟩
instance ius28 : Us Try.prog 28 (descOf Try.underlying28) := ⟨Try.underlying28⟩
instance ius38 : Us Try.prog 38 (descOf Try.underlying38) := ⟨Try.underlying38⟩
instance ius41 : Us Try.prog 41 (descOf Try.underlying41) := ⟨Try.underlying41⟩
instance ius52 : Us Try.prog 52 (descOf Try.underlying52) := ⟨Try.underlying52⟩
instance ius53 : Us Try.prog 53 (descOf Try.underlying53) := ⟨Try.underlying53⟩
instance ius54 : Us Try.prog 54 (descOf Try.underlying54) := ⟨Try.underlying54⟩
instance ius56 : Us Try.prog 56 (descOf Try.underlying56) := ⟨Try.underlying56⟩
instance ius62 : Us Try.prog 62 (descOf Try.underlying62) := ⟨Try.underlying62⟩
instance ius63 : Us Try.prog 63 (descOf Try.underlying63) := ⟨Try.underlying63⟩
instance ius64 : Us Try.prog 64 (descOf Try.underlying64) := ⟨Try.underlying64⟩
instance ius66 : Us Try.prog 66 (descOf Try.underlying66) := ⟨Try.underlying66⟩
instance ius72 : Us Try.prog 72 (descOf Try.underlying72) := ⟨Try.underlying72⟩
instance ius76 : Us Try.prog 76 (descOf Try.underlying76) := ⟨Try.underlying76⟩
instance ius92 : Us Try.prog 92 (descOf Try.underlying92) := ⟨Try.underlying92⟩
instance ius104 : Us Try.prog 104 (descOf Try.underlying104) := ⟨Try.underlying104⟩
instance ius110 : Us Try.prog 110 (descOf Try.underlying110) := ⟨Try.underlying110⟩
instance ius111 : Us Try.prog 111 (descOf Try.underlying111) := ⟨Try.underlying111⟩
instance ius117 : Us Try.prog 117 (descOf Try.underlying117) := ⟨Try.underlying117⟩
instance ius120 : Us Try.prog 120 (descOf Try.underlying120) := ⟨Try.underlying120⟩
instance ius122 : Us Try.prog 122 (descOf Try.underlying122) := ⟨Try.underlying122⟩
instance ius124 : Us Try.prog 124 (descOf Try.underlying124) := ⟨Try.underlying124⟩
instance ius126 : Us Try.prog 126 (descOf Try.underlying126) := ⟨Try.underlying126⟩
instance ius130 : Us Try.prog 130 (descOf Try.underlying130) := ⟨Try.underlying130⟩
theorem fl3 : flat Try.prog 3 = true := by unfold flat; rw [Try.underlying3]
theorem fl4 : flat Try.prog 4 = true := by unfold flat; rw [Try.underlying4]
theorem fl5 : flat Try.prog 5 = true := by unfold flat; rw [Try.underlying5]
theorem fl9 : flat Try.prog 9 = true := by unfold flat; rw [Try.underlying9]
theorem fl25 : flat Try.prog 25 = true := by unfold flat; rw [Try.underlying25]
theorem fl38 : flat Try.prog 38 = true := by unfold flat; rw [Try.underlying38]
theorem fl41 : flat Try.prog 41 = true := by unfold flat; rw [Try.underlying41]
theorem fl52 : flat Try.prog 52 = true := by unfold flat; rw [Try.underlying52]
theorem fl53 : flat Try.prog 53 = true := by unfold flat; rw [Try.underlying53]
theorem fl54 : flat Try.prog 54 = true := by unfold flat; rw [Try.underlying54]
theorem fl62 : flat Try.prog 62 = true := by unfold flat; rw [Try.underlying62]
theorem fl63 : flat Try.prog 63 = true := by unfold flat; rw [Try.underlying63]
theorem fl64 : flat Try.prog 64 = true := by unfold flat; rw [Try.underlying64]
theorem fl88 : flat Try.prog 88 = true := by unfold flat; rw [Try.underlying88]
theorem fl110 : flat Try.prog 110 = true := by unfold flat; rw [Try.underlying110]
theorem fl111 : flat Try.prog 111 = true := by unfold flat; rw [Try.underlying111]
theorem fl130 : flat Try.prog 130 = true := by unfold flat; rw [Try.underlying130]
instance ifl3 : Fl Try.prog 3 := ⟨fl3⟩
instance ifl4 : Fl Try.prog 4 := ⟨fl4⟩
instance ifl5 : Fl Try.prog 5 := ⟨fl5⟩
instance ifl9 : Fl Try.prog 9 := ⟨fl9⟩
instance ifl25 : Fl Try.prog 25 := ⟨fl25⟩
instance ifl38 : Fl Try.prog 38 := ⟨fl38⟩
instance ifl41 : Fl Try.prog 41 := ⟨fl41⟩
instance ifl52 : Fl Try.prog 52 := ⟨fl52⟩
instance ifl53 : Fl Try.prog 53 := ⟨fl53⟩
instance ifl54 : Fl Try.prog 54 := ⟨fl54⟩
instance ifl62 : Fl Try.prog 62 := ⟨fl62⟩
instance ifl63 : Fl Try.prog 63 := ⟨fl63⟩
instance ifl64 : Fl Try.prog 64 := ⟨fl64⟩
instance ifl88 : Fl Try.prog 88 := ⟨fl88⟩
instance ifl110 : Fl Try.prog 110 := ⟨fl110⟩
instance ifl111 : Fl Try.prog 111 := ⟨fl111⟩
instance ifl130 : Fl Try.prog 130 := ⟨fl130⟩
theorem mixed : Try.prog.follows .mixedOrders = true := by kernel_rfl
theorem en3 : Enters Try.prog 3 := enters_of Try.func3 (by kernel_rfl) rfl
theorem en4 : Enters Try.prog 4 := enters_of Try.func4 (by kernel_rfl) rfl
theorem en5 : Enters Try.prog 5 := enters_of Try.func5 (by kernel_rfl) rfl
theorem en6 : Enters Try.prog 6 := enters_of Try.func6 (by kernel_rfl) rfl
theorem en7 : Enters Try.prog 7 := enters_of Try.func7 (by kernel_rfl) rfl
theorem en8 : Enters Try.prog 8 := enters_of Try.func8 (by kernel_rfl) rfl
theorem en9 : Enters Try.prog 9 := enters_of Try.func9 (by kernel_rfl) rfl
theorem en10 : Enters Try.prog 10 := enters_of Try.func10 (by kernel_rfl) rfl
theorem en11 : Enters Try.prog 11 := enters_of Try.func11 (by kernel_rfl) rfl
theorem en12 : Enters Try.prog 12 := enters_of Try.func12 (by kernel_rfl) rfl
theorem en13 : Enters Try.prog 13 := enters_of Try.func13 (by kernel_rfl) rfl
theorem en14 : Enters Try.prog 14 := enters_of Try.func14 (by kernel_rfl) rfl
theorem en15 : Enters Try.prog 15 := enters_of Try.func15 (by kernel_rfl) rfl
theorem en16 : Enters Try.prog 16 := enters_of Try.func16 (by kernel_rfl) rfl
theorem en17 : Enters Try.prog 17 := enters_of Try.func17 (by kernel_rfl) rfl
theorem en18 : Enters Try.prog 18 := enters_of Try.func18 (by kernel_rfl) rfl
theorem en19 : Enters Try.prog 19 := enters_of Try.func19 (by kernel_rfl) rfl
theorem en20 : Enters Try.prog 20 := enters_of Try.func20 (by kernel_rfl) rfl
theorem en21 : Enters Try.prog 21 := enters_of Try.func21 (by kernel_rfl) rfl
theorem en22 : Enters Try.prog 22 := enters_of Try.func22 (by kernel_rfl) rfl
theorem en23 : Enters Try.prog 23 := enters_of Try.func23 (by kernel_rfl) rfl
theorem en24 : Enters Try.prog 24 := enters_of Try.func24 (by kernel_rfl) rfl
theorem en25 : Enters Try.prog 25 := enters_of Try.func25 (by kernel_rfl) rfl
theorem en26 : Enters Try.prog 26 := enters_of Try.func26 (by kernel_rfl) rfl
theorem en27 : Enters Try.prog 27 := enters_of Try.func27 (by kernel_rfl) rfl
theorem en28 : Enters Try.prog 28 := enters_of Try.func28 (by kernel_rfl) rfl
theorem en29 : Enters Try.prog 29 := enters_of Try.func29 (by kernel_rfl) rfl
theorem en30 : Enters Try.prog 30 := enters_of Try.func30 (by kernel_rfl) rfl
theorem en31 : Enters Try.prog 31 := enters_of Try.func31 (by kernel_rfl) rfl
theorem en32 : Enters Try.prog 32 := enters_of Try.func32 (by kernel_rfl) rfl
theorem en33 : Enters Try.prog 33 := enters_of Try.func33 (by kernel_rfl) rfl
theorem en34 : Enters Try.prog 34 := enters_of Try.func34 (by kernel_rfl) rfl
theorem en35 : Enters Try.prog 35 := enters_of Try.func35 (by kernel_rfl) rfl
theorem en36 : Enters Try.prog 36 := enters_of Try.func36 (by kernel_rfl) rfl
theorem en37 : Enters Try.prog 37 := enters_of Try.func37 (by kernel_rfl) rfl
theorem en38 : Enters Try.prog 38 := enters_of Try.func38 (by kernel_rfl) rfl
theorem en39 : Enters Try.prog 39 := enters_of Try.func39 (by kernel_rfl) rfl
theorem en40 : Enters Try.prog 40 := enters_of Try.func40 (by kernel_rfl) rfl
theorem en41 : Enters Try.prog 41 := enters_of Try.func41 (by kernel_rfl) rfl
theorem en42 : Enters Try.prog 42 := enters_of Try.func42 (by kernel_rfl) rfl
theorem en43 : Enters Try.prog 43 := enters_of Try.func43 (by kernel_rfl) rfl
theorem en44 : Enters Try.prog 44 := enters_of Try.func44 (by kernel_rfl) rfl
theorem en45 : Enters Try.prog 45 := enters_of Try.func45 (by kernel_rfl) rfl
theorem en46 : Enters Try.prog 46 := enters_of Try.func46 (by kernel_rfl) rfl
theorem en47 : Enters Try.prog 47 := enters_of Try.func47 (by kernel_rfl) rfl
theorem en48 : Enters Try.prog 48 := enters_of Try.func48 (by kernel_rfl) rfl
theorem en49 : Enters Try.prog 49 := enters_of Try.func49 (by kernel_rfl) rfl
theorem en50 : Enters Try.prog 50 := enters_of Try.func50 (by kernel_rfl) rfl
theorem en51 : Enters Try.prog 51 := enters_of Try.func51 (by kernel_rfl) rfl
theorem en52 : Enters Try.prog 52 := enters_of Try.func52 (by kernel_rfl) rfl
theorem en53 : Enters Try.prog 53 := enters_of Try.func53 (by kernel_rfl) rfl
theorem en54 : Enters Try.prog 54 := enters_of Try.func54 (by kernel_rfl) rfl
theorem en55 : Enters Try.prog 55 := enters_of Try.func55 (by kernel_rfl) rfl
theorem en56 : Enters Try.prog 56 := enters_of Try.func56 (by kernel_rfl) rfl
theorem en57 : Enters Try.prog 57 := enters_of Try.func57 (by kernel_rfl) rfl
theorem en58 : Enters Try.prog 58 := enters_of Try.func58 (by kernel_rfl) rfl
theorem en59 : Enters Try.prog 59 := enters_of Try.func59 (by kernel_rfl) rfl
theorem en60 : Enters Try.prog 60 := enters_of Try.func60 (by kernel_rfl) rfl
theorem en61 : Enters Try.prog 61 := enters_of Try.func61 (by kernel_rfl) rfl
theorem en62 : Enters Try.prog 62 := enters_of Try.func62 (by kernel_rfl) rfl
theorem en63 : Enters Try.prog 63 := enters_of Try.func63 (by kernel_rfl) rfl
theorem en64 : Enters Try.prog 64 := enters_of Try.func64 (by kernel_rfl) rfl
theorem en65 : Enters Try.prog 65 := enters_of Try.func65 (by kernel_rfl) rfl
theorem en66 : Enters Try.prog 66 := enters_of Try.func66 (by kernel_rfl) rfl
theorem en67 : Enters Try.prog 67 := enters_of Try.func67 (by kernel_rfl) rfl
theorem en68 : Enters Try.prog 68 := enters_of Try.func68 (by kernel_rfl) rfl
theorem en69 : Enters Try.prog 69 := enters_of Try.func69 (by kernel_rfl) rfl
theorem en70 : Enters Try.prog 70 := enters_of Try.func70 (by kernel_rfl) rfl
theorem en71 : Enters Try.prog 71 := enters_of Try.func71 (by kernel_rfl) rfl
theorem en72 : Enters Try.prog 72 := enters_of Try.func72 (by kernel_rfl) rfl
theorem en73 : Enters Try.prog 73 := enters_of Try.func73 (by kernel_rfl) rfl
theorem en74 : Enters Try.prog 74 := enters_of Try.func74 (by kernel_rfl) rfl
theorem en75 : Enters Try.prog 75 := enters_of Try.func75 (by kernel_rfl) rfl
theorem en76 : Enters Try.prog 76 := enters_of Try.func76 (by kernel_rfl) rfl
theorem en77 : Enters Try.prog 77 := enters_of Try.func77 (by kernel_rfl) rfl
theorem en78 : Enters Try.prog 78 := enters_of Try.func78 (by kernel_rfl) rfl
theorem en79 : Enters Try.prog 79 := enters_of Try.func79 (by kernel_rfl) rfl
theorem en80 : Enters Try.prog 80 := enters_of Try.func80 (by kernel_rfl) rfl
theorem en81 : Enters Try.prog 81 := enters_of Try.func81 (by kernel_rfl) rfl
theorem en82 : Enters Try.prog 82 := enters_of Try.func82 (by kernel_rfl) rfl
theorem en83 : Enters Try.prog 83 := enters_of Try.func83 (by kernel_rfl) rfl
theorem en84 : Enters Try.prog 84 := enters_of Try.func84 (by kernel_rfl) rfl
theorem en85 : Enters Try.prog 85 := enters_of Try.func85 (by kernel_rfl) rfl
theorem en86 : Enters Try.prog 86 := enters_of Try.func86 (by kernel_rfl) rfl
theorem en87 : Enters Try.prog 87 := enters_of Try.func87 (by kernel_rfl) rfl
theorem en88 : Enters Try.prog 88 := enters_of Try.func88 (by kernel_rfl) rfl
theorem en89 : Enters Try.prog 89 := enters_of Try.func89 (by kernel_rfl) rfl
theorem en90 : Enters Try.prog 90 := enters_of Try.func90 (by kernel_rfl) rfl
theorem en91 : Enters Try.prog 91 := enters_of Try.func91 (by kernel_rfl) rfl
theorem en92 : Enters Try.prog 92 := enters_of Try.func92 (by kernel_rfl) rfl
theorem en93 : Enters Try.prog 93 := enters_of Try.func93 (by kernel_rfl) rfl
theorem en94 : Enters Try.prog 94 := enters_of Try.func94 (by kernel_rfl) rfl
end Go.Proofs.Ythdfbaoenjhkbaa
