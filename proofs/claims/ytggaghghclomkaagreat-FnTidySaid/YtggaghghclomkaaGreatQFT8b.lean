/- Texts of this proof laid together, in the order in which they build; what each proves stands ahead of it. No condition but those told there. -/
import Derived.Test.YtggaghghclomkaaGreatQFT8a
import Derived.Test.YtggaghghclomkaaGreatProg
import Derived.KernelRfl
import Derived.OrdersHeld

/- Closed facts on the program's types and functions, each asked of the kernel. -/
namespace Go.Proofs.YtggaghghclomkaaGreat
class Sz (P : Program) (t : TypeId) (n : outParam Nat) : Prop where
  h : (P.info? t).map (·.size) = some n
class Us (P : Program) (t : TypeId) (d : outParam TypeDesc) : Prop where
  h : P.underlying t = some d
@[reducible] def descOf {P : Program} {t : TypeId} {d : TypeDesc} (_ : P.underlying t = some d) : TypeDesc := d
class Inf (P : Program) (t : TypeId) (z : outParam (Option Value)) (s b : outParam Nat) : Prop where
  h : (P.info? t).map (fun i => (i.zero, i.size, i.bytes)) = some (z, s, b)
class Zs (P : Program) (t : TypeId) (z : outParam Value) : Prop where
  h : (P.info? t).bind (·.zero) = some z
class Zi (P : Program) (t : TypeId) (z : outParam (Option Value)) (s : outParam Nat) : Prop where
  h : (P.info? t).map (fun i => (i.zero, i.size)) = some (z, s)
class Fl (P : Program) (t : TypeId) : Prop where
  h : flat P t = true
theorem inf2 : (Tryz.prog.info? 2).map (fun i => (i.zero, i.size, i.bytes)) = some (some (.int .i64 0), 1, 8) := by kernel_rfl
theorem sz2 : (Tryz.prog.info? 2).map (·.size) = some 1 := by kernel_rfl
theorem zs2 : (Tryz.prog.info? 2).bind (·.zero) = some (.int .i64 0) := by kernel_rfl
theorem zi2 : (Tryz.prog.info? 2).map (fun i => (i.zero, i.size)) = some (some (.int .i64 0), 1) := by kernel_rfl
instance isz2 : Sz Tryz.prog 2 1 := ⟨sz2⟩
instance iin2 : Inf Tryz.prog 2 (some (.int .i64 0)) 1 8 := ⟨inf2⟩
instance izs2 : Zs Tryz.prog 2 (.int .i64 0) := ⟨zs2⟩
instance izi2 : Zi Tryz.prog 2 (some (.int .i64 0)) 1 := ⟨zi2⟩
theorem inf3 : (Tryz.prog.info? 3).map (fun i => (i.zero, i.size, i.bytes)) = some (some (.int .i64 0), 1, 8) := by kernel_rfl
theorem sz3 : (Tryz.prog.info? 3).map (·.size) = some 1 := by kernel_rfl
theorem zs3 : (Tryz.prog.info? 3).bind (·.zero) = some (.int .i64 0) := by kernel_rfl
theorem zi3 : (Tryz.prog.info? 3).map (fun i => (i.zero, i.size)) = some (some (.int .i64 0), 1) := by kernel_rfl
instance isz3 : Sz Tryz.prog 3 1 := ⟨sz3⟩
instance iin3 : Inf Tryz.prog 3 (some (.int .i64 0)) 1 8 := ⟨inf3⟩
instance izs3 : Zs Tryz.prog 3 (.int .i64 0) := ⟨zs3⟩
instance izi3 : Zi Tryz.prog 3 (some (.int .i64 0)) 1 := ⟨zi3⟩
theorem inf4 : (Tryz.prog.info? 4).map (fun i => (i.zero, i.size, i.bytes)) = some (some (.bool false), 1, 1) := by kernel_rfl
theorem sz4 : (Tryz.prog.info? 4).map (·.size) = some 1 := by kernel_rfl
theorem zs4 : (Tryz.prog.info? 4).bind (·.zero) = some (.bool false) := by kernel_rfl
theorem zi4 : (Tryz.prog.info? 4).map (fun i => (i.zero, i.size)) = some (some (.bool false), 1) := by kernel_rfl
instance isz4 : Sz Tryz.prog 4 1 := ⟨sz4⟩
instance iin4 : Inf Tryz.prog 4 (some (.bool false)) 1 1 := ⟨inf4⟩
instance izs4 : Zs Tryz.prog 4 (.bool false) := ⟨zs4⟩
instance izi4 : Zi Tryz.prog 4 (some (.bool false)) 1 := ⟨zi4⟩
theorem inf5 : (Tryz.prog.info? 5).map (fun i => (i.zero, i.size, i.bytes)) = some (some (.int .u8 0), 1, 1) := by kernel_rfl
theorem sz5 : (Tryz.prog.info? 5).map (·.size) = some 1 := by kernel_rfl
theorem zs5 : (Tryz.prog.info? 5).bind (·.zero) = some (.int .u8 0) := by kernel_rfl
theorem zi5 : (Tryz.prog.info? 5).map (fun i => (i.zero, i.size)) = some (some (.int .u8 0), 1) := by kernel_rfl
instance isz5 : Sz Tryz.prog 5 1 := ⟨sz5⟩
instance iin5 : Inf Tryz.prog 5 (some (.int .u8 0)) 1 1 := ⟨inf5⟩
instance izs5 : Zs Tryz.prog 5 (.int .u8 0) := ⟨zs5⟩
instance izi5 : Zi Tryz.prog 5 (some (.int .u8 0)) 1 := ⟨zi5⟩
theorem inf9 : (Tryz.prog.info? 9).map (fun i => (i.zero, i.size, i.bytes)) = some (some (.string ByteArray.empty), 1, 16) := by kernel_rfl
theorem sz9 : (Tryz.prog.info? 9).map (·.size) = some 1 := by kernel_rfl
theorem zs9 : (Tryz.prog.info? 9).bind (·.zero) = some (.string ByteArray.empty) := by kernel_rfl
theorem zi9 : (Tryz.prog.info? 9).map (fun i => (i.zero, i.size)) = some (some (.string ByteArray.empty), 1) := by kernel_rfl
instance isz9 : Sz Tryz.prog 9 1 := ⟨sz9⟩
instance iin9 : Inf Tryz.prog 9 (some (.string ByteArray.empty)) 1 16 := ⟨inf9⟩
instance izs9 : Zs Tryz.prog 9 (.string ByteArray.empty) := ⟨zs9⟩
instance izi9 : Zi Tryz.prog 9 (some (.string ByteArray.empty)) 1 := ⟨zi9⟩
theorem inf15 : (Tryz.prog.info? 15).map (fun i => (i.zero, i.size, i.bytes)) = some (some (.pointer none), 1, 8) := by kernel_rfl
theorem sz15 : (Tryz.prog.info? 15).map (·.size) = some 1 := by kernel_rfl
theorem zs15 : (Tryz.prog.info? 15).bind (·.zero) = some (.pointer none) := by kernel_rfl
theorem zi15 : (Tryz.prog.info? 15).map (fun i => (i.zero, i.size)) = some (some (.pointer none), 1) := by kernel_rfl
instance isz15 : Sz Tryz.prog 15 1 := ⟨sz15⟩
instance iin15 : Inf Tryz.prog 15 (some (.pointer none)) 1 8 := ⟨inf15⟩
instance izs15 : Zs Tryz.prog 15 (.pointer none) := ⟨zs15⟩
instance izi15 : Zi Tryz.prog 15 (some (.pointer none)) 1 := ⟨zi15⟩
theorem inf16 : (Tryz.prog.info? 16).map (fun i => (i.zero, i.size, i.bytes)) = some (some (.pointer none), 1, 8) := by kernel_rfl
theorem sz16 : (Tryz.prog.info? 16).map (·.size) = some 1 := by kernel_rfl
theorem zs16 : (Tryz.prog.info? 16).bind (·.zero) = some (.pointer none) := by kernel_rfl
theorem zi16 : (Tryz.prog.info? 16).map (fun i => (i.zero, i.size)) = some (some (.pointer none), 1) := by kernel_rfl
instance isz16 : Sz Tryz.prog 16 1 := ⟨sz16⟩
instance iin16 : Inf Tryz.prog 16 (some (.pointer none)) 1 8 := ⟨inf16⟩
instance izs16 : Zs Tryz.prog 16 (.pointer none) := ⟨zs16⟩
instance izi16 : Zi Tryz.prog 16 (some (.pointer none)) 1 := ⟨zi16⟩
theorem inf17 : (Tryz.prog.info? 17).map (fun i => (i.zero, i.size, i.bytes)) = some (some (.pointer none), 1, 8) := by kernel_rfl
theorem sz17 : (Tryz.prog.info? 17).map (·.size) = some 1 := by kernel_rfl
theorem zs17 : (Tryz.prog.info? 17).bind (·.zero) = some (.pointer none) := by kernel_rfl
theorem zi17 : (Tryz.prog.info? 17).map (fun i => (i.zero, i.size)) = some (some (.pointer none), 1) := by kernel_rfl
instance isz17 : Sz Tryz.prog 17 1 := ⟨sz17⟩
instance iin17 : Inf Tryz.prog 17 (some (.pointer none)) 1 8 := ⟨inf17⟩
instance izs17 : Zs Tryz.prog 17 (.pointer none) := ⟨zs17⟩
instance izi17 : Zi Tryz.prog 17 (some (.pointer none)) 1 := ⟨zi17⟩
theorem inf22 : (Tryz.prog.info? 22).map (fun i => (i.zero, i.size, i.bytes)) = some (some (.slice none 0 0), 1, 24) := by kernel_rfl
theorem sz22 : (Tryz.prog.info? 22).map (·.size) = some 1 := by kernel_rfl
theorem zs22 : (Tryz.prog.info? 22).bind (·.zero) = some (.slice none 0 0) := by kernel_rfl
theorem zi22 : (Tryz.prog.info? 22).map (fun i => (i.zero, i.size)) = some (some (.slice none 0 0), 1) := by kernel_rfl
instance isz22 : Sz Tryz.prog 22 1 := ⟨sz22⟩
instance iin22 : Inf Tryz.prog 22 (some (.slice none 0 0)) 1 24 := ⟨inf22⟩
instance izs22 : Zs Tryz.prog 22 (.slice none 0 0) := ⟨zs22⟩
instance izi22 : Zi Tryz.prog 22 (some (.slice none 0 0)) 1 := ⟨zi22⟩
theorem inf23 : (Tryz.prog.info? 23).map (fun i => (i.zero, i.size, i.bytes)) = some (some (.slice none 0 0), 1, 24) := by kernel_rfl
theorem sz23 : (Tryz.prog.info? 23).map (·.size) = some 1 := by kernel_rfl
theorem zs23 : (Tryz.prog.info? 23).bind (·.zero) = some (.slice none 0 0) := by kernel_rfl
theorem zi23 : (Tryz.prog.info? 23).map (fun i => (i.zero, i.size)) = some (some (.slice none 0 0), 1) := by kernel_rfl
instance isz23 : Sz Tryz.prog 23 1 := ⟨sz23⟩
instance iin23 : Inf Tryz.prog 23 (some (.slice none 0 0)) 1 24 := ⟨inf23⟩
instance izs23 : Zs Tryz.prog 23 (.slice none 0 0) := ⟨zs23⟩
instance izi23 : Zi Tryz.prog 23 (some (.slice none 0 0)) 1 := ⟨zi23⟩
theorem inf24 : (Tryz.prog.info? 24).map (fun i => (i.zero, i.size, i.bytes)) = some (some (.slice none 0 0), 1, 24) := by kernel_rfl
theorem sz24 : (Tryz.prog.info? 24).map (·.size) = some 1 := by kernel_rfl
theorem zs24 : (Tryz.prog.info? 24).bind (·.zero) = some (.slice none 0 0) := by kernel_rfl
theorem zi24 : (Tryz.prog.info? 24).map (fun i => (i.zero, i.size)) = some (some (.slice none 0 0), 1) := by kernel_rfl
instance isz24 : Sz Tryz.prog 24 1 := ⟨sz24⟩
instance iin24 : Inf Tryz.prog 24 (some (.slice none 0 0)) 1 24 := ⟨inf24⟩
instance izs24 : Zs Tryz.prog 24 (.slice none 0 0) := ⟨zs24⟩
instance izi24 : Zi Tryz.prog 24 (some (.slice none 0 0)) 1 := ⟨zi24⟩
theorem inf26 : (Tryz.prog.info? 26).map (fun i => (i.zero, i.size, i.bytes)) = some (some (.agg #[.int .i64 0, .int .i64 0, .int .i64 0, .slice none 0 0, .slice none 0 0, .slice none 0 0]), 6, 96) := by kernel_rfl
theorem sz26 : (Tryz.prog.info? 26).map (·.size) = some 6 := by kernel_rfl
theorem zs26 : (Tryz.prog.info? 26).bind (·.zero) = some (.agg #[.int .i64 0, .int .i64 0, .int .i64 0, .slice none 0 0, .slice none 0 0, .slice none 0 0]) := by kernel_rfl
theorem zi26 : (Tryz.prog.info? 26).map (fun i => (i.zero, i.size)) = some (some (.agg #[.int .i64 0, .int .i64 0, .int .i64 0, .slice none 0 0, .slice none 0 0, .slice none 0 0]), 6) := by kernel_rfl
instance isz26 : Sz Tryz.prog 26 6 := ⟨sz26⟩
instance iin26 : Inf Tryz.prog 26 (some (.agg #[.int .i64 0, .int .i64 0, .int .i64 0, .slice none 0 0, .slice none 0 0, .slice none 0 0])) 6 96 := ⟨inf26⟩
instance izs26 : Zs Tryz.prog 26 (.agg #[.int .i64 0, .int .i64 0, .int .i64 0, .slice none 0 0, .slice none 0 0, .slice none 0 0]) := ⟨zs26⟩
instance izi26 : Zi Tryz.prog 26 (some (.agg #[.int .i64 0, .int .i64 0, .int .i64 0, .slice none 0 0, .slice none 0 0, .slice none 0 0])) 6 := ⟨zi26⟩
theorem inf27 : (Tryz.prog.info? 27).map (fun i => (i.zero, i.size, i.bytes)) = some (some (.slice none 0 0), 1, 24) := by kernel_rfl
theorem sz27 : (Tryz.prog.info? 27).map (·.size) = some 1 := by kernel_rfl
theorem zs27 : (Tryz.prog.info? 27).bind (·.zero) = some (.slice none 0 0) := by kernel_rfl
theorem zi27 : (Tryz.prog.info? 27).map (fun i => (i.zero, i.size)) = some (some (.slice none 0 0), 1) := by kernel_rfl
instance isz27 : Sz Tryz.prog 27 1 := ⟨sz27⟩
instance iin27 : Inf Tryz.prog 27 (some (.slice none 0 0)) 1 24 := ⟨inf27⟩
instance izs27 : Zs Tryz.prog 27 (.slice none 0 0) := ⟨zs27⟩
instance izi27 : Zi Tryz.prog 27 (some (.slice none 0 0)) 1 := ⟨zi27⟩
theorem inf29 : (Tryz.prog.info? 29).map (fun i => (i.zero, i.size, i.bytes)) = some (some (.slice none 0 0), 1, 24) := by kernel_rfl
theorem sz29 : (Tryz.prog.info? 29).map (·.size) = some 1 := by kernel_rfl
theorem zs29 : (Tryz.prog.info? 29).bind (·.zero) = some (.slice none 0 0) := by kernel_rfl
theorem zi29 : (Tryz.prog.info? 29).map (fun i => (i.zero, i.size)) = some (some (.slice none 0 0), 1) := by kernel_rfl
instance isz29 : Sz Tryz.prog 29 1 := ⟨sz29⟩
instance iin29 : Inf Tryz.prog 29 (some (.slice none 0 0)) 1 24 := ⟨inf29⟩
instance izs29 : Zs Tryz.prog 29 (.slice none 0 0) := ⟨zs29⟩
instance izi29 : Zi Tryz.prog 29 (some (.slice none 0 0)) 1 := ⟨zi29⟩
theorem inf30 : (Tryz.prog.info? 30).map (fun i => (i.zero, i.size, i.bytes)) = some (some (.slice none 0 0), 1, 24) := by kernel_rfl
theorem sz30 : (Tryz.prog.info? 30).map (·.size) = some 1 := by kernel_rfl
theorem zs30 : (Tryz.prog.info? 30).bind (·.zero) = some (.slice none 0 0) := by kernel_rfl
theorem zi30 : (Tryz.prog.info? 30).map (fun i => (i.zero, i.size)) = some (some (.slice none 0 0), 1) := by kernel_rfl
instance isz30 : Sz Tryz.prog 30 1 := ⟨sz30⟩
instance iin30 : Inf Tryz.prog 30 (some (.slice none 0 0)) 1 24 := ⟨inf30⟩
instance izs30 : Zs Tryz.prog 30 (.slice none 0 0) := ⟨zs30⟩
instance izi30 : Zi Tryz.prog 30 (some (.slice none 0 0)) 1 := ⟨zi30⟩
theorem inf31 : (Tryz.prog.info? 31).map (fun i => (i.zero, i.size, i.bytes)) = some (some (.slice none 0 0), 1, 24) := by kernel_rfl
theorem sz31 : (Tryz.prog.info? 31).map (·.size) = some 1 := by kernel_rfl
theorem zs31 : (Tryz.prog.info? 31).bind (·.zero) = some (.slice none 0 0) := by kernel_rfl
theorem zi31 : (Tryz.prog.info? 31).map (fun i => (i.zero, i.size)) = some (some (.slice none 0 0), 1) := by kernel_rfl
instance isz31 : Sz Tryz.prog 31 1 := ⟨sz31⟩
instance iin31 : Inf Tryz.prog 31 (some (.slice none 0 0)) 1 24 := ⟨inf31⟩
instance izs31 : Zs Tryz.prog 31 (.slice none 0 0) := ⟨zs31⟩
instance izi31 : Zi Tryz.prog 31 (some (.slice none 0 0)) 1 := ⟨zi31⟩
theorem inf33 : (Tryz.prog.info? 33).map (fun i => (i.zero, i.size, i.bytes)) = some (some (.agg #[.int .i64 0, .int .i64 0, .int .i64 0, .slice none 0 0, .slice none 0 0, .slice none 0 0]), 6, 96) := by kernel_rfl
theorem sz33 : (Tryz.prog.info? 33).map (·.size) = some 6 := by kernel_rfl
theorem zs33 : (Tryz.prog.info? 33).bind (·.zero) = some (.agg #[.int .i64 0, .int .i64 0, .int .i64 0, .slice none 0 0, .slice none 0 0, .slice none 0 0]) := by kernel_rfl
theorem zi33 : (Tryz.prog.info? 33).map (fun i => (i.zero, i.size)) = some (some (.agg #[.int .i64 0, .int .i64 0, .int .i64 0, .slice none 0 0, .slice none 0 0, .slice none 0 0]), 6) := by kernel_rfl
instance isz33 : Sz Tryz.prog 33 6 := ⟨sz33⟩
instance iin33 : Inf Tryz.prog 33 (some (.agg #[.int .i64 0, .int .i64 0, .int .i64 0, .slice none 0 0, .slice none 0 0, .slice none 0 0])) 6 96 := ⟨inf33⟩
instance izs33 : Zs Tryz.prog 33 (.agg #[.int .i64 0, .int .i64 0, .int .i64 0, .slice none 0 0, .slice none 0 0, .slice none 0 0]) := ⟨zs33⟩
instance izi33 : Zi Tryz.prog 33 (some (.agg #[.int .i64 0, .int .i64 0, .int .i64 0, .slice none 0 0, .slice none 0 0, .slice none 0 0])) 6 := ⟨zi33⟩
theorem inf43 : (Tryz.prog.info? 43).map (fun i => (i.zero, i.size, i.bytes)) = some (some (.slice none 0 0), 1, 24) := by kernel_rfl
theorem sz43 : (Tryz.prog.info? 43).map (·.size) = some 1 := by kernel_rfl
theorem zs43 : (Tryz.prog.info? 43).bind (·.zero) = some (.slice none 0 0) := by kernel_rfl
theorem zi43 : (Tryz.prog.info? 43).map (fun i => (i.zero, i.size)) = some (some (.slice none 0 0), 1) := by kernel_rfl
instance isz43 : Sz Tryz.prog 43 1 := ⟨sz43⟩
instance iin43 : Inf Tryz.prog 43 (some (.slice none 0 0)) 1 24 := ⟨inf43⟩
instance izs43 : Zs Tryz.prog 43 (.slice none 0 0) := ⟨zs43⟩
instance izi43 : Zi Tryz.prog 43 (some (.slice none 0 0)) 1 := ⟨zi43⟩
theorem inf45 : (Tryz.prog.info? 45).map (fun i => (i.zero, i.size, i.bytes)) = some (some (.agg #[.int .i64 0, .string ByteArray.empty, .string ByteArray.empty, .int .i64 0, .slice none 0 0]), 5, 72) := by kernel_rfl
theorem sz45 : (Tryz.prog.info? 45).map (·.size) = some 5 := by kernel_rfl
theorem zs45 : (Tryz.prog.info? 45).bind (·.zero) = some (.agg #[.int .i64 0, .string ByteArray.empty, .string ByteArray.empty, .int .i64 0, .slice none 0 0]) := by kernel_rfl
theorem zi45 : (Tryz.prog.info? 45).map (fun i => (i.zero, i.size)) = some (some (.agg #[.int .i64 0, .string ByteArray.empty, .string ByteArray.empty, .int .i64 0, .slice none 0 0]), 5) := by kernel_rfl
instance isz45 : Sz Tryz.prog 45 5 := ⟨sz45⟩
instance iin45 : Inf Tryz.prog 45 (some (.agg #[.int .i64 0, .string ByteArray.empty, .string ByteArray.empty, .int .i64 0, .slice none 0 0])) 5 72 := ⟨inf45⟩
instance izs45 : Zs Tryz.prog 45 (.agg #[.int .i64 0, .string ByteArray.empty, .string ByteArray.empty, .int .i64 0, .slice none 0 0]) := ⟨zs45⟩
instance izi45 : Zi Tryz.prog 45 (some (.agg #[.int .i64 0, .string ByteArray.empty, .string ByteArray.empty, .int .i64 0, .slice none 0 0])) 5 := ⟨zi45⟩
theorem inf49 : (Tryz.prog.info? 49).map (fun i => (i.zero, i.size, i.bytes)) = some (some (.agg #[.int .i64 0, .string ByteArray.empty, .string ByteArray.empty, .int .i64 0, .slice none 0 0]), 5, 72) := by kernel_rfl
theorem sz49 : (Tryz.prog.info? 49).map (·.size) = some 5 := by kernel_rfl
theorem zs49 : (Tryz.prog.info? 49).bind (·.zero) = some (.agg #[.int .i64 0, .string ByteArray.empty, .string ByteArray.empty, .int .i64 0, .slice none 0 0]) := by kernel_rfl
theorem zi49 : (Tryz.prog.info? 49).map (fun i => (i.zero, i.size)) = some (some (.agg #[.int .i64 0, .string ByteArray.empty, .string ByteArray.empty, .int .i64 0, .slice none 0 0]), 5) := by kernel_rfl
instance isz49 : Sz Tryz.prog 49 5 := ⟨sz49⟩
instance iin49 : Inf Tryz.prog 49 (some (.agg #[.int .i64 0, .string ByteArray.empty, .string ByteArray.empty, .int .i64 0, .slice none 0 0])) 5 72 := ⟨inf49⟩
instance izs49 : Zs Tryz.prog 49 (.agg #[.int .i64 0, .string ByteArray.empty, .string ByteArray.empty, .int .i64 0, .slice none 0 0]) := ⟨zs49⟩
instance izi49 : Zi Tryz.prog 49 (some (.agg #[.int .i64 0, .string ByteArray.empty, .string ByteArray.empty, .int .i64 0, .slice none 0 0])) 5 := ⟨zi49⟩
theorem inf54 : (Tryz.prog.info? 54).map (fun i => (i.zero, i.size, i.bytes)) = some (some (.slice none 0 0), 1, 24) := by kernel_rfl
theorem sz54 : (Tryz.prog.info? 54).map (·.size) = some 1 := by kernel_rfl
theorem zs54 : (Tryz.prog.info? 54).bind (·.zero) = some (.slice none 0 0) := by kernel_rfl
theorem zi54 : (Tryz.prog.info? 54).map (fun i => (i.zero, i.size)) = some (some (.slice none 0 0), 1) := by kernel_rfl
instance isz54 : Sz Tryz.prog 54 1 := ⟨sz54⟩
instance iin54 : Inf Tryz.prog 54 (some (.slice none 0 0)) 1 24 := ⟨inf54⟩
instance izs54 : Zs Tryz.prog 54 (.slice none 0 0) := ⟨zs54⟩
instance izi54 : Zi Tryz.prog 54 (some (.slice none 0 0)) 1 := ⟨zi54⟩
theorem inf58 : (Tryz.prog.info? 58).map (fun i => (i.zero, i.size, i.bytes)) = some (some (.slice none 0 0), 1, 24) := by kernel_rfl
theorem sz58 : (Tryz.prog.info? 58).map (·.size) = some 1 := by kernel_rfl
theorem zs58 : (Tryz.prog.info? 58).bind (·.zero) = some (.slice none 0 0) := by kernel_rfl
theorem zi58 : (Tryz.prog.info? 58).map (fun i => (i.zero, i.size)) = some (some (.slice none 0 0), 1) := by kernel_rfl
instance isz58 : Sz Tryz.prog 58 1 := ⟨sz58⟩
instance iin58 : Inf Tryz.prog 58 (some (.slice none 0 0)) 1 24 := ⟨inf58⟩
instance izs58 : Zs Tryz.prog 58 (.slice none 0 0) := ⟨zs58⟩
instance izi58 : Zi Tryz.prog 58 (some (.slice none 0 0)) 1 := ⟨zi58⟩
theorem inf64 : (Tryz.prog.info? 64).map (fun i => (i.zero, i.size, i.bytes)) = some (some (.slice none 0 0), 1, 24) := by kernel_rfl
theorem sz64 : (Tryz.prog.info? 64).map (·.size) = some 1 := by kernel_rfl
theorem zs64 : (Tryz.prog.info? 64).bind (·.zero) = some (.slice none 0 0) := by kernel_rfl
theorem zi64 : (Tryz.prog.info? 64).map (fun i => (i.zero, i.size)) = some (some (.slice none 0 0), 1) := by kernel_rfl
instance isz64 : Sz Tryz.prog 64 1 := ⟨sz64⟩
instance iin64 : Inf Tryz.prog 64 (some (.slice none 0 0)) 1 24 := ⟨inf64⟩
instance izs64 : Zs Tryz.prog 64 (.slice none 0 0) := ⟨zs64⟩
instance izi64 : Zi Tryz.prog 64 (some (.slice none 0 0)) 1 := ⟨zi64⟩
theorem inf66 : (Tryz.prog.info? 66).map (fun i => (i.zero, i.size, i.bytes)) = some (some (.agg #[.int .i64 0, .int .i64 0, .int .i64 0, .slice none 0 0, .slice none 0 0, .slice none 0 0, .int .i64 0, .int .i64 0, .slice none 0 0, .int .i64 0]), 10, 144) := by kernel_rfl
theorem sz66 : (Tryz.prog.info? 66).map (·.size) = some 10 := by kernel_rfl
theorem zs66 : (Tryz.prog.info? 66).bind (·.zero) = some (.agg #[.int .i64 0, .int .i64 0, .int .i64 0, .slice none 0 0, .slice none 0 0, .slice none 0 0, .int .i64 0, .int .i64 0, .slice none 0 0, .int .i64 0]) := by kernel_rfl
theorem zi66 : (Tryz.prog.info? 66).map (fun i => (i.zero, i.size)) = some (some (.agg #[.int .i64 0, .int .i64 0, .int .i64 0, .slice none 0 0, .slice none 0 0, .slice none 0 0, .int .i64 0, .int .i64 0, .slice none 0 0, .int .i64 0]), 10) := by kernel_rfl
instance isz66 : Sz Tryz.prog 66 10 := ⟨sz66⟩
instance iin66 : Inf Tryz.prog 66 (some (.agg #[.int .i64 0, .int .i64 0, .int .i64 0, .slice none 0 0, .slice none 0 0, .slice none 0 0, .int .i64 0, .int .i64 0, .slice none 0 0, .int .i64 0])) 10 144 := ⟨inf66⟩
instance izs66 : Zs Tryz.prog 66 (.agg #[.int .i64 0, .int .i64 0, .int .i64 0, .slice none 0 0, .slice none 0 0, .slice none 0 0, .int .i64 0, .int .i64 0, .slice none 0 0, .int .i64 0]) := ⟨zs66⟩
instance izi66 : Zi Tryz.prog 66 (some (.agg #[.int .i64 0, .int .i64 0, .int .i64 0, .slice none 0 0, .slice none 0 0, .slice none 0 0, .int .i64 0, .int .i64 0, .slice none 0 0, .int .i64 0])) 10 := ⟨zi66⟩
theorem inf82 : (Tryz.prog.info? 82).map (fun i => (i.zero, i.size, i.bytes)) = some (some (.agg #[.int .i64 0, .string ByteArray.empty]), 2, 24) := by kernel_rfl
theorem sz82 : (Tryz.prog.info? 82).map (·.size) = some 2 := by kernel_rfl
theorem zs82 : (Tryz.prog.info? 82).bind (·.zero) = some (.agg #[.int .i64 0, .string ByteArray.empty]) := by kernel_rfl
theorem zi82 : (Tryz.prog.info? 82).map (fun i => (i.zero, i.size)) = some (some (.agg #[.int .i64 0, .string ByteArray.empty]), 2) := by kernel_rfl
instance isz82 : Sz Tryz.prog 82 2 := ⟨sz82⟩
instance iin82 : Inf Tryz.prog 82 (some (.agg #[.int .i64 0, .string ByteArray.empty])) 2 24 := ⟨inf82⟩
instance izs82 : Zs Tryz.prog 82 (.agg #[.int .i64 0, .string ByteArray.empty]) := ⟨zs82⟩
instance izi82 : Zi Tryz.prog 82 (some (.agg #[.int .i64 0, .string ByteArray.empty])) 2 := ⟨zi82⟩
theorem inf98 : (Tryz.prog.info? 98).map (fun i => (i.zero, i.size, i.bytes)) = some (some (.agg #[.int .i64 0, .slice none 0 0, .slice none 0 0]), 3, 56) := by kernel_rfl
theorem sz98 : (Tryz.prog.info? 98).map (·.size) = some 3 := by kernel_rfl
theorem zs98 : (Tryz.prog.info? 98).bind (·.zero) = some (.agg #[.int .i64 0, .slice none 0 0, .slice none 0 0]) := by kernel_rfl
theorem zi98 : (Tryz.prog.info? 98).map (fun i => (i.zero, i.size)) = some (some (.agg #[.int .i64 0, .slice none 0 0, .slice none 0 0]), 3) := by kernel_rfl
instance isz98 : Sz Tryz.prog 98 3 := ⟨sz98⟩
instance iin98 : Inf Tryz.prog 98 (some (.agg #[.int .i64 0, .slice none 0 0, .slice none 0 0])) 3 56 := ⟨inf98⟩
instance izs98 : Zs Tryz.prog 98 (.agg #[.int .i64 0, .slice none 0 0, .slice none 0 0]) := ⟨zs98⟩
instance izi98 : Zi Tryz.prog 98 (some (.agg #[.int .i64 0, .slice none 0 0, .slice none 0 0])) 3 := ⟨zi98⟩
theorem inf103 : (Tryz.prog.info? 103).map (fun i => (i.zero, i.size, i.bytes)) = some (some (.map none), 1, 8) := by kernel_rfl
theorem sz103 : (Tryz.prog.info? 103).map (·.size) = some 1 := by kernel_rfl
theorem zs103 : (Tryz.prog.info? 103).bind (·.zero) = some (.map none) := by kernel_rfl
theorem zi103 : (Tryz.prog.info? 103).map (fun i => (i.zero, i.size)) = some (some (.map none), 1) := by kernel_rfl
instance isz103 : Sz Tryz.prog 103 1 := ⟨sz103⟩
instance iin103 : Inf Tryz.prog 103 (some (.map none)) 1 8 := ⟨inf103⟩
instance izs103 : Zs Tryz.prog 103 (.map none) := ⟨zs103⟩
instance izi103 : Zi Tryz.prog 103 (some (.map none)) 1 := ⟨zi103⟩
theorem inf104 : (Tryz.prog.info? 104).map (fun i => (i.zero, i.size, i.bytes)) = some (some (.map none), 1, 8) := by kernel_rfl
theorem sz104 : (Tryz.prog.info? 104).map (·.size) = some 1 := by kernel_rfl
theorem zs104 : (Tryz.prog.info? 104).bind (·.zero) = some (.map none) := by kernel_rfl
theorem zi104 : (Tryz.prog.info? 104).map (fun i => (i.zero, i.size)) = some (some (.map none), 1) := by kernel_rfl
instance isz104 : Sz Tryz.prog 104 1 := ⟨sz104⟩
instance iin104 : Inf Tryz.prog 104 (some (.map none)) 1 8 := ⟨inf104⟩
instance izs104 : Zs Tryz.prog 104 (.map none) := ⟨zs104⟩
instance izi104 : Zi Tryz.prog 104 (some (.map none)) 1 := ⟨zi104⟩
theorem inf109 : (Tryz.prog.info? 109).map (fun i => (i.zero, i.size, i.bytes)) = some (some (.pointer none), 1, 8) := by kernel_rfl
theorem sz109 : (Tryz.prog.info? 109).map (·.size) = some 1 := by kernel_rfl
theorem zs109 : (Tryz.prog.info? 109).bind (·.zero) = some (.pointer none) := by kernel_rfl
theorem zi109 : (Tryz.prog.info? 109).map (fun i => (i.zero, i.size)) = some (some (.pointer none), 1) := by kernel_rfl
instance isz109 : Sz Tryz.prog 109 1 := ⟨sz109⟩
instance iin109 : Inf Tryz.prog 109 (some (.pointer none)) 1 8 := ⟨inf109⟩
instance izs109 : Zs Tryz.prog 109 (.pointer none) := ⟨zs109⟩
instance izi109 : Zi Tryz.prog 109 (some (.pointer none)) 1 := ⟨zi109⟩
theorem inf121 : (Tryz.prog.info? 121).map (fun i => (i.zero, i.size, i.bytes)) = some (some (.agg #[.int .i64 0, .string ByteArray.empty, .string ByteArray.empty, .int .i64 0]), 4, 48) := by kernel_rfl
theorem sz121 : (Tryz.prog.info? 121).map (·.size) = some 4 := by kernel_rfl
theorem zs121 : (Tryz.prog.info? 121).bind (·.zero) = some (.agg #[.int .i64 0, .string ByteArray.empty, .string ByteArray.empty, .int .i64 0]) := by kernel_rfl
theorem zi121 : (Tryz.prog.info? 121).map (fun i => (i.zero, i.size)) = some (some (.agg #[.int .i64 0, .string ByteArray.empty, .string ByteArray.empty, .int .i64 0]), 4) := by kernel_rfl
instance isz121 : Sz Tryz.prog 121 4 := ⟨sz121⟩
instance iin121 : Inf Tryz.prog 121 (some (.agg #[.int .i64 0, .string ByteArray.empty, .string ByteArray.empty, .int .i64 0])) 4 48 := ⟨inf121⟩
instance izs121 : Zs Tryz.prog 121 (.agg #[.int .i64 0, .string ByteArray.empty, .string ByteArray.empty, .int .i64 0]) := ⟨zs121⟩
instance izi121 : Zi Tryz.prog 121 (some (.agg #[.int .i64 0, .string ByteArray.empty, .string ByteArray.empty, .int .i64 0])) 4 := ⟨zi121⟩
theorem inf128 : (Tryz.prog.info? 128).map (fun i => (i.zero, i.size, i.bytes)) = some (some (.pointer none), 1, 8) := by kernel_rfl
theorem sz128 : (Tryz.prog.info? 128).map (·.size) = some 1 := by kernel_rfl
theorem zs128 : (Tryz.prog.info? 128).bind (·.zero) = some (.pointer none) := by kernel_rfl
theorem zi128 : (Tryz.prog.info? 128).map (fun i => (i.zero, i.size)) = some (some (.pointer none), 1) := by kernel_rfl
instance isz128 : Sz Tryz.prog 128 1 := ⟨sz128⟩
instance iin128 : Inf Tryz.prog 128 (some (.pointer none)) 1 8 := ⟨inf128⟩
instance izs128 : Zs Tryz.prog 128 (.pointer none) := ⟨zs128⟩
instance izi128 : Zi Tryz.prog 128 (some (.pointer none)) 1 := ⟨zi128⟩
theorem inf133 : (Tryz.prog.info? 133).map (fun i => (i.zero, i.size, i.bytes)) = some (some (.agg #[.int .i64 0, .int .i64 0, .int .i64 0, .slice none 0 0, .slice none 0 0, .slice none 0 0, .int .i64 0]), 7, 104) := by kernel_rfl
theorem sz133 : (Tryz.prog.info? 133).map (·.size) = some 7 := by kernel_rfl
theorem zs133 : (Tryz.prog.info? 133).bind (·.zero) = some (.agg #[.int .i64 0, .int .i64 0, .int .i64 0, .slice none 0 0, .slice none 0 0, .slice none 0 0, .int .i64 0]) := by kernel_rfl
theorem zi133 : (Tryz.prog.info? 133).map (fun i => (i.zero, i.size)) = some (some (.agg #[.int .i64 0, .int .i64 0, .int .i64 0, .slice none 0 0, .slice none 0 0, .slice none 0 0, .int .i64 0]), 7) := by kernel_rfl
instance isz133 : Sz Tryz.prog 133 7 := ⟨sz133⟩
instance iin133 : Inf Tryz.prog 133 (some (.agg #[.int .i64 0, .int .i64 0, .int .i64 0, .slice none 0 0, .slice none 0 0, .slice none 0 0, .int .i64 0])) 7 104 := ⟨inf133⟩
instance izs133 : Zs Tryz.prog 133 (.agg #[.int .i64 0, .int .i64 0, .int .i64 0, .slice none 0 0, .slice none 0 0, .slice none 0 0, .int .i64 0]) := ⟨zs133⟩
instance izi133 : Zi Tryz.prog 133 (some (.agg #[.int .i64 0, .int .i64 0, .int .i64 0, .slice none 0 0, .slice none 0 0, .slice none 0 0, .int .i64 0])) 7 := ⟨zi133⟩
theorem inf138 : (Tryz.prog.info? 138).map (fun i => (i.zero, i.size, i.bytes)) = some (some (.pointer none), 1, 8) := by kernel_rfl
theorem sz138 : (Tryz.prog.info? 138).map (·.size) = some 1 := by kernel_rfl
theorem zs138 : (Tryz.prog.info? 138).bind (·.zero) = some (.pointer none) := by kernel_rfl
theorem zi138 : (Tryz.prog.info? 138).map (fun i => (i.zero, i.size)) = some (some (.pointer none), 1) := by kernel_rfl
instance isz138 : Sz Tryz.prog 138 1 := ⟨sz138⟩
instance iin138 : Inf Tryz.prog 138 (some (.pointer none)) 1 8 := ⟨inf138⟩
instance izs138 : Zs Tryz.prog 138 (.pointer none) := ⟨zs138⟩
instance izi138 : Zi Tryz.prog 138 (some (.pointer none)) 1 := ⟨zi138⟩
theorem inf148 : (Tryz.prog.info? 148).map (fun i => (i.zero, i.size, i.bytes)) = some (some (.agg #[.slice none 0 0, .int .i64 0, .int .i64 0]), 3, 40) := by kernel_rfl
theorem sz148 : (Tryz.prog.info? 148).map (·.size) = some 3 := by kernel_rfl
theorem zs148 : (Tryz.prog.info? 148).bind (·.zero) = some (.agg #[.slice none 0 0, .int .i64 0, .int .i64 0]) := by kernel_rfl
theorem zi148 : (Tryz.prog.info? 148).map (fun i => (i.zero, i.size)) = some (some (.agg #[.slice none 0 0, .int .i64 0, .int .i64 0]), 3) := by kernel_rfl
instance isz148 : Sz Tryz.prog 148 3 := ⟨sz148⟩
instance iin148 : Inf Tryz.prog 148 (some (.agg #[.slice none 0 0, .int .i64 0, .int .i64 0])) 3 40 := ⟨inf148⟩
instance izs148 : Zs Tryz.prog 148 (.agg #[.slice none 0 0, .int .i64 0, .int .i64 0]) := ⟨zs148⟩
instance izi148 : Zi Tryz.prog 148 (some (.agg #[.slice none 0 0, .int .i64 0, .int .i64 0])) 3 := ⟨zi148⟩
theorem inf156 : (Tryz.prog.info? 156).map (fun i => (i.zero, i.size, i.bytes)) = some (some (.agg #[.int .i64 0, .slice none 0 0, .slice none 0 0]), 3, 56) := by kernel_rfl
theorem sz156 : (Tryz.prog.info? 156).map (·.size) = some 3 := by kernel_rfl
theorem zs156 : (Tryz.prog.info? 156).bind (·.zero) = some (.agg #[.int .i64 0, .slice none 0 0, .slice none 0 0]) := by kernel_rfl
theorem zi156 : (Tryz.prog.info? 156).map (fun i => (i.zero, i.size)) = some (some (.agg #[.int .i64 0, .slice none 0 0, .slice none 0 0]), 3) := by kernel_rfl
instance isz156 : Sz Tryz.prog 156 3 := ⟨sz156⟩
instance iin156 : Inf Tryz.prog 156 (some (.agg #[.int .i64 0, .slice none 0 0, .slice none 0 0])) 3 56 := ⟨inf156⟩
instance izs156 : Zs Tryz.prog 156 (.agg #[.int .i64 0, .slice none 0 0, .slice none 0 0]) := ⟨zs156⟩
instance izi156 : Zi Tryz.prog 156 (some (.agg #[.int .i64 0, .slice none 0 0, .slice none 0 0])) 3 := ⟨zi156⟩
theorem inf159 : (Tryz.prog.info? 159).map (fun i => (i.zero, i.size, i.bytes)) = some (some (.agg #[.string ByteArray.empty, .int .i64 0]), 2, 24) := by kernel_rfl
theorem sz159 : (Tryz.prog.info? 159).map (·.size) = some 2 := by kernel_rfl
theorem zs159 : (Tryz.prog.info? 159).bind (·.zero) = some (.agg #[.string ByteArray.empty, .int .i64 0]) := by kernel_rfl
theorem zi159 : (Tryz.prog.info? 159).map (fun i => (i.zero, i.size)) = some (some (.agg #[.string ByteArray.empty, .int .i64 0]), 2) := by kernel_rfl
instance isz159 : Sz Tryz.prog 159 2 := ⟨sz159⟩
instance iin159 : Inf Tryz.prog 159 (some (.agg #[.string ByteArray.empty, .int .i64 0])) 2 24 := ⟨inf159⟩
instance izs159 : Zs Tryz.prog 159 (.agg #[.string ByteArray.empty, .int .i64 0]) := ⟨zs159⟩
instance izi159 : Zi Tryz.prog 159 (some (.agg #[.string ByteArray.empty, .int .i64 0])) 2 := ⟨zi159⟩
theorem inf161 : (Tryz.prog.info? 161).map (fun i => (i.zero, i.size, i.bytes)) = some (some (.agg #[.int .i64 0, .string ByteArray.empty, .string ByteArray.empty, .int .i64 0]), 4, 48) := by kernel_rfl
theorem sz161 : (Tryz.prog.info? 161).map (·.size) = some 4 := by kernel_rfl
theorem zs161 : (Tryz.prog.info? 161).bind (·.zero) = some (.agg #[.int .i64 0, .string ByteArray.empty, .string ByteArray.empty, .int .i64 0]) := by kernel_rfl
theorem zi161 : (Tryz.prog.info? 161).map (fun i => (i.zero, i.size)) = some (some (.agg #[.int .i64 0, .string ByteArray.empty, .string ByteArray.empty, .int .i64 0]), 4) := by kernel_rfl
instance isz161 : Sz Tryz.prog 161 4 := ⟨sz161⟩
instance iin161 : Inf Tryz.prog 161 (some (.agg #[.int .i64 0, .string ByteArray.empty, .string ByteArray.empty, .int .i64 0])) 4 48 := ⟨inf161⟩
instance izs161 : Zs Tryz.prog 161 (.agg #[.int .i64 0, .string ByteArray.empty, .string ByteArray.empty, .int .i64 0]) := ⟨zs161⟩
instance izi161 : Zi Tryz.prog 161 (some (.agg #[.int .i64 0, .string ByteArray.empty, .string ByteArray.empty, .int .i64 0])) 4 := ⟨zi161⟩
theorem inf162 : (Tryz.prog.info? 162).map (fun i => (i.zero, i.size, i.bytes)) = some (some (.agg #[.string ByteArray.empty, .int .i64 0]), 2, 24) := by kernel_rfl
theorem sz162 : (Tryz.prog.info? 162).map (·.size) = some 2 := by kernel_rfl
theorem zs162 : (Tryz.prog.info? 162).bind (·.zero) = some (.agg #[.string ByteArray.empty, .int .i64 0]) := by kernel_rfl
theorem zi162 : (Tryz.prog.info? 162).map (fun i => (i.zero, i.size)) = some (some (.agg #[.string ByteArray.empty, .int .i64 0]), 2) := by kernel_rfl
instance isz162 : Sz Tryz.prog 162 2 := ⟨sz162⟩
instance iin162 : Inf Tryz.prog 162 (some (.agg #[.string ByteArray.empty, .int .i64 0])) 2 24 := ⟨inf162⟩
instance izs162 : Zs Tryz.prog 162 (.agg #[.string ByteArray.empty, .int .i64 0]) := ⟨zs162⟩
instance izi162 : Zi Tryz.prog 162 (some (.agg #[.string ByteArray.empty, .int .i64 0])) 2 := ⟨zi162⟩
theorem inf171 : (Tryz.prog.info? 171).map (fun i => (i.zero, i.size, i.bytes)) = some (some (.pointer none), 1, 8) := by kernel_rfl
theorem sz171 : (Tryz.prog.info? 171).map (·.size) = some 1 := by kernel_rfl
theorem zs171 : (Tryz.prog.info? 171).bind (·.zero) = some (.pointer none) := by kernel_rfl
theorem zi171 : (Tryz.prog.info? 171).map (fun i => (i.zero, i.size)) = some (some (.pointer none), 1) := by kernel_rfl
instance isz171 : Sz Tryz.prog 171 1 := ⟨sz171⟩
instance iin171 : Inf Tryz.prog 171 (some (.pointer none)) 1 8 := ⟨inf171⟩
instance izs171 : Zs Tryz.prog 171 (.pointer none) := ⟨zs171⟩
instance izi171 : Zi Tryz.prog 171 (some (.pointer none)) 1 := ⟨zi171⟩
theorem inf172 : (Tryz.prog.info? 172).map (fun i => (i.zero, i.size, i.bytes)) = some (some (.map none), 1, 8) := by kernel_rfl
theorem sz172 : (Tryz.prog.info? 172).map (·.size) = some 1 := by kernel_rfl
theorem zs172 : (Tryz.prog.info? 172).bind (·.zero) = some (.map none) := by kernel_rfl
theorem zi172 : (Tryz.prog.info? 172).map (fun i => (i.zero, i.size)) = some (some (.map none), 1) := by kernel_rfl
instance isz172 : Sz Tryz.prog 172 1 := ⟨sz172⟩
instance iin172 : Inf Tryz.prog 172 (some (.map none)) 1 8 := ⟨inf172⟩
instance izs172 : Zs Tryz.prog 172 (.map none) := ⟨zs172⟩
instance izi172 : Zi Tryz.prog 172 (some (.map none)) 1 := ⟨zi172⟩
theorem inf178 : (Tryz.prog.info? 178).map (fun i => (i.zero, i.size, i.bytes)) = some (some (.pointer none), 1, 8) := by kernel_rfl
theorem sz178 : (Tryz.prog.info? 178).map (·.size) = some 1 := by kernel_rfl
theorem zs178 : (Tryz.prog.info? 178).bind (·.zero) = some (.pointer none) := by kernel_rfl
theorem zi178 : (Tryz.prog.info? 178).map (fun i => (i.zero, i.size)) = some (some (.pointer none), 1) := by kernel_rfl
instance isz178 : Sz Tryz.prog 178 1 := ⟨sz178⟩
instance iin178 : Inf Tryz.prog 178 (some (.pointer none)) 1 8 := ⟨inf178⟩
instance izs178 : Zs Tryz.prog 178 (.pointer none) := ⟨zs178⟩
instance izi178 : Zi Tryz.prog 178 (some (.pointer none)) 1 := ⟨zi178⟩
theorem inf185 : (Tryz.prog.info? 185).map (fun i => (i.zero, i.size, i.bytes)) = some (some (.slice none 0 0), 1, 24) := by kernel_rfl
theorem sz185 : (Tryz.prog.info? 185).map (·.size) = some 1 := by kernel_rfl
theorem zs185 : (Tryz.prog.info? 185).bind (·.zero) = some (.slice none 0 0) := by kernel_rfl
theorem zi185 : (Tryz.prog.info? 185).map (fun i => (i.zero, i.size)) = some (some (.slice none 0 0), 1) := by kernel_rfl
instance isz185 : Sz Tryz.prog 185 1 := ⟨sz185⟩
instance iin185 : Inf Tryz.prog 185 (some (.slice none 0 0)) 1 24 := ⟨inf185⟩
instance izs185 : Zs Tryz.prog 185 (.slice none 0 0) := ⟨zs185⟩
instance izi185 : Zi Tryz.prog 185 (some (.slice none 0 0)) 1 := ⟨zi185⟩
theorem inf202 : (Tryz.prog.info? 202).map (fun i => (i.zero, i.size, i.bytes)) = some (some (.int .u64 0), 1, 8) := by kernel_rfl
theorem sz202 : (Tryz.prog.info? 202).map (·.size) = some 1 := by kernel_rfl
theorem zs202 : (Tryz.prog.info? 202).bind (·.zero) = some (.int .u64 0) := by kernel_rfl
theorem zi202 : (Tryz.prog.info? 202).map (fun i => (i.zero, i.size)) = some (some (.int .u64 0), 1) := by kernel_rfl
instance isz202 : Sz Tryz.prog 202 1 := ⟨sz202⟩
instance iin202 : Inf Tryz.prog 202 (some (.int .u64 0)) 1 8 := ⟨inf202⟩
instance izs202 : Zs Tryz.prog 202 (.int .u64 0) := ⟨zs202⟩
instance izi202 : Zi Tryz.prog 202 (some (.int .u64 0)) 1 := ⟨zi202⟩
theorem inf210 : (Tryz.prog.info? 210).map (fun i => (i.zero, i.size, i.bytes)) = some (some (.int .u32 0), 1, 4) := by kernel_rfl
theorem sz210 : (Tryz.prog.info? 210).map (·.size) = some 1 := by kernel_rfl
theorem zs210 : (Tryz.prog.info? 210).bind (·.zero) = some (.int .u32 0) := by kernel_rfl
theorem zi210 : (Tryz.prog.info? 210).map (fun i => (i.zero, i.size)) = some (some (.int .u32 0), 1) := by kernel_rfl
instance isz210 : Sz Tryz.prog 210 1 := ⟨sz210⟩
instance iin210 : Inf Tryz.prog 210 (some (.int .u32 0)) 1 4 := ⟨inf210⟩
instance izs210 : Zs Tryz.prog 210 (.int .u32 0) := ⟨zs210⟩
instance izi210 : Zi Tryz.prog 210 (some (.int .u32 0)) 1 := ⟨zi210⟩
theorem inf213 : (Tryz.prog.info? 213).map (fun i => (i.zero, i.size, i.bytes)) = some (some (.pointer none), 1, 8) := by kernel_rfl
theorem sz213 : (Tryz.prog.info? 213).map (·.size) = some 1 := by kernel_rfl
theorem zs213 : (Tryz.prog.info? 213).bind (·.zero) = some (.pointer none) := by kernel_rfl
theorem zi213 : (Tryz.prog.info? 213).map (fun i => (i.zero, i.size)) = some (some (.pointer none), 1) := by kernel_rfl
instance isz213 : Sz Tryz.prog 213 1 := ⟨sz213⟩
instance iin213 : Inf Tryz.prog 213 (some (.pointer none)) 1 8 := ⟨inf213⟩
instance izs213 : Zs Tryz.prog 213 (.pointer none) := ⟨zs213⟩
instance izi213 : Zi Tryz.prog 213 (some (.pointer none)) 1 := ⟨zi213⟩
theorem inf216 : (Tryz.prog.info? 216).map (fun i => (i.zero, i.size, i.bytes)) = some (some (.int .u64 0), 1, 8) := by kernel_rfl
theorem sz216 : (Tryz.prog.info? 216).map (·.size) = some 1 := by kernel_rfl
theorem zs216 : (Tryz.prog.info? 216).bind (·.zero) = some (.int .u64 0) := by kernel_rfl
theorem zi216 : (Tryz.prog.info? 216).map (fun i => (i.zero, i.size)) = some (some (.int .u64 0), 1) := by kernel_rfl
instance isz216 : Sz Tryz.prog 216 1 := ⟨sz216⟩
instance iin216 : Inf Tryz.prog 216 (some (.int .u64 0)) 1 8 := ⟨inf216⟩
instance izs216 : Zs Tryz.prog 216 (.int .u64 0) := ⟨zs216⟩
instance izi216 : Zi Tryz.prog 216 (some (.int .u64 0)) 1 := ⟨zi216⟩
theorem inf229 : (Tryz.prog.info? 229).map (fun i => (i.zero, i.size, i.bytes)) = some (some (.pointer none), 1, 8) := by kernel_rfl
theorem sz229 : (Tryz.prog.info? 229).map (·.size) = some 1 := by kernel_rfl
theorem zs229 : (Tryz.prog.info? 229).bind (·.zero) = some (.pointer none) := by kernel_rfl
theorem zi229 : (Tryz.prog.info? 229).map (fun i => (i.zero, i.size)) = some (some (.pointer none), 1) := by kernel_rfl
instance isz229 : Sz Tryz.prog 229 1 := ⟨sz229⟩
instance iin229 : Inf Tryz.prog 229 (some (.pointer none)) 1 8 := ⟨inf229⟩
instance izs229 : Zs Tryz.prog 229 (.pointer none) := ⟨zs229⟩
instance izi229 : Zi Tryz.prog 229 (some (.pointer none)) 1 := ⟨zi229⟩
theorem inf231 : (Tryz.prog.info? 231).map (fun i => (i.zero, i.size, i.bytes)) = some (some (.pointer none), 1, 8) := by kernel_rfl
theorem sz231 : (Tryz.prog.info? 231).map (·.size) = some 1 := by kernel_rfl
theorem zs231 : (Tryz.prog.info? 231).bind (·.zero) = some (.pointer none) := by kernel_rfl
theorem zi231 : (Tryz.prog.info? 231).map (fun i => (i.zero, i.size)) = some (some (.pointer none), 1) := by kernel_rfl
instance isz231 : Sz Tryz.prog 231 1 := ⟨sz231⟩
instance iin231 : Inf Tryz.prog 231 (some (.pointer none)) 1 8 := ⟨inf231⟩
instance izs231 : Zs Tryz.prog 231 (.pointer none) := ⟨zs231⟩
instance izi231 : Zi Tryz.prog 231 (some (.pointer none)) 1 := ⟨zi231⟩
theorem inf243 : (Tryz.prog.info? 243).map (fun i => (i.zero, i.size, i.bytes)) = some (some (.pointer none), 1, 8) := by kernel_rfl
theorem sz243 : (Tryz.prog.info? 243).map (·.size) = some 1 := by kernel_rfl
theorem zs243 : (Tryz.prog.info? 243).bind (·.zero) = some (.pointer none) := by kernel_rfl
theorem zi243 : (Tryz.prog.info? 243).map (fun i => (i.zero, i.size)) = some (some (.pointer none), 1) := by kernel_rfl
instance isz243 : Sz Tryz.prog 243 1 := ⟨sz243⟩
instance iin243 : Inf Tryz.prog 243 (some (.pointer none)) 1 8 := ⟨inf243⟩
instance izs243 : Zs Tryz.prog 243 (.pointer none) := ⟨zs243⟩
instance izi243 : Zi Tryz.prog 243 (some (.pointer none)) 1 := ⟨zi243⟩
instance ius3 : Us Tryz.prog 3 (descOf Tryz.underlying3) := ⟨Tryz.underlying3⟩
instance ius4 : Us Tryz.prog 4 (descOf Tryz.underlying4) := ⟨Tryz.underlying4⟩
instance ius5 : Us Tryz.prog 5 (descOf Tryz.underlying5) := ⟨Tryz.underlying5⟩
instance ius9 : Us Tryz.prog 9 (descOf Tryz.underlying9) := ⟨Tryz.underlying9⟩
instance ius22 : Us Tryz.prog 22 (descOf Tryz.underlying22) := ⟨Tryz.underlying22⟩
instance ius23 : Us Tryz.prog 23 (descOf Tryz.underlying23) := ⟨Tryz.underlying23⟩
instance ius24 : Us Tryz.prog 24 (descOf Tryz.underlying24) := ⟨Tryz.underlying24⟩
instance ius26 : Us Tryz.prog 26 (descOf Tryz.underlying26) := ⟨Tryz.underlying26⟩
instance ius27 : Us Tryz.prog 27 (descOf Tryz.underlying27) := ⟨Tryz.underlying27⟩
instance ius29 : Us Tryz.prog 29 (descOf Tryz.underlying29) := ⟨Tryz.underlying29⟩
instance ius30 : Us Tryz.prog 30 (descOf Tryz.underlying30) := ⟨Tryz.underlying30⟩
instance ius31 : Us Tryz.prog 31 (descOf Tryz.underlying31) := ⟨Tryz.underlying31⟩
instance ius33 : Us Tryz.prog 33 (descOf Tryz.underlying33) := ⟨Tryz.underlying33⟩
instance ius43 : Us Tryz.prog 43 (descOf Tryz.underlying43) := ⟨Tryz.underlying43⟩
instance ius45 : Us Tryz.prog 45 (descOf Tryz.underlying45) := ⟨Tryz.underlying45⟩
instance ius49 : Us Tryz.prog 49 (descOf Tryz.underlying49) := ⟨Tryz.underlying49⟩
instance ius54 : Us Tryz.prog 54 (descOf Tryz.underlying54) := ⟨Tryz.underlying54⟩
instance ius58 : Us Tryz.prog 58 (descOf Tryz.underlying58) := ⟨Tryz.underlying58⟩
instance ius64 : Us Tryz.prog 64 (descOf Tryz.underlying64) := ⟨Tryz.underlying64⟩
instance ius66 : Us Tryz.prog 66 (descOf Tryz.underlying66) := ⟨Tryz.underlying66⟩
instance ius82 : Us Tryz.prog 82 (descOf Tryz.underlying82) := ⟨Tryz.underlying82⟩
instance ius98 : Us Tryz.prog 98 (descOf Tryz.underlying98) := ⟨Tryz.underlying98⟩
instance ius121 : Us Tryz.prog 121 (descOf Tryz.underlying121) := ⟨Tryz.underlying121⟩
instance ius133 : Us Tryz.prog 133 (descOf Tryz.underlying133) := ⟨Tryz.underlying133⟩
instance ius148 : Us Tryz.prog 148 (descOf Tryz.underlying148) := ⟨Tryz.underlying148⟩
instance ius156 : Us Tryz.prog 156 (descOf Tryz.underlying156) := ⟨Tryz.underlying156⟩
instance ius159 : Us Tryz.prog 159 (descOf Tryz.underlying159) := ⟨Tryz.underlying159⟩
instance ius161 : Us Tryz.prog 161 (descOf Tryz.underlying161) := ⟨Tryz.underlying161⟩
instance ius162 : Us Tryz.prog 162 (descOf Tryz.underlying162) := ⟨Tryz.underlying162⟩
instance ius185 : Us Tryz.prog 185 (descOf Tryz.underlying185) := ⟨Tryz.underlying185⟩
instance ius202 : Us Tryz.prog 202 (descOf Tryz.underlying202) := ⟨Tryz.underlying202⟩
instance ius210 : Us Tryz.prog 210 (descOf Tryz.underlying210) := ⟨Tryz.underlying210⟩
theorem fl3 : flat Tryz.prog 3 = true := by unfold flat; rw [Tryz.underlying3]
theorem fl4 : flat Tryz.prog 4 = true := by unfold flat; rw [Tryz.underlying4]
theorem fl5 : flat Tryz.prog 5 = true := by unfold flat; rw [Tryz.underlying5]
theorem fl9 : flat Tryz.prog 9 = true := by unfold flat; rw [Tryz.underlying9]
theorem fl22 : flat Tryz.prog 22 = true := by unfold flat; rw [Tryz.underlying22]
theorem fl23 : flat Tryz.prog 23 = true := by unfold flat; rw [Tryz.underlying23]
theorem fl24 : flat Tryz.prog 24 = true := by unfold flat; rw [Tryz.underlying24]
theorem fl27 : flat Tryz.prog 27 = true := by unfold flat; rw [Tryz.underlying27]
theorem fl29 : flat Tryz.prog 29 = true := by unfold flat; rw [Tryz.underlying29]
theorem fl30 : flat Tryz.prog 30 = true := by unfold flat; rw [Tryz.underlying30]
theorem fl31 : flat Tryz.prog 31 = true := by unfold flat; rw [Tryz.underlying31]
theorem fl43 : flat Tryz.prog 43 = true := by unfold flat; rw [Tryz.underlying43]
theorem fl54 : flat Tryz.prog 54 = true := by unfold flat; rw [Tryz.underlying54]
theorem fl58 : flat Tryz.prog 58 = true := by unfold flat; rw [Tryz.underlying58]
theorem fl64 : flat Tryz.prog 64 = true := by unfold flat; rw [Tryz.underlying64]
theorem fl103 : flat Tryz.prog 103 = true := by unfold flat; rw [Tryz.underlying103]
theorem fl104 : flat Tryz.prog 104 = true := by unfold flat; rw [Tryz.underlying104]
theorem fl109 : flat Tryz.prog 109 = true := by unfold flat; rw [Tryz.underlying109]
theorem fl128 : flat Tryz.prog 128 = true := by unfold flat; rw [Tryz.underlying128]
theorem fl138 : flat Tryz.prog 138 = true := by unfold flat; rw [Tryz.underlying138]
theorem fl171 : flat Tryz.prog 171 = true := by unfold flat; rw [Tryz.underlying171]
theorem fl172 : flat Tryz.prog 172 = true := by unfold flat; rw [Tryz.underlying172]
theorem fl178 : flat Tryz.prog 178 = true := by unfold flat; rw [Tryz.underlying178]
theorem fl185 : flat Tryz.prog 185 = true := by unfold flat; rw [Tryz.underlying185]
theorem fl202 : flat Tryz.prog 202 = true := by unfold flat; rw [Tryz.underlying202]
theorem fl210 : flat Tryz.prog 210 = true := by unfold flat; rw [Tryz.underlying210]
instance ifl3 : Fl Tryz.prog 3 := ⟨fl3⟩
instance ifl4 : Fl Tryz.prog 4 := ⟨fl4⟩
instance ifl5 : Fl Tryz.prog 5 := ⟨fl5⟩
instance ifl9 : Fl Tryz.prog 9 := ⟨fl9⟩
instance ifl22 : Fl Tryz.prog 22 := ⟨fl22⟩
instance ifl23 : Fl Tryz.prog 23 := ⟨fl23⟩
instance ifl24 : Fl Tryz.prog 24 := ⟨fl24⟩
instance ifl27 : Fl Tryz.prog 27 := ⟨fl27⟩
instance ifl29 : Fl Tryz.prog 29 := ⟨fl29⟩
instance ifl30 : Fl Tryz.prog 30 := ⟨fl30⟩
instance ifl31 : Fl Tryz.prog 31 := ⟨fl31⟩
instance ifl43 : Fl Tryz.prog 43 := ⟨fl43⟩
instance ifl54 : Fl Tryz.prog 54 := ⟨fl54⟩
instance ifl58 : Fl Tryz.prog 58 := ⟨fl58⟩
instance ifl64 : Fl Tryz.prog 64 := ⟨fl64⟩
instance ifl103 : Fl Tryz.prog 103 := ⟨fl103⟩
instance ifl104 : Fl Tryz.prog 104 := ⟨fl104⟩
instance ifl109 : Fl Tryz.prog 109 := ⟨fl109⟩
instance ifl128 : Fl Tryz.prog 128 := ⟨fl128⟩
instance ifl138 : Fl Tryz.prog 138 := ⟨fl138⟩
instance ifl171 : Fl Tryz.prog 171 := ⟨fl171⟩
instance ifl172 : Fl Tryz.prog 172 := ⟨fl172⟩
instance ifl178 : Fl Tryz.prog 178 := ⟨fl178⟩
instance ifl185 : Fl Tryz.prog 185 := ⟨fl185⟩
instance ifl202 : Fl Tryz.prog 202 := ⟨fl202⟩
instance ifl210 : Fl Tryz.prog 210 := ⟨fl210⟩
theorem mixed : Tryz.prog.follows .mixedOrders = true := by kernel_rfl
theorem en15 : Enters Tryz.prog 15 := enters_of Tryz.func15 (by kernel_rfl) rfl
theorem en22 : Enters Tryz.prog 22 := enters_of Tryz.func22 (by kernel_rfl) rfl
theorem en24 : Enters Tryz.prog 24 := enters_of Tryz.func24 (by kernel_rfl) rfl
theorem en34 : Enters Tryz.prog 34 := enters_of Tryz.func34 (by kernel_rfl) rfl
theorem en35 : Enters Tryz.prog 35 := enters_of Tryz.func35 (by kernel_rfl) rfl
theorem en37 : Enters Tryz.prog 37 := enters_of Tryz.func37 (by kernel_rfl) rfl
theorem en38 : Enters Tryz.prog 38 := enters_of Tryz.func38 (by kernel_rfl) rfl
theorem en39 : Enters Tryz.prog 39 := enters_of Tryz.func39 (by kernel_rfl) rfl
theorem en40 : Enters Tryz.prog 40 := enters_of Tryz.func40 (by kernel_rfl) rfl
theorem en41 : Enters Tryz.prog 41 := enters_of Tryz.func41 (by kernel_rfl) rfl
theorem en43 : Enters Tryz.prog 43 := enters_of Tryz.func43 (by kernel_rfl) rfl
theorem en46 : Enters Tryz.prog 46 := enters_of Tryz.func46 (by kernel_rfl) rfl
theorem en47 : Enters Tryz.prog 47 := enters_of Tryz.func47 (by kernel_rfl) rfl
theorem en48 : Enters Tryz.prog 48 := enters_of Tryz.func48 (by kernel_rfl) rfl
theorem en49 : Enters Tryz.prog 49 := enters_of Tryz.func49 (by kernel_rfl) rfl
theorem en50 : Enters Tryz.prog 50 := enters_of Tryz.func50 (by kernel_rfl) rfl
theorem en57 : Enters Tryz.prog 57 := enters_of Tryz.func57 (by kernel_rfl) rfl
theorem en58 : Enters Tryz.prog 58 := enters_of Tryz.func58 (by kernel_rfl) rfl
theorem en59 : Enters Tryz.prog 59 := enters_of Tryz.func59 (by kernel_rfl) rfl
theorem en65 : Enters Tryz.prog 65 := enters_of Tryz.func65 (by kernel_rfl) rfl
theorem en66 : Enters Tryz.prog 66 := enters_of Tryz.func66 (by kernel_rfl) rfl
theorem en67 : Enters Tryz.prog 67 := enters_of Tryz.func67 (by kernel_rfl) rfl
theorem en68 : Enters Tryz.prog 68 := enters_of Tryz.func68 (by kernel_rfl) rfl
theorem en69 : Enters Tryz.prog 69 := enters_of Tryz.func69 (by kernel_rfl) rfl
theorem en70 : Enters Tryz.prog 70 := enters_of Tryz.func70 (by kernel_rfl) rfl
theorem en71 : Enters Tryz.prog 71 := enters_of Tryz.func71 (by kernel_rfl) rfl
theorem en82 : Enters Tryz.prog 82 := enters_of Tryz.func82 (by kernel_rfl) rfl
theorem en83 : Enters Tryz.prog 83 := enters_of Tryz.func83 (by kernel_rfl) rfl
theorem en84 : Enters Tryz.prog 84 := enters_of Tryz.func84 (by kernel_rfl) rfl
theorem en85 : Enters Tryz.prog 85 := enters_of Tryz.func85 (by kernel_rfl) rfl
theorem en86 : Enters Tryz.prog 86 := enters_of Tryz.func86 (by kernel_rfl) rfl
theorem en87 : Enters Tryz.prog 87 := enters_of Tryz.func87 (by kernel_rfl) rfl
theorem en88 : Enters Tryz.prog 88 := enters_of Tryz.func88 (by kernel_rfl) rfl
theorem en89 : Enters Tryz.prog 89 := enters_of Tryz.func89 (by kernel_rfl) rfl
theorem en90 : Enters Tryz.prog 90 := enters_of Tryz.func90 (by kernel_rfl) rfl
theorem en92 : Enters Tryz.prog 92 := enters_of Tryz.func92 (by kernel_rfl) rfl
theorem en93 : Enters Tryz.prog 93 := enters_of Tryz.func93 (by kernel_rfl) rfl
theorem en94 : Enters Tryz.prog 94 := enters_of Tryz.func94 (by kernel_rfl) rfl
theorem en95 : Enters Tryz.prog 95 := enters_of Tryz.func95 (by kernel_rfl) rfl
theorem en99 : Enters Tryz.prog 99 := enters_of Tryz.func99 (by kernel_rfl) rfl
theorem en101 : Enters Tryz.prog 101 := enters_of Tryz.func101 (by kernel_rfl) rfl
theorem en102 : Enters Tryz.prog 102 := enters_of Tryz.func102 (by kernel_rfl) rfl
theorem en103 : Enters Tryz.prog 103 := enters_of Tryz.func103 (by kernel_rfl) rfl
theorem en104 : Enters Tryz.prog 104 := enters_of Tryz.func104 (by kernel_rfl) rfl
theorem en105 : Enters Tryz.prog 105 := enters_of Tryz.func105 (by kernel_rfl) rfl
theorem en106 : Enters Tryz.prog 106 := enters_of Tryz.func106 (by kernel_rfl) rfl
theorem en107 : Enters Tryz.prog 107 := enters_of Tryz.func107 (by kernel_rfl) rfl
theorem en108 : Enters Tryz.prog 108 := enters_of Tryz.func108 (by kernel_rfl) rfl
theorem en109 : Enters Tryz.prog 109 := enters_of Tryz.func109 (by kernel_rfl) rfl
theorem en110 : Enters Tryz.prog 110 := enters_of Tryz.func110 (by kernel_rfl) rfl
theorem en111 : Enters Tryz.prog 111 := enters_of Tryz.func111 (by kernel_rfl) rfl
theorem en112 : Enters Tryz.prog 112 := enters_of Tryz.func112 (by kernel_rfl) rfl
theorem en113 : Enters Tryz.prog 113 := enters_of Tryz.func113 (by kernel_rfl) rfl
theorem en114 : Enters Tryz.prog 114 := enters_of Tryz.func114 (by kernel_rfl) rfl
theorem en115 : Enters Tryz.prog 115 := enters_of Tryz.func115 (by kernel_rfl) rfl
theorem en116 : Enters Tryz.prog 116 := enters_of Tryz.func116 (by kernel_rfl) rfl
theorem en117 : Enters Tryz.prog 117 := enters_of Tryz.func117 (by kernel_rfl) rfl
theorem en118 : Enters Tryz.prog 118 := enters_of Tryz.func118 (by kernel_rfl) rfl
theorem en119 : Enters Tryz.prog 119 := enters_of Tryz.func119 (by kernel_rfl) rfl
theorem en120 : Enters Tryz.prog 120 := enters_of Tryz.func120 (by kernel_rfl) rfl
theorem en121 : Enters Tryz.prog 121 := enters_of Tryz.func121 (by kernel_rfl) rfl
theorem en122 : Enters Tryz.prog 122 := enters_of Tryz.func122 (by kernel_rfl) rfl
theorem en123 : Enters Tryz.prog 123 := enters_of Tryz.func123 (by kernel_rfl) rfl
theorem en124 : Enters Tryz.prog 124 := enters_of Tryz.func124 (by kernel_rfl) rfl
theorem en131 : Enters Tryz.prog 131 := enters_of Tryz.func131 (by kernel_rfl) rfl
theorem en132 : Enters Tryz.prog 132 := enters_of Tryz.func132 (by kernel_rfl) rfl
theorem en133 : Enters Tryz.prog 133 := enters_of Tryz.func133 (by kernel_rfl) rfl
theorem en139 : Enters Tryz.prog 139 := enters_of Tryz.func139 (by kernel_rfl) rfl
theorem en140 : Enters Tryz.prog 140 := enters_of Tryz.func140 (by kernel_rfl) rfl
theorem en141 : Enters Tryz.prog 141 := enters_of Tryz.func141 (by kernel_rfl) rfl
theorem en142 : Enters Tryz.prog 142 := enters_of Tryz.func142 (by kernel_rfl) rfl
theorem en143 : Enters Tryz.prog 143 := enters_of Tryz.func143 (by kernel_rfl) rfl
theorem en144 : Enters Tryz.prog 144 := enters_of Tryz.func144 (by kernel_rfl) rfl
theorem en145 : Enters Tryz.prog 145 := enters_of Tryz.func145 (by kernel_rfl) rfl
theorem en146 : Enters Tryz.prog 146 := enters_of Tryz.func146 (by kernel_rfl) rfl
theorem en153 : Enters Tryz.prog 153 := enters_of Tryz.func153 (by kernel_rfl) rfl
theorem en154 : Enters Tryz.prog 154 := enters_of Tryz.func154 (by kernel_rfl) rfl
theorem en155 : Enters Tryz.prog 155 := enters_of Tryz.func155 (by kernel_rfl) rfl
theorem en156 : Enters Tryz.prog 156 := enters_of Tryz.func156 (by kernel_rfl) rfl
theorem en157 : Enters Tryz.prog 157 := enters_of Tryz.func157 (by kernel_rfl) rfl
theorem en158 : Enters Tryz.prog 158 := enters_of Tryz.func158 (by kernel_rfl) rfl
theorem en159 : Enters Tryz.prog 159 := enters_of Tryz.func159 (by kernel_rfl) rfl
theorem en160 : Enters Tryz.prog 160 := enters_of Tryz.func160 (by kernel_rfl) rfl
theorem en161 : Enters Tryz.prog 161 := enters_of Tryz.func161 (by kernel_rfl) rfl
theorem en162 : Enters Tryz.prog 162 := enters_of Tryz.func162 (by kernel_rfl) rfl
theorem en163 : Enters Tryz.prog 163 := enters_of Tryz.func163 (by kernel_rfl) rfl
theorem en164 : Enters Tryz.prog 164 := enters_of Tryz.func164 (by kernel_rfl) rfl
theorem en165 : Enters Tryz.prog 165 := enters_of Tryz.func165 (by kernel_rfl) rfl
theorem en166 : Enters Tryz.prog 166 := enters_of Tryz.func166 (by kernel_rfl) rfl
theorem en167 : Enters Tryz.prog 167 := enters_of Tryz.func167 (by kernel_rfl) rfl
theorem en169 : Enters Tryz.prog 169 := enters_of Tryz.func169 (by kernel_rfl) rfl
theorem en170 : Enters Tryz.prog 170 := enters_of Tryz.func170 (by kernel_rfl) rfl
theorem en171 : Enters Tryz.prog 171 := enters_of Tryz.func171 (by kernel_rfl) rfl
theorem en177 : Enters Tryz.prog 177 := enters_of Tryz.func177 (by kernel_rfl) rfl
theorem en178 : Enters Tryz.prog 178 := enters_of Tryz.func178 (by kernel_rfl) rfl
theorem en179 : Enters Tryz.prog 179 := enters_of Tryz.func179 (by kernel_rfl) rfl
theorem en180 : Enters Tryz.prog 180 := enters_of Tryz.func180 (by kernel_rfl) rfl
theorem en181 : Enters Tryz.prog 181 := enters_of Tryz.func181 (by kernel_rfl) rfl
theorem en201 : Enters Tryz.prog 201 := enters_of Tryz.func201 (by kernel_rfl) rfl
end Go.Proofs.YtggaghghclomkaaGreat

/- Contracts of the small helpers. -/
namespace Go.Proofs.YtggaghghclomkaaGreat
open Go.RowKit
attribute [local irreducible] TL TC TN TX TR TQ Pu Ret

theorem u8s_get (s : List UInt8) {k : Nat} (h : k < s.length) : (u8s s).getD k undef = B8 (s.getD k 0) := by
  simp [u8s, List.getD_eq_getElem?_getD, List.getElem?_eq_getElem h]

theorem copyBytes_c {A : Option Addr} {c lo hi : Nat} {s : List UInt8} {w : World} (hr : Rd w lo hi 1 A s.length (u8s s)) (hl : s.length ≤ 1099511627776) :
    Ret Tryz.prog 71 #[.slice A s.length c] w fun v w' => ∃ A' c', v = .slice A' s.length c' ∧ Ext w w' ∧ Own w' w.heap.size w'.heap.size 5 1 A' s.length c' (u8s s) := by
  refine Ret_enter Tryz.func71 rfl rfl rfl ?_
  repeat' (first | apply Jbq | apply Jbr | apply Jbs | apply Jbt | (apply Jcg; (first | exact Jaa rfl | exact Jab rfl); exact rfl))
  refine TL_append Us.h Inf.h rfl rfl rfl rfl (Own.nil w w.heap.size w.heap.size 5 1 (Nat.le_refl _)) hr (u8s_one s) (Nat.le_refl _) (by omega) (by omega) rfl ?_
  intro w1 hi1 A1 c1 hch h1 h2 h3 hown
  have hz := hch.size
  repeat' (first | apply Jbq | apply Jbr | apply Jbu | (apply Jcg; exact Jab rfl; exact rfl))
  refine TR_of (res1 rfl rfl) ⟨A1, c1, by rw [Nat.zero_add], hch.mono (fun k hk => by simp only [Iv] at hk; omega), ?_⟩
  rw [Nat.zero_add, List.nil_append] at hown
  exact hown.wide (Nat.le_refl _) (by omega) (Nat.le_refl _)

/-- The marks of bytes: k, k + 1, .. -/
def mk8 (k : Int) (n : Nat) : List UInt8 := (List.range n).map fun (i : Nat) => UInt8.ofNat ((k + (i : Int)) % 256).toNat
@[simp] theorem mk8_length (k : Int) (n : Nat) : (mk8 k n).length = n := by simp [mk8]
end Go.Proofs.YtggaghghclomkaaGreat

/- Bytes and numbers that go from call to call: what reads so, what a call owns, what bears marks; the laws' helpers in these words. No condition. -/
namespace Go.Proofs.YtggaghghclomkaaGreat
open Go.RowKit
attribute [local irreducible] TL TC TN TX TR TQ Pu Ret

/-- The slice v reads as the bytes s. -/
def RB (w : World) (lo hi : Nat) (v : Value) (s : List UInt8) : Prop := ∃ A c, v = .slice A s.length c ∧ s.length ≤ c ∧ Rd w lo hi 1 A s.length (u8s s)
/-- The slice v is the call's own and holds the bytes s. -/
def OB (w : World) (lo hi : Nat) (v : Value) (s : List UInt8) : Prop := ∃ A c, v = .slice A s.length c ∧ Own w lo hi 5 1 A s.length c (u8s s)
/-- The slice v is the call's own and bears the marks k, k + 1, .. -/
def MB (w : World) (lo hi : Nat) (v : Value) (k : Int) (s : List UInt8) : Prop := OB w lo hi v (mk8 k s.length)
section
variable {w w' : World} {lo hi : Nat} {v : Value} {s : List UInt8} {k : Int} {T : Nat → Prop}
theorem RB.ch (h : RB w lo hi v s) (c : Ch T w w') (hd : ∀ k, lo ≤ k → k < hi → ¬ T k) : RB w' lo hi v s := by
  obtain ⟨A, cc, h1, h2, h3⟩ := h; exact ⟨A, cc, h1, h2, h3.ch c hd⟩
theorem RB.ext (h : RB w lo hi v s) (c : Ext w w') : RB w' lo hi v s := h.ch c (fun _ _ _ t => t)
theorem OB.ch (h : OB w lo hi v s) (c : Ch T w w') (hd : ∀ k, lo ≤ k → k < hi → ¬ T k) : OB w' lo hi v s := by
  obtain ⟨A, cc, h1, h3⟩ := h; exact ⟨A, cc, h1, h3.ch c hd⟩
theorem OB.ext (h : OB w lo hi v s) (c : Ext w w') : OB w' lo hi v s := h.ch c (fun _ _ _ t => t)
theorem MB.ch (h : MB w lo hi v k s) (c : Ch T w w') (hd : ∀ k, lo ≤ k → k < hi → ¬ T k) : MB w' lo hi v k s := OB.ch h c hd
theorem MB.ext (h : MB w lo hi v k s) (c : Ext w w') : MB w' lo hi v k s := OB.ext h c
theorem OB.rd (h : OB w lo hi v s) : RB w lo hi v s := by obtain ⟨A, cc, h1, h3⟩ := h; exact ⟨A, cc, h1, h3.cap.1, h3.rd⟩
theorem OB.hi_le (h : OB w lo hi v s) : hi ≤ w.heap.size := by obtain ⟨A, cc, h1, h3⟩ := h; exact h3.hi_le
end
theorem OB.nil (w : World) (k : Nat) (_h : k ≤ w.heap.size) : OB w k w.heap.size (.slice none 0 0) [] := ⟨none, 0, rfl, Own.nil _ _ _ _ _ (Nat.le_refl _)⟩
theorem OB_new {w1 : World} {g : Nat} {s : List UInt8} {w : World} {n : Nat} (hs : s.length = n) (h : Own w1 g (g + 1) 5 1 (some ⟨g, 0, none⟩) n n (u8s s)) (hg : g = w.heap.size) (hz : w1.heap.size = g + 1) : OB w1 w.heap.size w1.heap.size (.slice (some ⟨g, 0, none⟩) n n) s := by
  subst hs; exact ⟨_, _, rfl, h.wide (by omega) (by omega) (Nat.le_refl _)⟩
theorem fillu1 (a : UInt8) : Instr.fill (fun i => some (i * 1, 1)) ((Array.range (1 * 1)).map ((Value.int .u8 0).cells[· % (Value.int .u8 0).cells.size]!)) [(0, B8 a)] = some (u8s [a]).toArray := by kernel_rfl
def pb (x : Int) : UInt8 := UInt8.ofNat (x % 256).toNat
section
variable {P : Program} {L : List Oper} {Q : Exit → Act → World → Prop} {n d : Nat} {l : Env} {w : World} {rest : List Oper} {ty : TypeId} {pos : String} {af : Array Edge} {v v2 : Value} {x y : Operand} {t : TypeId}
/-- Own bytes are appended to. -/
theorem TL_appendB {lo hi lo2 hi2 : Nat} {s s2 : List UInt8} (ht : Tryz.prog.underlying t = some (.slice 5)) (hx : ev l x = some v) (hy : ev l y = some v2) (ho : OB w lo hi v s) (hr : RB w lo2 hi2 v2 s2)
    (hlo : lo ≤ w.heap.size) (hm : s.length + s2.length ≤ 17592186044416) (hn : Nat.blt d n = true)
    (h : ∀ w' v', Ch (Iv lo hi) w w' → OB w' lo w'.heap.size v' (s ++ s2) → TL Tryz.prog L Q rest n ((d, v') :: l) w') :
    TL Tryz.prog L Q (⟨some d, .call { callee := .builtin .append, args := #[x, y], argTypes := #[t, t] }, ty, pos, af, none⟩ :: rest) n l w := by
  obtain ⟨A, c, rfl, ho⟩ := ho
  obtain ⟨A2, c2, rfl, _, hr⟩ := hr
  refine TL_append ht inf5 rfl rfl hx hy ho hr (u8s_one s2) hlo (by omega) (by omega) hn ?_
  intro w1 hi1 A1 c1 hch h1 h2 h3 hown
  have hz := hch.size
  have hh := ho.hi_le
  exact h w1 _ hch ⟨A1, c1, by rw [List.length_append], (hown.wide (Nat.le_refl _) (by omega) (Nat.le_refl _)).cast (by rw [List.length_append]) (by simp [u8s])⟩
end
end Go.Proofs.YtggaghghclomkaaGreat

/- Numbers in bytes, checksums, digits: the plain law. No condition. -/
namespace Go.Proofs.YtggaghghclomkaaGreat
open Go.RowKit

theorem bit_xor64 (a b : Nat) (ha : a < 9223372036854775808) (hb : b < 9223372036854775808) : bitv .xor .i64 (a : Int) (b : Int) = ((a ^^^ b : Nat) : Int) := by
  have h : a ^^^ b < 2 ^ 63 := Nat.xor_lt_two_pow (by omega) (by omega)
  have e : (BitVec.ofInt 64 (a : Int) ^^^ BitVec.ofInt 64 (b : Int)).toNat = a ^^^ b := by
    rw [BitVec.ofInt_natCast, BitVec.ofInt_natCast, BitVec.toNat_xor, BitVec.toNat_ofNat, BitVec.toNat_ofNat, Nat.mod_eq_of_lt (by omega), Nat.mod_eq_of_lt (by omega)]
  show IntKind.i64.wrap (((BitVec.ofInt 64 (a : Int) ^^^ BitVec.ofInt 64 (b : Int)).toNat : Nat) : Int) = _
  rw [e, IntWalk.i64_in _ (by omega)]
theorem bit_xor32 (a b : Nat) (ha : a < 4294967296) (hb : b < 4294967296) : bitv .xor .u32 (a : Int) (b : Int) = ((a ^^^ b : Nat) : Int) := by
  have h : a ^^^ b < 2 ^ 32 := Nat.xor_lt_two_pow (by omega) (by omega)
  have e : (BitVec.ofInt 32 (a : Int) ^^^ BitVec.ofInt 32 (b : Int)).toNat = a ^^^ b := by
    rw [BitVec.ofInt_natCast, BitVec.ofInt_natCast, BitVec.toNat_xor, BitVec.toNat_ofNat, BitVec.toNat_ofNat, Nat.mod_eq_of_lt (by omega), Nat.mod_eq_of_lt (by omega)]
  show IntKind.u32.wrap (((BitVec.ofInt 32 (a : Int) ^^^ BitVec.ofInt 32 (b : Int)).toNat : Nat) : Int) = _
  rw [e, IntKind.wrap_u32]; omega
theorem bit_and32 (a b : Nat) (ha : a < 4294967296) (hb : b < 4294967296) : bitv .and .u32 (a : Int) (b : Int) = ((a &&& b : Nat) : Int) := by
  have h : a &&& b < 2 ^ 32 := Nat.and_lt_two_pow _ (by omega)
  have e : (BitVec.ofInt 32 (a : Int) &&& BitVec.ofInt 32 (b : Int)).toNat = a &&& b := by
    rw [BitVec.ofInt_natCast, BitVec.ofInt_natCast, BitVec.toNat_and, BitVec.toNat_ofNat, BitVec.toNat_ofNat, Nat.mod_eq_of_lt (by omega), Nat.mod_eq_of_lt (by omega)]
  show IntKind.u32.wrap (((BitVec.ofInt 32 (a : Int) &&& BitVec.ofInt 32 (b : Int)).toNat : Nat) : Int) = _
  rw [e, IntKind.wrap_u32]; omega
theorem and_one32 (a : Nat) (ha : a < 4294967296) : bitv .and .u32 (a : Int) 1 = ((a % 2 : Nat) : Int) := by
  have := bit_and32 a 1 ha (by omega)
  rw [Nat.and_one_is_mod] at this
  exact this
/-! numbers in bytes -/
theorem pow4 : ∀ k : Nat, k ≤ 4 → 0 < (256 : Int) ^ k ∧ (256 : Int) ^ k ≤ 4294967296
  | 0, _ => ⟨by decide, by decide⟩
  | 1, _ => ⟨by decide, by decide⟩
  | 2, _ => ⟨by decide, by decide⟩
  | 3, _ => ⟨by decide, by decide⟩
  | 4, _ => ⟨by decide, by decide⟩
  | k + 5, h => by omega
def putR (n : Int) : Nat → List UInt8
  | 0 => []
  | k + 1 => pb (n / 256 ^ k) :: putR n k
@[simp] theorem putR_length (n : Int) : ∀ k, (putR n k).length = k
  | 0 => rfl
  | k + 1 => by simp [putR, putR_length n k]
def pPut (b : List UInt8) (n size : Int) : List UInt8 × Bool :=
  if 1 ≤ size ∧ size ≤ 4 ∧ 0 ≤ n ∧ n < 256 ^ size.toNat ∧ (b.length : Int) + size ≤ 65536 then (b ++ putR n size.toNat, true) else ([], false)
def getF (b : List UInt8) (a : Nat) : Nat → Int
  | 0 => 0
  | k + 1 => getF b a k * 256 + ((b.getD (a + k) 0).toNat : Int)
theorem getF_nn (b : List UInt8) (a : Nat) : ∀ k, 0 ≤ getF b a k
  | 0 => by simp [getF]
  | k + 1 => by have := getF_nn b a k; simp only [getF]; omega
theorem getF_lt (b : List UInt8) (a : Nat) : ∀ k, getF b a k < 256 ^ k
  | 0 => by simp [getF]
  | k + 1 => by
    have := getF_lt b a k
    have h := (b.getD (a + k) 0).toNat_lt
    simp only [getF, Int.pow_succ]
    omega
theorem getF_le (b : List UInt8) (a k : Nat) (hk : k ≤ 4) : getF b a k < 4294967296 := by
  have h := getF_lt b a k
  have := (pow4 k hk).2
  omega
theorem putR_back (n : Int) : ∀ k, putR n (k + 1) = putR (n / 256) k ++ [pb n]
  | 0 => by simp [putR]
  | k + 1 => by
    have h : n / 256 / 256 ^ k = n / 256 ^ (k + 1) := by rw [Int.pow_succ, Int.mul_comm, ← Int.ediv_ediv_of_nonneg (by omega)]
    rw [putR, putR_back n k, putR, h]; rfl
/-- Bytes as a number. -/
def val (s : List UInt8) : Int := s.foldl (fun n x => n * 256 + (x.toNat : Int)) 0
theorem val_snoc (s : List UInt8) (x : UInt8) : val (s ++ [x]) = val s * 256 + x.toNat := by simp [val, List.foldl_append]
theorem pb_toNat (x : Int) : ((pb x).toNat : Int) = x % 256 := by
  unfold pb
  rw [UInt8.toNat_ofNat']
  omega
theorem pb_of {x : Int} {c : UInt8} (h : x % 256 = c.toNat) : pb x = c := by
  apply UInt8.toNat_inj.1
  have := pb_toNat x
  omega
theorem val_putR : ∀ (k : Nat) {n : Int}, 0 ≤ n → n < 256 ^ k → val (putR n k) = n
  | 0, n, h0, h1 => by simp at h1; simp [putR, val]; omega
  | k + 1, n, h0, h1 => by
    rw [putR_back, val_snoc, val_putR k (by omega) (by rw [Int.pow_succ] at h1; omega), pb_toNat]
    omega
theorem putR_val : ∀ s : List UInt8, putR (val s) s.length = s := by
  have : ∀ (n : Nat) (s : List UInt8), s.length = n → putR (val s) n = s := by
    intro n
    induction n with
    | zero => intro s h; rw [List.eq_nil_of_length_eq_zero h]; rfl
    | succ n ih =>
      intro s h
      have hne : s ≠ [] := by intro e; subst e; simp at h
      obtain ⟨s', x, rfl⟩ : ∃ s' x, s = s' ++ [x] := ⟨_, _, (List.dropLast_concat_getLast hne).symm⟩
      have hl : s'.length = n := by simpa using h
      have hx := x.toNat_lt
      rw [val_snoc, putR_back, show (val s' * 256 + (x.toNat : Int)) / 256 = val s' by omega, ih s' hl]
      rw [pb_of (c := x) (by omega)]
  exact fun s => this _ s rfl
theorem getF_val (b : List UInt8) (a : Nat) : ∀ k, a + k ≤ b.length → getF b a k = val ((b.drop a).take k)
  | 0, _ => by simp [getF, val]
  | k + 1, h => by
    have hk : k < (b.drop a).length := by rw [List.length_drop]; omega
    rw [List.take_succ_eq_append_getElem hk, val_snoc, ← getF_val b a k (by omega), getF]
    congr 2
    rw [List.getElem_drop, List.getD_eq_getElem?_getD, List.getElem?_eq_getElem (by omega)]; rfl
theorem getF_putR {b : List UInt8} {a k : Nat} (h : a + k ≤ b.length) : putR (getF b a k) k = (b.drop a).take k := by
  have hl : ((b.drop a).take k).length = k := by rw [List.length_take, List.length_drop]; omega
  have := putR_val ((b.drop a).take k)
  rw [hl] at this
  rw [getF_val b a k h, this]
def pGet (b : List UInt8) (a size : Int) : Int × Bool :=
  if 1 ≤ size ∧ size ≤ 4 ∧ 0 ≤ a ∧ a ≤ b.length - size then (getF b a.toNat size.toNat, true) else (0, false)

/-! checksums -/
def crcBit (r : Nat) : Nat := if r % 2 = 1 then (r / 2) ^^^ 3988292384 else r / 2
theorem crcBit_lt {r : Nat} (h : r < 4294967296) : crcBit r < 4294967296 := by
  unfold crcBit
  split
  · exact Nat.xor_lt_two_pow (n := 32) (by omega) (by omega)
  · omega
def crcBits (r : Nat) : Nat → Nat
  | 0 => r
  | k + 1 => crcBit (crcBits r k)
theorem crcBits_lt {r : Nat} (h : r < 4294967296) : ∀ k, crcBits r k < 4294967296
  | 0 => h
  | k + 1 => crcBit_lt (crcBits_lt h k)
def crcStep (r : Nat) (x : UInt8) : Nat := crcBits (r ^^^ x.toNat) 8
theorem xor8_lt {r : Nat} (h : r < 4294967296) (x : UInt8) : r ^^^ x.toNat < 4294967296 := by
  have := x.toNat_lt
  exact Nat.xor_lt_two_pow (n := 32) (by omega) (by omega)
theorem crcStep_lt {r : Nat} (h : r < 4294967296) (x : UInt8) : crcStep r x < 4294967296 := crcBits_lt (xor8_lt h x) 8
def crcR (r : Nat) (s : List UInt8) : Nat := s.foldl crcStep r
theorem crcR_lt : ∀ (s : List UInt8) {r : Nat}, r < 4294967296 → crcR r s < 4294967296
  | [], _, h => h
  | x :: s, _, h => crcR_lt s (crcStep_lt h x)
theorem crcR_take {r : Nat} {s : List UInt8} {k : Nat} (h : k < s.length) : crcR r (s.take (k + 1)) = crcStep (crcR r (s.take k)) (s.getD k 0) := by
  unfold crcR
  rw [List.take_succ_eq_append_getElem h, List.foldl_append]
  simp [List.getD_eq_getElem?_getD, List.getElem?_eq_getElem h]
def crc (s : List UInt8) : Nat := crcR 4294967295 s ^^^ 4294967295
theorem crc_lt (s : List UInt8) : crc s < 4294967296 := Nat.xor_lt_two_pow (n := 32) (crcR_lt s (by omega)) (by omega)

/-! digits -/
def hexd (c : UInt8) : Nat := if 48 ≤ c.toNat ∧ c.toNat ≤ 57 then c.toNat - 48 else if 97 ≤ c.toNat ∧ c.toNat ≤ 102 then c.toNat - 87 else 16
def pairs (s : List UInt8) (m : Nat) : List UInt8 := (List.range m).map fun j => UInt8.ofNat (16 * hexd (s.getD (2 * j) 0) + hexd (s.getD (2 * j + 1) 0))
@[simp] theorem pairs_length (s : List UInt8) (m : Nat) : (pairs s m).length = m := by simp [pairs]
theorem RB.to {w : World} {lo hi c : Nat} {A : Option Addr} {s : List UInt8} {k : Int} (h : Rd w lo hi 1 A s.length (u8s s)) (hk : 0 ≤ k ∧ k ≤ s.length) (hc : s.length ≤ c) : RB w lo hi (.slice (cutA A c 0 1) k.toNat c) (s.take k.toNat) := by
  have hl : (s.take k.toNat).length = k.toNat := by rw [List.length_take]; omega
  exact ⟨_, _, by rw [hl], by rw [hl]; omega, by rw [hl]; exact h.to8 hk hc⟩
theorem RB.from {w : World} {lo hi c : Nat} {A : Option Addr} {s : List UInt8} {k : Int} (h : Rd w lo hi 1 A s.length (u8s s)) (hk : 0 ≤ k ∧ k ≤ s.length) (hc : s.length ≤ c) : RB w lo hi (.slice (cutA A c k.toNat 1) (s.length - k.toNat) (c - k.toNat)) (s.drop k.toNat) := by
  have hl : (s.drop k.toNat).length = s.length - k.toNat := by rw [List.length_drop]
  exact ⟨_, _, by rw [hl], by rw [hl]; omega, by rw [hl]; exact h.from8 hk hc⟩
end Go.Proofs.YtggaghghclomkaaGreat

/- Rules for regions whose order is open and that hold operations which make memory. No condition. -/
namespace Go.Proofs.YtggaghghclomkaaGreat
open Go.RowKit

/-- What is listed has come up; what the world must keep is kept. -/
def TA (P : Program) (L : List Oper) (S : World → Prop) (Q : Exit → Act → World → Prop) (f : Nat) (listed : Array Bool) (n : Nat) (l : Env) (w : World) : Prop :=
  ∀ a, Holds n l a → wpAnyH P .any L.toArray Q S f listed a w
section
variable {P : Program} {L : List Oper} {S : World → Prop} {w : World} {Q : Exit → Act → World → Prop} {f n : Nat} {listed : Array Bool} {l : Env} {v : Value}
theorem TC_any {id : Nat} (hm : P.follows .mixedOrders = true) (hf : L.length = f)
    (h : ∀ w', Ext w w' → w'.heap.size = w.heap.size → TA P L (Ext w) Q f (Array.replicate f false) n l w') : TC P Q (.region id L.toArray true) n l w := fun a ha => by
  refine wp_region_held (S := Ext w) hm ?_
  have := h { w with drawn := w.drawn + 1 } ((Ch.refl _ _).drew) rfl a ha
  rw [show L.toArray.size = f from by simpa using hf]
  exact this
/-- The same, for any class of worlds that is kept. -/
theorem TC_anyS {id : Nat} (S : World → Prop) (hm : P.follows .mixedOrders = true) (hf : L.length = f) (hS : S { w with drawn := w.drawn + 1 })
    (h : ∀ w', Ext w w' → w'.heap.size = w.heap.size → S w' → TA P L S Q f (Array.replicate f false) n l w') : TC P Q (.region id L.toArray true) n l w := fun a ha => by
  refine wp_region_held (S := S) hm ?_
  have := h { w with drawn := w.drawn + 1 } ((Ch.refl _ _).drew) rfl hS a ha
  rw [show L.toArray.size = f from by simpa using hf]
  exact this
theorem TA_done (hr : Region.ready .any L.toArray listed = []) (h : TN Q n l w) : TA P L S Q f listed n l w := fun a ha => wpAnyH_done hr (h a ha) _
/-- An operation that gives one value whatever comes before it. -/
theorem Jco (i : Nat) {dd : Nat} {op : Op} {ty : TypeId} {pos : String} {af : Array Edge} (hi : L[i]? = some ⟨some dd, op, ty, pos, af, none⟩) (hs : Region.noSelect L.toArray = true) (hf : Region.free .any L.toArray listed i = true)
    (hr : (Region.ready .any L.toArray listed).contains i = true) (hQ : ∀ c a w, Q (.panic c) (a.put (some dd) v) w → Q (.panic c) a w) (hE : S w)
    (hp : Pu P S n l ⟨some dd, op, ty, pos, af, none⟩ v) (hn : Nat.blt dd n = true) (h : TA P L S Q f (listed.setIfInBounds i true) n ((dd, v) :: l) w) : TA P L S Q (f + 1) listed n l w := fun a ha =>
  wpAnyH_take (oi := ⟨some dd, op, ty, pos, af, none⟩) (v := v) (by simpa using hi) hs hf hr hQ (.inl ⟨by simp [Region.wanted], hp a ha⟩) hE (h _ (ha.put hn v))
theorem Jcp (i : Nat) {dd : Nat} {op : Op} {ty : TypeId} {pos : String} {af : Array Edge} {j dj : Nat} {b : Bool} (hi : L[i]? = some ⟨some dd, op, ty, pos, af, some (j, b)⟩) (hs : Region.noSelect L.toArray = true) (hf : Region.free .any L.toArray listed i = true)
    (hr : (Region.ready .any L.toArray listed).contains i = true) (hQ : ∀ c a w, Q (.panic c) (a.put (some dd) v) w → Q (.panic c) a w) (hE : S w) (hj : nthDst L j = some dj) (hjn : Nat.blt dj n = true) (hv : look l dj = some (.bool b))
    (hp : Pu P S n l ⟨some dd, op, ty, pos, af, none⟩ v) (hn : Nat.blt dd n = true) (h : TA P L S Q f (listed.setIfInBounds i true) n ((dd, v) :: l) w) : TA P L S Q (f + 1) listed n l w := fun a ha =>
  wpAnyH_take (oi := ⟨some dd, op, ty, pos, af, some (j, b)⟩) (v := v) (by simpa using hi) hs hf hr hQ (.inl ⟨by simp [Region.wanted, yielded_of (L := L) ha hj hjn hv], hp a ha⟩) hE (h _ (ha.put hn v))
theorem Jcq (i : Nat) {dd : Nat} {op : Op} {ty : TypeId} {pos : String} {af : Array Edge} {j dj : Nat} {b b' : Bool} (hi : L[i]? = some ⟨some dd, op, ty, pos, af, some (j, b)⟩) (hs : Region.noSelect L.toArray = true) (hf : Region.free .any L.toArray listed i = true)
    (hr : (Region.ready .any L.toArray listed).contains i = true) (hQ : ∀ c a w, Q (.panic c) (a.put (some dd) undef) w → Q (.panic c) a w) (hE : S w) (hj : nthDst L j = some dj) (hjn : Nat.blt dj n = true) (hv : look l dj = some (.bool b')) (hne : (b' == b) = false)
    (hn : Nat.blt dd n = true) (h : TA P L S Q f (listed.setIfInBounds i true) n ((dd, undef) :: l) w) : TA P L S Q (f + 1) listed n l w := fun a ha =>
  wpAnyH_take (oi := ⟨some dd, op, ty, pos, af, some (j, b)⟩) (v := undef) (by simpa using hi) hs hf hr hQ (.inr ⟨by simp [Region.wanted, yielded_of (L := L) ha hj hjn hv]; simpa using hne, rfl⟩) hE (h _ (ha.put hn undef))
theorem TA_pass_undef (i : Nat) {dd : Nat} {op : Op} {ty : TypeId} {pos : String} {af : Array Edge} {j dj : Nat} {b : Bool} (hi : L[i]? = some ⟨some dd, op, ty, pos, af, some (j, b)⟩) (hs : Region.noSelect L.toArray = true) (hf : Region.free .any L.toArray listed i = true)
    (hr : (Region.ready .any L.toArray listed).contains i = true) (hQ : ∀ c a w, Q (.panic c) (a.put (some dd) undef) w → Q (.panic c) a w) (hE : S w) (hj : nthDst L j = some dj) (hjn : Nat.blt dj n = true) (hv : look l dj = some undef)
    (hn : Nat.blt dd n = true) (h : TA P L S Q f (listed.setIfInBounds i true) n ((dd, undef) :: l) w) : TA P L S Q (f + 1) listed n l w := fun a ha =>
  wpAnyH_take (oi := ⟨some dd, op, ty, pos, af, some (j, b)⟩) (v := undef) (by simpa using hi) hs hf hr hQ (.inr ⟨by have := yielded_undef (L := L) (b := b) ha hj hjn hv; simpa [Region.wanted] using this, rfl⟩) hE (h _ (ha.put hn undef))
theorem Oper.wp_then {o : Oper} {a : Act} {K K' : Act → World → Prop} (h : o.wp P a w K (Exit.then K' Q)) : o.wp P a w K Q := by
  unfold Oper.wp at *
  generalize (execOp a.eval o).run P w = r at *
  cases r with
  | ok m w' =>
    cases m <;> simp only [Oper.upon] at h ⊢ <;>
      first
        | exact h
        | exact Calls.mono h (fun e w'' he => by cases e <;> exact he)
  | halt x w' => cases x <;> simp only [Oper.upon] at h ⊢ <;> exact h
/-- What follows an operation that is carried out inside. -/
def AK (P : Program) (L : List Oper) (S : World → Prop) (Q : Exit → Act → World → Prop) (f : Nat) (listed : Array Bool) : Act → World → Prop := fun a' w' => S w' ∧ wpAnyH P .any L.toArray Q S f listed a' w'
theorem TN_any (e : S w) (h : TA P L S Q f listed n l w) : TN (Exit.then (AK P L S Q f listed) Q) n l w := fun a ha => ⟨e, h a ha⟩
/-- The one operation that may come up now is carried out. -/
theorem TA_one (i : Nat) {o : Oper} (hr : Region.ready .any L.toArray listed = [i]) (hi : L[i]? = some o)
    (h : TL P L (Exit.then (AK P L S Q f (listed.setIfInBounds i true)) Q) [o] n l w) : TA P L S Q (f + 1) listed n l w := fun a ha => by
  refine wpAnyH_all hr (by simp) fun j hj => ?_
  obtain rfl : j = i := by simpa using hj
  have h1 := h a ha
  unfold wpOp
  rw [show L.toArray[j]? = some o from by simpa using hi]
  unfold wpList at h1
  simp only at h1 ⊢
  split
  · rename_i hw
    rw [if_pos hw] at h1
    rcases h1 with h1 | ⟨h1, h2⟩
    · refine .inl (Oper.wp_then (K' := AK P L S Q f (listed.setIfInBounds j true)) ?_)
      exact h1
    · exact .inr ⟨h1, h2⟩
  · rename_i hw
    rw [if_neg hw] at h1
    exact h1
/-- One of two operations is carried out. -/
theorem TA_two (i j : Nat) {o o' : Oper} (hr : Region.ready .any L.toArray listed = [i, j]) (hi : L[i]? = some o) (hj : L[j]? = some o')
    (h : TL P L (Exit.then (AK P L S Q f (listed.setIfInBounds i true)) Q) [o] n l w) (h' : TL P L (Exit.then (AK P L S Q f (listed.setIfInBounds j true)) Q) [o'] n l w) : TA P L S Q (f + 1) listed n l w := fun a ha => by
  refine wpAnyH_all hr (by simp) fun k hk => ?_
  have key : ∀ (i : Nat) (o : Oper), L[i]? = some o → TL P L (Exit.then (AK P L S Q f (listed.setIfInBounds i true)) Q) [o] n l w → wpOp P L.toArray Q i (AK P L S Q f (listed.setIfInBounds i true)) a w := by
    intro i o hi h
    have h1 := h a ha
    unfold wpOp
    rw [show L.toArray[i]? = some o from by simpa using hi]
    unfold wpList at h1
    simp only at h1 ⊢
    split
    · rename_i hw
      rw [if_pos hw] at h1
      rcases h1 with h1 | ⟨h1, h2⟩
      · refine .inl (Oper.wp_then (K' := AK P L S Q f (listed.setIfInBounds i true)) ?_)
        exact h1
      · exact .inr ⟨h1, h2⟩
    · rename_i hw
      rw [if_neg hw] at h1
      exact h1
  simp only [List.mem_cons, List.not_mem_nil, or_false] at hk
  rcases hk with rfl | rfl
  · exact key _ _ hi h
  · exact key _ _ hj h'
end
end Go.Proofs.YtggaghghclomkaaGreat

/- The cursor over the bytes of a draw: what it gives, weakly said. -/
namespace Go.Proofs.YtggaghghclomkaaGreat
open Go.RowKit
attribute [local irreducible] TL TC TN TX TR TQ TA Pu Ret

def Cur (w : World) (g : Nat) : Prop := ∃ (A : Option Addr) (c lo : Nat) (s : List UInt8) (i : Nat) (h : Int), Blk w g 148 [.slice A s.length c, I i, I h] ∧ Rd w lo g 1 A s.length (u8s s) ∧ i ≤ s.length ∧ s.length ≤ 1048576
abbrev pt (g : Nat) : Value := .pointer (some ⟨g, 0, none⟩)
theorem Cur.ch {w w' : World} {g : Nat} {T : Nat → Prop} (h : Cur w g) (c : Ch T w w') (hT : ∀ k, k ≤ g → ¬ T k) : Cur w' g := by
  obtain ⟨A, cc, lo, s, i, x, hb, hr, hi, hl⟩ := h
  exact ⟨A, cc, lo, s, i, x, hb.ch c (hT g (Nat.le_refl _)), hr.ch c (fun k _ hk => hT k (by omega)), hi, hl⟩
theorem Cur.ext {w w' : World} {g : Nat} (h : Cur w g) (e : Ext w w') : Cur w' g := h.ch e (fun _ _ t => t)
theorem Cur.lt {w : World} {g : Nat} (h : Cur w g) : g < w.heap.size := by obtain ⟨_, _, _, _, _, _, hb, _⟩ := h; exact hb.lt
theorem and255 (x : Int) : ∃ n : Nat, bitv .and .i64 x 255 = (n : Int) ∧ n < 256 := by
  have h : (BitVec.ofInt 64 x &&& BitVec.ofInt 64 255).toNat ≤ 255 := by
    rw [BitVec.toNat_and]
    exact Nat.le_trans Nat.and_le_right (by decide)
  refine ⟨(BitVec.ofInt 64 x &&& BitVec.ofInt 64 255).toNat, ?_, by omega⟩
  show IntKind.i64.wrap (((BitVec.ofInt 64 x &&& BitVec.ofInt 64 255).toNat : Nat) : Int) = _
  rw [IntWalk.i64_in _ (by omega)]
theorem Own.step {w w1 w2 : World} {g lo hi : Nat} (c : Ch (Iv g (g + 1)) w w1) (c2 : Ch (Iv lo hi) w1 w2) (h : w.heap.size ≤ lo) : Ch (Iv g (g + 1)) w w2 := c.trans c2 (fun _ _ t => t) (fun i hi t => absurd t.1 (by omega))
set_option maxHeartbeats 2000000 in
theorem l01Byte_c {w : World} {g : Nat} (hcur : Cur w g) :
    Ret Tryz.prog 161 #[pt g] w fun v w' => ∃ n : Nat, v = I n ∧ n < 256 ∧ Ch (Iv g (g + 1)) w w' ∧ Cur w' g := by
  obtain ⟨A, c, lo, s, i, h, hb, hr, hi, hl⟩ := hcur
  refine Ret_enter Tryz.func161 rfl rfl rfl ?_
  repeat' (first | apply Jbq | apply Jbr | apply Jbs | apply Jbt | (apply Jcg; (first | exact Jaa rfl | exact Jab rfl | exact Jba rfl | (apply Jbl; exact Us.h; exact rfl; exact Sz.h; exact rfl)); exact rfl) | refine Jcg (Pu_load Fl.h rfl (fun _ e => by rw [e]; exact hb.ld rfl)) rfl ?_ | refine Jcg (Pu_mulw rfl rfl) rfl ?_ | refine Jcg (Pu_addw rfl rfl) rfl ?_)
  refine TL_store rfl rfl Sz.h rfl hb rfl ?_
  intro w1 c1 hz1 hb1
  replace hr := hr.ch c1 (by intro k _ _; simp only [Iv]; omega)
  obtain ⟨h1, hh1⟩ : ∃ h1, h1 = IntKind.i64.wrap (IntKind.i64.wrap (h * 6364136223846793005) + 1442695040888963407) := ⟨_, rfl⟩
  replace hb1 : Blk w1 g 148 [.slice A s.length c, I i, I h1] := by rw [hh1]; exact hb1
  clear hh1 hb
  repeat' (first | apply Jbq | apply Jbr | apply Jbs)
  refine TC_quietExt mixed (by kernel_rfl) ?_
  repeat' (first | (apply Jck; (first | exact Jaa rfl | exact Jab rfl | exact Jba rfl | (apply Jbl; exact Us.h; exact rfl; exact Sz.h; exact rfl)); exact rfl) | refine Jck (Pu_load Fl.h rfl (fun _ e => Ext.cell e (hb1.ld rfl))) rfl ?_ | refine Jck (Pu_shr rfl rfl (by omega)) rfl ?_ | refine Jck (Pu_xor rfl rfl) rfl ?_ | refine Jck (Pu_and rfl rfl) rfl ?_)
  refine TQ_nil fun w2 e2 => ?_
  obtain ⟨x, hx, hxl⟩ := and255 (bitv .xor .i64 (h1.fdiv (2 ^ min (33 : Int).toNat IntKind.i64.bits)) (h1.fdiv (2 ^ min (45 : Int).toNat IntKind.i64.bits)))
  rw [hx]
  clear hx
  replace hb1 := hb1.ext e2
  replace hr := hr.ext e2
  repeat' (first | apply Jbr | apply Jbs)
  refine TC_quietExt mixed (by kernel_rfl) ?_
  repeat' (first | (apply Jck; (first | exact Jaa rfl | exact Jac Us.h rfl | exact Jad rfl rfl | exact Jba rfl | (apply Jbl; exact Us.h; exact rfl; exact Sz.h; exact rfl)); exact rfl) | refine Jck (Pu_load Fl.h rfl (fun _ e => Ext.cell e (hb1.ld rfl))) rfl ?_)
  refine TQ_nil fun w3 e3 => ?_
  replace hb1 := hb1.ext e3
  replace hr := hr.ext e3
  have c3 := (c1.ext e2).ext e3
  have hg3 := hb1.lt
  repeat' (apply Jbr)
  refine Jcx rfl (fun hlt => ?_) (fun hge => ?_)
  · obtain ⟨ad, rfl, hcell⟩ := hr.get (show i < s.length by omega)
    rw [u8s_get s (by omega)] at hcell
    have hx2 := (s.getD i 0).toNat_lt
    repeat' (apply Jbs)
    refine TC_quietExt mixed (by kernel_rfl) ?_
    repeat' (first | (apply Jck; (first | exact Jaa rfl | exact Jab rfl | exact Jaf rfl rfl (by omega) | exact Jag Us.h Sz.h rfl rfl (by omega) | exact Jax Us.h Us.h rfl (by omega) | exact Jba rfl | (apply Jbl; exact Us.h; exact rfl; exact Sz.h; exact rfl)); exact rfl) | refine Jck (Pu_load Fl.h rfl (fun _ e => Ext.cell e (hb1.ld rfl))) rfl ?_ | refine Jck (Pu_load Fl.h rfl (fun _ e => Ext.cell e hcell)) rfl ?_ | refine Jck (Pu_and rfl rfl) rfl ?_)
    refine TQ_nil fun w4 e4 => ?_
    obtain ⟨y, hy, hyl⟩ := and255 ((x : Int) + ((s.getD i 0).toNat : Int))
    rw [hy]
    replace hb1 := hb1.ext e4
    replace hr := hr.ext e4
    repeat' (first | apply Jbr | apply Jbt | (apply Jcg; (first | exact Jaa rfl | exact Jaf rfl rfl (by omega) | exact Jba rfl | (apply Jbl; exact Us.h; exact rfl; exact Sz.h; exact rfl)); exact rfl) | refine Jcg (Pu_load Fl.h rfl (fun _ e => by rw [e]; exact hb1.ld rfl)) rfl ?_)
    refine TL_store rfl rfl Sz.h rfl hb1 rfl ?_
    intro w5 c5 hz5 hb5
    repeat' (first | apply Jbq | apply Jbr | apply Jbs | apply Jbt | apply Jbu | (apply Jcg; (first | exact Jaa rfl | exact Jab rfl); exact rfl))
    refine TR_of (res1 rfl rfl) ⟨y, rfl, hyl, (c3.ext e4).then c5, some ad, c, lo, s, i + 1, h1, hb5, hr.ch c5 (by intro k _ _; simp only [Iv]; omega), by omega, hl⟩
  · repeat' (first | apply Jbq | apply Jbr | apply Jbs | apply Jbt | apply Jbu | apply Jbz | (apply Jcg; (first | exact Jaa rfl | exact Jab rfl); exact rfl))
    exact TR_of (res1 rfl rfl) ⟨x, rfl, hxl, c3, A, c, lo, s, i, h1, hb1, hr, hi, hl⟩
set_option maxHeartbeats 2000000 in
theorem l01Below_c {w : World} {g : Nat} {n : Int} (hcur : Cur w g) (hn : n ≤ 4611686018427387904) :
    Ret Tryz.prog 115 #[pt g, I n] w fun v w' => ∃ x : Int, v = I x ∧ 0 ≤ x ∧ (0 < n → x < n) ∧ (n ≤ 0 → x = 0) ∧ Ch (Iv g (g + 1)) w w' ∧ Cur w' g := by
  refine Ret_enter Tryz.func115 rfl rfl rfl ?_
  repeat' (first | apply Jbq | apply Jbr | apply Jbs | apply Jbt | apply Jbu | apply Jbv | apply Jbz | (apply Jcg; (first | exact Jaa rfl | exact Jab rfl | exact Jan rfl rfl); exact rfl) | (refine Jcx rfl (fun hb => ?_) (fun hb => ?_) <;> (try (exfalso; omega))))
  · exact TR_of (res1 rfl rfl) ⟨0, rfl, by omega, by omega, fun _ => rfl, Ch.refl _ _, hcur⟩
  · refine TL_call rfl en161 (l01Byte_c hcur) rfl rfl ?_
    rintro _ w1 ⟨x, rfl, hx, c1, hcur1⟩
    repeat' (first | apply Jbq | apply Jbr | apply Jbu | apply Jbv | (apply Jcg; (first | exact Jaa rfl | exact Jab rfl | exact Jbj rfl rfl (by omega)); exact rfl))
    have h1 := Int.emod_nonneg (x : Int) (show n ≠ 0 by omega)
    have h2 := Int.emod_lt_of_pos (x : Int) (show 0 < n by omega)
    exact TR_of (res1 rfl rfl) ⟨_, rfl, h1, fun _ => h2, by omega, c1, hcur1⟩
  · refine TL_call rfl en161 (l01Byte_c hcur) rfl rfl ?_
    rintro _ w1 ⟨x1, rfl, hx1, c1, hcur1⟩
    repeat' (first | apply Jbq | apply Jbr | apply Jbs | apply Jbt | (apply Jcg; (first | exact Jaa rfl | exact Jab rfl); exact rfl))
    refine TL_call rfl en161 (l01Byte_c hcur1) rfl rfl ?_
    rintro _ w2 ⟨x2, rfl, hx2, c2, hcur2⟩
    repeat' (first | apply Jbq | apply Jbr | apply Jbs | apply Jbt | (apply Jcg; (first | exact Jaa rfl | exact Jab rfl); exact rfl))
    refine TL_call rfl en161 (l01Byte_c hcur2) rfl rfl ?_
    rintro _ w3 ⟨x3, rfl, hx3, c3, hcur3⟩
    repeat' (first | apply Jbq | apply Jbr | apply Jbs | apply Jbt | (apply Jcg; (first | exact Jaa rfl | exact Jab rfl); exact rfl))
    refine TL_call rfl en161 (l01Byte_c hcur3) rfl rfl ?_
    rintro _ w4 ⟨x4, rfl, hx4, c4, hcur4⟩
    repeat' (first | apply Jbq | apply Jbr | apply Jbs | apply Jbt | apply Jbu | (apply Jcg; (first | exact Jaa rfl | exact Jab rfl | exact Jaf rfl rfl (by omega) | exact Jbj rfl rfl (by omega) | exact Jbk rfl rfl (by omega)); exact rfl))
    have h1 := Int.emod_nonneg ((x1 : Int) * 16777216 + (x2 : Int) * 65536 + (x3 : Int) * 256 + (x4 : Int)) (show n ≠ 0 by omega)
    have h2 := Int.emod_lt_of_pos ((x1 : Int) * 16777216 + (x2 : Int) * 65536 + (x3 : Int) * 256 + (x4 : Int)) (show 0 < n by omega)
    exact TR_of (res1 rfl rfl) ⟨_, rfl, h1, fun _ => h2, by omega, ((c1.then c2).then c3).then c4, hcur4⟩
set_option maxRecDepth 100000 in
set_option maxHeartbeats 4000000 in
theorem l01New_c {w : World} {lo hi : Nat} {v : Value} {s : List UInt8} (hR : RB w lo hi v s) (hl : s.length ≤ 1048576) :
    Ret Tryz.prog 99 #[v] w fun v' w' => ∃ g, v' = pt g ∧ Ext w w' ∧ w.heap.size ≤ g ∧ w'.heap.size = g + 1 ∧ Cur w' g := by
  obtain ⟨A, c, rfl, hc, hr⟩ := hR
  refine Ret_enter Tryz.func99 rfl rfl rfl ?_
  repeat' (first | apply Jbq | apply Jbr | apply Jbs | apply Jbt | apply Jby | (apply Jcg; (first | exact Jaa rfl | exact Jab rfl | exact Jac Us.h rfl | exact Jaf rfl rfl (by omega)); exact rfl))
  refine TC_loop (ι := Nat × Int) (fun x => [(0, .slice A s.length c), (3, I x.2), (4, I x.1)]) (fun x w' => x.1 ≤ s.length ∧ w = w') (fun x => s.length - x.1) (0, _) (subEnv_cons rfl (subEnv_cons rfl (subEnv_cons rfl (subEnv_nil _)))) ⟨Nat.zero_le _, rfl⟩ ?_
  rintro ⟨i, h⟩ _ ⟨hi, rfl⟩
  simp only at hi
  by_cases hlt : i < s.length ∧ i < 4000
  · obtain ⟨ad, rfl, hcell⟩ := hr.get hlt.1
    rw [u8s_get s hlt.1] at hcell
    have hx2 := (s.getD i 0).toNat_lt
    repeat' (first | apply Jbq | apply Jbr | apply Jbs | apply Jbt | apply Jbx | apply Jby | apply Jbz | (apply Jcg; (first | exact Jaa rfl | exact Jab rfl | exact Jac Us.h rfl | exact Jad rfl rfl | exact Jaf rfl rfl (by omega) | exact Jag Us.h Sz.h rfl rfl (by omega) | exact Jah rfl rfl | exact Jax Us.h Us.h rfl (by omega)); exact rfl) | refine Jch rfl rfl rfl ?_ | refine Jcg (Pu_mulw rfl rfl) rfl ?_ | refine Jcg (Pu_addw rfl rfl) rfl ?_ | refine Jcg (Pu_and rfl rfl) rfl ?_ | refine Jcg (Pu_load Fl.h rfl (fun _ e => by rw [e]; exact hcell)) rfl ?_ | (refine Jcs rfl rfl (fun hb => ?_) (fun hb => ?_) <;> (try (exfalso; omega))) | (refine Jcx rfl (fun hb => ?_) (fun hb => ?_) <;> (try (exfalso; omega))))
    exact TN_round (i + 1, _) (subEnv_cons rfl (subEnv_cons rfl (subEnv_cons rfl (subEnv_nil _)))) ⟨hlt.1, rfl⟩ (by simp only; omega)
  · repeat' (first | apply Jbq | apply Jbr | apply Jbs | apply Jbt | apply Jbu | apply Jca | apply Jcb | apply Jcc | (refine Jcf rfl ?_) | (apply Jcg; (first | exact Jaa rfl | exact Jab rfl | exact Jac Us.h rfl | exact Jad rfl rfl | exact Jah rfl rfl | exact Jai rfl rfl); exact rfl) | refine Jch rfl rfl rfl ?_ | refine Jci rfl rfl rfl rfl rfl ?_ | (refine Jcg (Pu_build (cs := [.slice A s.length c, I 0, I h]) rfl (by kernel_rfl)) rfl ?_) | (refine TL_box (cs := [.slice A s.length c, I 0, I h]) rfl rfl ?_; intro w1 g1 e1 hg1 hz1 hb1) | (refine Jcs rfl rfl (fun hb => ?_) (fun hb => ?_) <;> (try (exfalso; omega))) | (refine Jcx rfl (fun hb => ?_) (fun hb => ?_) <;> (try (exfalso; omega))))
    all_goals exact TR_of (res1 rfl rfl) ⟨g1, rfl, e1, by omega, hz1, A, c, lo, s, 0, h, hb1, (hr.ext e1).wide (Nat.le_refl _) (by have := hr.hi_le; omega) (by omega), Nat.zero_le _, hl⟩
set_option maxHeartbeats 2000000 in
theorem l01Bytes_c {w : World} {g : Nat} {most : Nat} (hcur : Cur w g) (hm : most ≤ 65536) :
    Ret Tryz.prog 177 #[pt g, I most] w fun v w' => ∃ s : List UInt8, s.length ≤ most ∧ Ch (Iv g (g + 1)) w w' ∧ OB w' w.heap.size w'.heap.size v s ∧ Cur w' g := by
  refine Ret_enter Tryz.func177 rfl rfl rfl ?_
  repeat' (first | apply Jbq | apply Jbr | apply Jbs | apply Jbt | (apply Jcg; (first | exact Jaa rfl | exact Jab rfl | exact Jaf rfl rfl (by omega)); exact rfl))
  refine TL_call rfl en115 (l01Below_c hcur (by omega)) rfl rfl ?_
  rintro _ w1 ⟨n, rfl, hn0, hn1, _, c1, hcur1⟩
  have hn1 := hn1 (by omega)
  have hg := hcur.lt
  repeat' (first | apply Jbq | apply Jbr | apply Jbs | apply Jbt | apply Jby | (apply Jcg; exact Jab rfl; exact rfl) | (refine TL_buildSlice0 Us.h Sz.h rfl ?_; intro w2 g2 e2 hg2 hz2 hown2))
  have hnew : OB w2 w.heap.size w2.heap.size (.slice (some ⟨g2, 0, none⟩) 0 0) [] := by
    have hs1 := c1.size
    exact ⟨_, _, rfl, hown2.wide (by omega) (by omega) (Nat.le_refl _)⟩
  refine TC_loop (ι := Nat × List UInt8 × Value) (fun x => [(0, pt g), (5, I n), (6, x.2.2), (7, I x.1)]) (fun x w' => (x.1 : Int) ≤ n ∧ x.2.1.length = x.1 ∧ Ch (Iv g (g + 1)) w w' ∧ OB w' w.heap.size w'.heap.size x.2.2 x.2.1 ∧ Cur w' g) (fun x => (n - x.1).toNat) (0, [], _) (subEnv_cons rfl (subEnv_cons rfl (subEnv_cons rfl (subEnv_cons rfl (subEnv_nil _)))))
    ⟨hn0, rfl, c1.ext e2, hnew, hcur1.ext e2⟩ ?_
  rintro ⟨k, s, va⟩ w3 ⟨hs, hsl, c3, ho3, hcur3⟩
  simp only at hs hsl ho3
  repeat' (first | apply Jbq | apply Jbr | apply Jbs | apply Jbt | (apply Jcg; (first | exact Jaa rfl | exact Jad rfl rfl); exact rfl))
  refine Jcx rfl (fun hb => ?_) (fun hb => ?_)
  · repeat' (first | apply Jbr | apply Jbs | apply Jbt | apply Jby | apply Jbz | (apply Jcg; exact Jaa rfl; exact rfl))
    refine TL_call rfl en161 (l01Byte_c hcur3) rfl rfl ?_
    rintro _ w4 ⟨x, rfl, hx, c4, hcur4⟩
    repeat' ((apply Jcg; exact Jaw Us.h Us.h rfl; exact rfl))
    refine TL_buildSlice Us.h Zi.h rfl rfl rfl rfl (fillu1 _) rfl rfl ?_
    intro w5 g5 e5 hg5 hz5 hown5
    have ho5 := (ho3.ch c4 (by intro k _ _; simp only [Iv]; omega)).ext e5
    refine TL_appendB Us.h rfl rfl ho5 (OB_new (s := [_]) rfl hown5 hg5 hz5).rd (by have := c3.size; have := c4.size; have := e5.size; omega) (by simp only [List.length_cons, List.length_nil]; omega) rfl ?_
    intro w6 v6 c6 ho6
    repeat' (first | apply Jbq | apply Jbr | apply Jbt | apply Jbx | (apply Jcg; (first | exact Jaa rfl | exact Jab rfl | exact Jaf rfl rfl (by omega)); exact rfl))
    exact TN_round (k + 1, s ++ [UInt8.ofNat ((x : Int) % 256).toNat], v6) (subEnv_cons rfl (subEnv_cons rfl (subEnv_cons rfl (subEnv_cons rfl (subEnv_nil _))))) ⟨by simp only; omega, by simp only [List.length_append, List.length_cons, List.length_nil]; omega, Own.step ((c3.then c4).ext e5) c6 (Nat.le_refl _), ho6, (hcur4.ext e5).ch c6 (by intro k _; simp only [Iv]; omega)⟩ (by simp only; omega)
  · repeat' (first | apply Jbq | apply Jbr | apply Jbs | apply Jbt | apply Jbu | apply Jca | apply Jcb | apply Jcc | (apply Jcg; (first | exact Jaa rfl | exact Jab rfl); exact rfl))
    exact TR_of (res1 rfl rfl) ⟨s, by omega, c3, ho3, hcur3⟩
theorem MakeNum_c {w : World} {lo hi : Nat} {v : Value} {s : List UInt8} {n : Int} (hR : RB w lo hi v s) (hl : s.length ≤ 1048576) (hn : n ≤ 4611686018427387904) :
    Ret Tryz.prog 47 #[v, I n] w fun v' w' => ∃ x : Int, v' = I x ∧ 0 ≤ x ∧ (0 < n → x < n) ∧ (n ≤ 0 → x = 0) ∧ Ext w w' := by
  refine Ret_enter Tryz.func47 rfl rfl rfl ?_
  repeat' (first | apply Jbq | apply Jbr | apply Jbs | apply Jbt | (apply Jcg; (first | exact Jaa rfl | exact Jab rfl); exact rfl))
  refine TL_call rfl en99 (l01New_c hR hl) rfl rfl ?_
  rintro _ w1 ⟨g, rfl, e1, hg, hz1, hcur⟩
  obtain ⟨A, c, lo2, s2, i, h, hb, hr, hi2, hl2⟩ := hcur
  repeat' (first | apply Jbq | apply Jbr | apply Jbs | apply Jbt | (apply Jcg; (first | exact Jaa rfl | exact Jab rfl | exact Jba rfl | (apply Jbl; exact Us.h; exact rfl; exact Sz.h; exact rfl)); exact rfl) | refine Jcg (Pu_load Fl.h rfl (fun _ e => by rw [e]; exact hb.ld rfl)) rfl ?_ | refine Jcg (Pu_addw rfl rfl) rfl ?_)
  refine TL_store rfl rfl Sz.h rfl hb rfl ?_
  intro w2 c2 hz2 hb2
  have hcur2 : Cur w2 g := ⟨A, c, lo2, s2, i, _, hb2, hr.ch c2 (by intro k _ _; simp only [Iv]; omega), hi2, hl2⟩
  repeat' (first | apply Jbq | apply Jbr | apply Jbs | apply Jbt | (apply Jcg; exact Jaa rfl; exact rfl))
  refine TL_call rfl en115 (l01Below_c hcur2 hn) rfl rfl ?_
  rintro _ w3 ⟨x, rfl, h0, h1, h2, c3, _⟩
  repeat' (first | apply Jbq | apply Jbr | apply Jbu | (apply Jcg; exact Jab rfl; exact rfl))
  exact TR_of (res1 rfl rfl) ⟨x, rfl, h0, h1, h2, Ext.then_iv (Ext.then_iv e1 c2 hg) c3 hg⟩
end Go.Proofs.YtggaghghclomkaaGreat

/- Contracts of the functions that only compute: ranges, runes, names, entries. -/
namespace Go.Proofs.YtggaghghclomkaaGreat
open Go.RowKit
attribute [local irreducible] TL TC TN TX TR TQ Pu Ret

def inB (n lo hi : Int) : Bool := decide (lo ≤ n ∧ n ≤ hi)
def okByte (b : UInt8) : Bool := decide (97 ≤ (b.toNat : Int) ∧ (b.toNat : Int) ≤ 122)
def pName (s : List UInt8) : Bool := decide (1 ≤ s.length ∧ s.length ≤ 12) && s.all okByte
def pEntry (num : Int) (text : List UInt8) : Bool := decide (1 ≤ num ∧ num ≤ 1000000000 ∧ 1 ≤ text.length ∧ text.length ≤ 1000)
theorem boolv {a b : Bool} (h : a = true ↔ b = true) : Value.bool a = Value.bool b := by rw [Bool.eq_iff_iff.2 h]
theorem okTake {s : List UInt8} {k : Nat} (h : k < s.length) : (s.take (k + 1)).all okByte = ((s.take k).all okByte && okByte (at8 s k)) := by
  rw [List.take_succ_eq_append_getElem h, List.all_append]
  simp only [at8, Int.toNat_natCast, List.getD_eq_getElem?_getD, List.getElem?_eq_getElem h, Option.getD_some, List.all_cons, List.all_nil, Bool.and_true]
theorem okBad {s : List UInt8} {k : Nat} (h : k < s.length) (hb : okByte (at8 s k) = false) : s.all okByte = false := by
  rw [List.all_eq_false]
  refine ⟨s[k], List.getElem_mem h, ?_⟩
  simpa [at8, List.getD_eq_getElem?_getD, List.getElem?_eq_getElem h] using hb

theorem in_c (n lo hi : Int) (w : World) : Ret Tryz.prog 101 #[I n, I lo, I hi] w fun v w' => v = .bool (inB n lo hi) ∧ w = w' := by
  refine Ret_enter Tryz.func101 rfl rfl rfl ?_
  repeat' (first | apply Jbq | apply Jbr | apply Jbs | apply Jbt | apply Jbu | (apply Jcg; (first | exact Jaa rfl | exact Jab rfl | exact Jah rfl rfl | exact Jai rfl rfl | exact Jan rfl rfl | exact Jao rfl rfl); exact rfl) | refine Jch rfl rfl rfl ?_ | refine Jci rfl rfl rfl rfl rfl ?_ | (refine Jcs rfl rfl (fun hb => ?_) (fun hb => ?_) <;> (try (exfalso; omega))))
  all_goals exact TR_of (res1 rfl rfl) ⟨boolv (by simp [inB]; omega), rfl⟩
theorem isLower_c (r : Int) (w : World) : Ret Tryz.prog 171 #[I r] w fun v w' => v = .bool (inB r 97 122) ∧ w = w' := by
  refine Ret_enter Tryz.func171 rfl rfl rfl ?_
  repeat' (first | apply Jbq | apply Jbr | apply Jbs | apply Jbt | apply Jbu | (apply Jcg; (first | exact Jaa rfl | exact Jab rfl); exact rfl) | (refine TL_call rfl en101 (in_c _ _ _ _) rfl rfl ?_; rintro _ _ ⟨rfl, rfl⟩))
  exact TR_of (res1 rfl rfl) ⟨rfl, rfl⟩
theorem specNameOk_c (s : List UInt8) (w : World) (hl : s.length ≤ 9223372036854775807) : Ret Tryz.prog 131 #[S s] w fun v w' => v = .bool (pName s) ∧ w = w' := by
  refine Ret_enter Tryz.func131 rfl rfl rfl ?_
  by_cases h : 1 ≤ s.length ∧ s.length ≤ 12
  · repeat' (first | apply Jbq | apply Jbr | apply Jbs | apply Jbt | apply Jby | apply Jbz | (apply Jcg; (first | exact Jaa rfl | exact Jab rfl | exact Jad rfl rfl | exact Jai rfl rfl | exact Jam rfl rfl | exact Jaq Us.h rfl); exact rfl) | refine Jch rfl rfl rfl ?_ | (refine Jcs rfl rfl (fun hb => ?_) (fun hb => ?_) <;> (try (exfalso; omega))) | (refine Jcx rfl (fun hb => ?_) (fun hb => ?_) <;> (try (exfalso; omega))))
    refine TC_loop (ι := Nat) (fun k => [(0, S s), (3, I k)]) (fun k w' => k ≤ s.length ∧ (s.take k).all okByte = true ∧ w = w') (fun k => s.length - k) 0 (subEnv_cons rfl (subEnv_cons rfl (subEnv_nil _))) ⟨Nat.zero_le _, by simp, rfl⟩ ?_
    rintro k _ ⟨hk, hall, rfl⟩
    by_cases hlt : k < s.length
    · have ht := okTake hlt
      repeat' (first | apply Jbq | apply Jbr | apply Jbs | apply Jbt | apply Jbu | apply Jbv | apply Jbw | apply Jbx | apply Jby | apply Jbz | (refine Jce rfl ?_) | (apply Jcg; (first | exact Jaa rfl | exact Jab rfl | exact Jad rfl rfl | exact Jaf rfl rfl (by omega) | exact Jah rfl rfl | exact Jai rfl rfl | exact Jam rfl rfl | exact Jaq Us.h rfl | exact Jbb Us.h rfl rfl (by omega)); exact rfl) | refine Jch rfl rfl rfl ?_ | refine Jci rfl rfl rfl rfl rfl ?_ | (refine Jcs rfl rfl (fun hb => ?_) (fun hb => ?_) <;> (try (exfalso; omega))) | (refine Jcx rfl (fun hb => ?_) (fun hb => ?_) <;> (try (exfalso; omega))))
      · exact TR_of (res1 rfl rfl) ⟨boolv (by have := okBad hlt (by simp [okByte]; omega); simp [pName, this]), rfl⟩
      · exact TR_of (res1 rfl rfl) ⟨boolv (by have := okBad hlt (by simp [okByte]; omega); simp [pName, this]), rfl⟩
      · exact TN_round (k + 1) (subEnv_cons rfl (subEnv_cons rfl (subEnv_nil _))) ⟨hlt, by rw [ht, hall]; simp [okByte]; omega, rfl⟩ (by omega)
    · obtain rfl : k = s.length := by omega
      repeat' (first | apply Jbq | apply Jbr | apply Jbs | apply Jbt | apply Jbu | apply Jca | apply Jcb | apply Jcc | (apply Jcg; (first | exact Jaa rfl | exact Jab rfl | exact Jad rfl rfl | exact Jaq Us.h rfl); exact rfl) | (refine Jcx rfl (fun hb => ?_) (fun hb => ?_) <;> (try (exfalso; omega))))
      exact TR_of (res1 rfl rfl) ⟨boolv (by rw [List.take_length] at hall; simp [pName, hall, h]), rfl⟩
  · have hp : pName s = false := by simp [pName]; omega
    repeat' (first | apply Jbq | apply Jbr | apply Jbs | apply Jbt | apply Jbu | apply Jbv | (refine Jce rfl ?_) | (apply Jcg; (first | exact Jaa rfl | exact Jab rfl | exact Jad rfl rfl | exact Jah rfl rfl | exact Jai rfl rfl | exact Jam rfl rfl | exact Jaq Us.h rfl); exact rfl) | refine Jch rfl rfl rfl ?_ | refine Jci rfl rfl rfl rfl rfl ?_ | (refine Jcs rfl rfl (fun hb => ?_) (fun hb => ?_) <;> (try (exfalso; omega))) | (refine Jcx rfl (fun hb => ?_) (fun hb => ?_) <;> (try (exfalso; omega))))
    all_goals exact TR_of (res1 rfl rfl) ⟨by rw [hp], rfl⟩
theorem implNameOk_c (s : List UInt8) (w : World) (hl : s.length ≤ 9223372036854775807) : Ret Tryz.prog 139 #[S s] w fun v w' => v = .bool (pName s) ∧ w = w' := by
  refine Ret_enter Tryz.func139 rfl rfl rfl ?_
  repeat' (first | apply Jbq | apply Jbr | apply Jbs | apply Jbt | (apply Jcg; (first | exact Jaa rfl | exact Jab rfl | exact Jaj rfl | exact Jaq Us.h rfl); exact rfl) | (refine TL_call rfl en101 (in_c _ _ _ _) rfl rfl ?_; rintro _ _ ⟨rfl, rfl⟩))
  by_cases h : 1 ≤ s.length ∧ s.length ≤ 12
  · rw [show inB (s.length : Int) 1 12 = true from by simp [inB]; omega]
    repeat' (first | apply Jbq | apply Jbr | apply Jbs | apply Jbt | apply Jby | apply Jbz | (refine Jcf rfl ?_) | (apply Jcg; exact Jab rfl; exact rfl))
    refine TC_loop (ι := Nat) (fun k => [(0, S s), (3, I k)]) (fun k w' => k ≤ s.length ∧ (s.take k).all okByte = true ∧ w = w') (fun k => s.length - k) 0 (subEnv_cons rfl (subEnv_cons rfl (subEnv_nil _))) ⟨Nat.zero_le _, by simp, rfl⟩ ?_
    rintro k _ ⟨hk, hall, rfl⟩
    by_cases hlt : k < s.length
    · have ht := okTake hlt
      repeat' (first | apply Jbq | apply Jbr | apply Jbs | apply Jbt | (apply Jcg; (first | exact Jaa rfl | exact Jad rfl rfl | exact Jaq Us.h rfl); exact rfl))
      refine Jce (by rw [show decide ((k : Int) < (s.length : Int)) = true from by simpa using hlt]; rfl) ?_
      have hcb : (0 : Int) ≤ ((at8 s k).toNat : Int) ∧ ((at8 s k).toNat : Int) ≤ 255 := by have := (at8 s k).toNat_lt; omega
      repeat' (first | apply Jbq | apply Jbr | apply Jbs | apply Jbt | apply Jby | apply Jbz | (apply Jcg; (first | exact Jaa rfl | exact Jaj rfl | exact Jax Us.h Us.h rfl (by omega) | exact Jbb Us.h rfl rfl (by omega)); exact rfl) | (refine TL_call rfl en171 (isLower_c _ _) rfl rfl ?_; rintro _ _ ⟨rfl, rfl⟩))
      cases hb : inB ((at8 s k).toNat : Int) 97 122
      · repeat' (first | apply Jbq | apply Jbr | apply Jbs | apply Jbt | apply Jbu | apply Jbv | apply Jbw | (refine Jce rfl ?_) | (apply Jcg; exact Jab rfl; exact rfl))
        exact TR_of (res1 rfl rfl) ⟨boolv (by have := okBad hlt (by simpa [okByte, inB] using hb); simp [pName, this]), rfl⟩
      · repeat' (first | apply Jbq | apply Jbr | apply Jbt | apply Jbx | apply Jbz | (refine Jcf rfl ?_) | (apply Jcg; (first | exact Jaa rfl | exact Jab rfl | exact Jaf rfl rfl (by omega)); exact rfl))
        exact TN_round (k + 1) (subEnv_cons rfl (subEnv_cons rfl (subEnv_nil _))) ⟨hlt, by rw [ht, hall]; simpa [okByte, inB] using hb, rfl⟩ (by omega)
    · obtain rfl : k = s.length := by omega
      repeat' (first | apply Jbq | apply Jbr | apply Jbs | apply Jbt | (apply Jcg; (first | exact Jaa rfl | exact Jad rfl rfl | exact Jaq Us.h rfl); exact rfl))
      refine Jcf (by rw [show decide ((s.length : Int) < (s.length : Int)) = false from by simp]; rfl) ?_
      repeat' (first | apply Jbq | apply Jbr | apply Jbs | apply Jbt | apply Jbu | apply Jca | apply Jcb | apply Jcc | (apply Jcg; exact Jab rfl; exact rfl))
      exact TR_of (res1 rfl rfl) ⟨boolv (by rw [List.take_length] at hall; simp [pName, hall, h]), rfl⟩
  · have hp : pName s = false := by simp [pName]; omega
    rw [show inB (s.length : Int) 1 12 = false from by simp [inB]; omega]
    repeat' (first | apply Jbq | apply Jbr | apply Jbs | apply Jbt | apply Jbu | apply Jbv | (refine Jce rfl ?_) | (apply Jcg; exact Jab rfl; exact rfl))
    exact TR_of (res1 rfl rfl) ⟨by rw [hp], rfl⟩
theorem specEntryOk_c (num : Int) (s : List UInt8) (w : World) : Ret Tryz.prog 165 #[.agg #[I num, S s]] w fun v w' => v = .bool (pEntry num s) ∧ Ext w w' := by
  refine Ret_enter Tryz.func165 rfl rfl rfl ?_
  repeat' (first | apply Jbs | apply Jbt)
  refine TL_box (cs := [I num, S s]) rfl rfl ?_
  intro w1 g e1 hg hz hbk
  clear hg hz
  repeat' (first | apply Jbq | apply Jbr | apply Jbs | apply Jbt | apply Jbu | (apply Jcg; (first | exact Jaa rfl | exact Jab rfl | exact Jah rfl rfl | exact Jai rfl rfl | exact Jan rfl rfl | exact Jao rfl rfl | exact Jaq Us.h rfl | (apply Jbl; exact Us.h; exact rfl; exact Sz.h; exact rfl)); exact rfl) | refine Jch rfl rfl rfl ?_ | refine Jci rfl rfl rfl rfl rfl ?_ | refine Jcg (Pu_load Fl.h rfl (fun _ e => by rw [e]; exact hbk.ld rfl)) rfl ?_ | (refine Jcs rfl rfl (fun hb => ?_) (fun hb => ?_) <;> (try (exfalso; omega))))
  all_goals (refine TR_of (res1 rfl rfl) ⟨boolv ?_, e1⟩; clear hbk e1; simp [pEntry]; try omega)
theorem implEntryOk_c (num : Int) (s : List UInt8) (w : World) : Ret Tryz.prog 155 #[.agg #[I num, S s]] w fun v w' => v = .bool (pEntry num s) ∧ Ext w w' := by
  refine Ret_enter Tryz.func155 rfl rfl rfl ?_
  repeat' (first | apply Jbs | apply Jbt)
  refine TL_box (cs := [I num, S s]) rfl rfl ?_
  intro w1 g e1 hg hz hbk
  clear hg hz
  repeat' (first | apply Jbq | apply Jbr | apply Jbs | apply Jbt | apply Jbu | (apply Jcg; (first | exact Jaa rfl | exact Jab rfl | exact Jah rfl rfl | exact Jai rfl rfl | exact Jaq Us.h rfl | (apply Jbl; exact Us.h; exact rfl; exact Sz.h; exact rfl)); exact rfl) | refine Jch rfl rfl rfl ?_ | refine Jci rfl rfl rfl rfl rfl ?_ | refine Jcg (Pu_load Fl.h rfl (fun _ e => by rw [e]; exact hbk.ld rfl)) rfl ?_ | (refine TL_call rfl en101 (in_c _ _ _ _) rfl rfl ?_; rintro _ _ ⟨rfl, rfl⟩) | (refine Jcs rfl rfl (fun hb => ?_) (fun hb => ?_) <;> (try (exfalso; omega))))
  all_goals (refine TR_of (res1 rfl rfl) ⟨boolv ?_, e1⟩; clear hbk e1; simp_all [pEntry, inB])
  all_goals omega
end Go.Proofs.YtggaghghclomkaaGreat
