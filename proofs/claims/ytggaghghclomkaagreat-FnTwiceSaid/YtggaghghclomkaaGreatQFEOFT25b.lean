/- Texts of this proof laid together, in the order in which they build; what each proves stands ahead of it. No condition but those told there. -/
import Derived.Test.YtggaghghclomkaaGreatQFEOFT25a
import Derived.Test.YtggaghghclomkaaGreatProg
import Derived.KernelRfl

/- Closed facts on the program's types and functions, each asked of the kernel. -/
namespace Go.Proofs.YtggaghghclomkaaGreat
class Sz (P : Program) (t : TypeId) (n : outParam Nat) : Prop where
  h : (P.info? t).map (·.size) = some n
class Us (P : Program) (t : TypeId) (d : outParam TypeDesc) : Prop where
  h : P.underlying t = some d
@[reducible] def descOf {P : Program} {t : TypeId} {d : TypeDesc} (_ : P.underlying t = some d) : TypeDesc := d
class Inf (P : Program) (t : TypeId) (z : outParam (Option Value)) (s b : outParam Nat) : Prop where
  h : (P.info? t).map (fun i => (i.zero, i.size, i.bytes)) = some (z, s, b)
class Zs (P : Program) (t : TypeId) (z : outParam Value) : Prop where
  h : (P.info? t).bind (·.zero) = some z
class Zi (P : Program) (t : TypeId) (z : outParam (Option Value)) (s : outParam Nat) : Prop where
  h : (P.info? t).map (fun i => (i.zero, i.size)) = some (z, s)
class Fl (P : Program) (t : TypeId) : Prop where
  h : flat P t = true
theorem inf2 : (Tryz.prog.info? 2).map (fun i => (i.zero, i.size, i.bytes)) = some (some (.int .i64 0), 1, 8) := by kernel_rfl
theorem sz2 : (Tryz.prog.info? 2).map (·.size) = some 1 := by kernel_rfl
theorem zs2 : (Tryz.prog.info? 2).bind (·.zero) = some (.int .i64 0) := by kernel_rfl
theorem zi2 : (Tryz.prog.info? 2).map (fun i => (i.zero, i.size)) = some (some (.int .i64 0), 1) := by kernel_rfl
instance isz2 : Sz Tryz.prog 2 1 := ⟨sz2⟩
instance iin2 : Inf Tryz.prog 2 (some (.int .i64 0)) 1 8 := ⟨inf2⟩
instance izs2 : Zs Tryz.prog 2 (.int .i64 0) := ⟨zs2⟩
instance izi2 : Zi Tryz.prog 2 (some (.int .i64 0)) 1 := ⟨zi2⟩
theorem inf3 : (Tryz.prog.info? 3).map (fun i => (i.zero, i.size, i.bytes)) = some (some (.int .i64 0), 1, 8) := by kernel_rfl
theorem sz3 : (Tryz.prog.info? 3).map (·.size) = some 1 := by kernel_rfl
theorem zs3 : (Tryz.prog.info? 3).bind (·.zero) = some (.int .i64 0) := by kernel_rfl
theorem zi3 : (Tryz.prog.info? 3).map (fun i => (i.zero, i.size)) = some (some (.int .i64 0), 1) := by kernel_rfl
instance isz3 : Sz Tryz.prog 3 1 := ⟨sz3⟩
instance iin3 : Inf Tryz.prog 3 (some (.int .i64 0)) 1 8 := ⟨inf3⟩
instance izs3 : Zs Tryz.prog 3 (.int .i64 0) := ⟨zs3⟩
instance izi3 : Zi Tryz.prog 3 (some (.int .i64 0)) 1 := ⟨zi3⟩
theorem inf4 : (Tryz.prog.info? 4).map (fun i => (i.zero, i.size, i.bytes)) = some (some (.bool false), 1, 1) := by kernel_rfl
theorem sz4 : (Tryz.prog.info? 4).map (·.size) = some 1 := by kernel_rfl
theorem zs4 : (Tryz.prog.info? 4).bind (·.zero) = some (.bool false) := by kernel_rfl
theorem zi4 : (Tryz.prog.info? 4).map (fun i => (i.zero, i.size)) = some (some (.bool false), 1) := by kernel_rfl
instance isz4 : Sz Tryz.prog 4 1 := ⟨sz4⟩
instance iin4 : Inf Tryz.prog 4 (some (.bool false)) 1 1 := ⟨inf4⟩
instance izs4 : Zs Tryz.prog 4 (.bool false) := ⟨zs4⟩
instance izi4 : Zi Tryz.prog 4 (some (.bool false)) 1 := ⟨zi4⟩
theorem inf5 : (Tryz.prog.info? 5).map (fun i => (i.zero, i.size, i.bytes)) = some (some (.int .u8 0), 1, 1) := by kernel_rfl
theorem sz5 : (Tryz.prog.info? 5).map (·.size) = some 1 := by kernel_rfl
theorem zs5 : (Tryz.prog.info? 5).bind (·.zero) = some (.int .u8 0) := by kernel_rfl
theorem zi5 : (Tryz.prog.info? 5).map (fun i => (i.zero, i.size)) = some (some (.int .u8 0), 1) := by kernel_rfl
instance isz5 : Sz Tryz.prog 5 1 := ⟨sz5⟩
instance iin5 : Inf Tryz.prog 5 (some (.int .u8 0)) 1 1 := ⟨inf5⟩
instance izs5 : Zs Tryz.prog 5 (.int .u8 0) := ⟨zs5⟩
instance izi5 : Zi Tryz.prog 5 (some (.int .u8 0)) 1 := ⟨zi5⟩
theorem inf9 : (Tryz.prog.info? 9).map (fun i => (i.zero, i.size, i.bytes)) = some (some (.string ByteArray.empty), 1, 16) := by kernel_rfl
theorem sz9 : (Tryz.prog.info? 9).map (·.size) = some 1 := by kernel_rfl
theorem zs9 : (Tryz.prog.info? 9).bind (·.zero) = some (.string ByteArray.empty) := by kernel_rfl
theorem zi9 : (Tryz.prog.info? 9).map (fun i => (i.zero, i.size)) = some (some (.string ByteArray.empty), 1) := by kernel_rfl
instance isz9 : Sz Tryz.prog 9 1 := ⟨sz9⟩
instance iin9 : Inf Tryz.prog 9 (some (.string ByteArray.empty)) 1 16 := ⟨inf9⟩
instance izs9 : Zs Tryz.prog 9 (.string ByteArray.empty) := ⟨zs9⟩
instance izi9 : Zi Tryz.prog 9 (some (.string ByteArray.empty)) 1 := ⟨zi9⟩
theorem inf15 : (Tryz.prog.info? 15).map (fun i => (i.zero, i.size, i.bytes)) = some (some (.pointer none), 1, 8) := by kernel_rfl
theorem sz15 : (Tryz.prog.info? 15).map (·.size) = some 1 := by kernel_rfl
theorem zs15 : (Tryz.prog.info? 15).bind (·.zero) = some (.pointer none) := by kernel_rfl
theorem zi15 : (Tryz.prog.info? 15).map (fun i => (i.zero, i.size)) = some (some (.pointer none), 1) := by kernel_rfl
instance isz15 : Sz Tryz.prog 15 1 := ⟨sz15⟩
instance iin15 : Inf Tryz.prog 15 (some (.pointer none)) 1 8 := ⟨inf15⟩
instance izs15 : Zs Tryz.prog 15 (.pointer none) := ⟨zs15⟩
instance izi15 : Zi Tryz.prog 15 (some (.pointer none)) 1 := ⟨zi15⟩
theorem inf16 : (Tryz.prog.info? 16).map (fun i => (i.zero, i.size, i.bytes)) = some (some (.pointer none), 1, 8) := by kernel_rfl
theorem sz16 : (Tryz.prog.info? 16).map (·.size) = some 1 := by kernel_rfl
theorem zs16 : (Tryz.prog.info? 16).bind (·.zero) = some (.pointer none) := by kernel_rfl
theorem zi16 : (Tryz.prog.info? 16).map (fun i => (i.zero, i.size)) = some (some (.pointer none), 1) := by kernel_rfl
instance isz16 : Sz Tryz.prog 16 1 := ⟨sz16⟩
instance iin16 : Inf Tryz.prog 16 (some (.pointer none)) 1 8 := ⟨inf16⟩
instance izs16 : Zs Tryz.prog 16 (.pointer none) := ⟨zs16⟩
instance izi16 : Zi Tryz.prog 16 (some (.pointer none)) 1 := ⟨zi16⟩
theorem inf17 : (Tryz.prog.info? 17).map (fun i => (i.zero, i.size, i.bytes)) = some (some (.pointer none), 1, 8) := by kernel_rfl
theorem sz17 : (Tryz.prog.info? 17).map (·.size) = some 1 := by kernel_rfl
theorem zs17 : (Tryz.prog.info? 17).bind (·.zero) = some (.pointer none) := by kernel_rfl
theorem zi17 : (Tryz.prog.info? 17).map (fun i => (i.zero, i.size)) = some (some (.pointer none), 1) := by kernel_rfl
instance isz17 : Sz Tryz.prog 17 1 := ⟨sz17⟩
instance iin17 : Inf Tryz.prog 17 (some (.pointer none)) 1 8 := ⟨inf17⟩
instance izs17 : Zs Tryz.prog 17 (.pointer none) := ⟨zs17⟩
instance izi17 : Zi Tryz.prog 17 (some (.pointer none)) 1 := ⟨zi17⟩
theorem inf22 : (Tryz.prog.info? 22).map (fun i => (i.zero, i.size, i.bytes)) = some (some (.slice none 0 0), 1, 24) := by kernel_rfl
theorem sz22 : (Tryz.prog.info? 22).map (·.size) = some 1 := by kernel_rfl
theorem zs22 : (Tryz.prog.info? 22).bind (·.zero) = some (.slice none 0 0) := by kernel_rfl
theorem zi22 : (Tryz.prog.info? 22).map (fun i => (i.zero, i.size)) = some (some (.slice none 0 0), 1) := by kernel_rfl
instance isz22 : Sz Tryz.prog 22 1 := ⟨sz22⟩
instance iin22 : Inf Tryz.prog 22 (some (.slice none 0 0)) 1 24 := ⟨inf22⟩
instance izs22 : Zs Tryz.prog 22 (.slice none 0 0) := ⟨zs22⟩
instance izi22 : Zi Tryz.prog 22 (some (.slice none 0 0)) 1 := ⟨zi22⟩
theorem inf23 : (Tryz.prog.info? 23).map (fun i => (i.zero, i.size, i.bytes)) = some (some (.slice none 0 0), 1, 24) := by kernel_rfl
theorem sz23 : (Tryz.prog.info? 23).map (·.size) = some 1 := by kernel_rfl
theorem zs23 : (Tryz.prog.info? 23).bind (·.zero) = some (.slice none 0 0) := by kernel_rfl
theorem zi23 : (Tryz.prog.info? 23).map (fun i => (i.zero, i.size)) = some (some (.slice none 0 0), 1) := by kernel_rfl
instance isz23 : Sz Tryz.prog 23 1 := ⟨sz23⟩
instance iin23 : Inf Tryz.prog 23 (some (.slice none 0 0)) 1 24 := ⟨inf23⟩
instance izs23 : Zs Tryz.prog 23 (.slice none 0 0) := ⟨zs23⟩
instance izi23 : Zi Tryz.prog 23 (some (.slice none 0 0)) 1 := ⟨zi23⟩
theorem inf24 : (Tryz.prog.info? 24).map (fun i => (i.zero, i.size, i.bytes)) = some (some (.slice none 0 0), 1, 24) := by kernel_rfl
theorem sz24 : (Tryz.prog.info? 24).map (·.size) = some 1 := by kernel_rfl
theorem zs24 : (Tryz.prog.info? 24).bind (·.zero) = some (.slice none 0 0) := by kernel_rfl
theorem zi24 : (Tryz.prog.info? 24).map (fun i => (i.zero, i.size)) = some (some (.slice none 0 0), 1) := by kernel_rfl
instance isz24 : Sz Tryz.prog 24 1 := ⟨sz24⟩
instance iin24 : Inf Tryz.prog 24 (some (.slice none 0 0)) 1 24 := ⟨inf24⟩
instance izs24 : Zs Tryz.prog 24 (.slice none 0 0) := ⟨zs24⟩
instance izi24 : Zi Tryz.prog 24 (some (.slice none 0 0)) 1 := ⟨zi24⟩
theorem inf26 : (Tryz.prog.info? 26).map (fun i => (i.zero, i.size, i.bytes)) = some (some (.agg #[.int .i64 0, .int .i64 0, .int .i64 0, .slice none 0 0, .slice none 0 0, .slice none 0 0]), 6, 96) := by kernel_rfl
theorem sz26 : (Tryz.prog.info? 26).map (·.size) = some 6 := by kernel_rfl
theorem zs26 : (Tryz.prog.info? 26).bind (·.zero) = some (.agg #[.int .i64 0, .int .i64 0, .int .i64 0, .slice none 0 0, .slice none 0 0, .slice none 0 0]) := by kernel_rfl
theorem zi26 : (Tryz.prog.info? 26).map (fun i => (i.zero, i.size)) = some (some (.agg #[.int .i64 0, .int .i64 0, .int .i64 0, .slice none 0 0, .slice none 0 0, .slice none 0 0]), 6) := by kernel_rfl
instance isz26 : Sz Tryz.prog 26 6 := ⟨sz26⟩
instance iin26 : Inf Tryz.prog 26 (some (.agg #[.int .i64 0, .int .i64 0, .int .i64 0, .slice none 0 0, .slice none 0 0, .slice none 0 0])) 6 96 := ⟨inf26⟩
instance izs26 : Zs Tryz.prog 26 (.agg #[.int .i64 0, .int .i64 0, .int .i64 0, .slice none 0 0, .slice none 0 0, .slice none 0 0]) := ⟨zs26⟩
instance izi26 : Zi Tryz.prog 26 (some (.agg #[.int .i64 0, .int .i64 0, .int .i64 0, .slice none 0 0, .slice none 0 0, .slice none 0 0])) 6 := ⟨zi26⟩
theorem inf27 : (Tryz.prog.info? 27).map (fun i => (i.zero, i.size, i.bytes)) = some (some (.slice none 0 0), 1, 24) := by kernel_rfl
theorem sz27 : (Tryz.prog.info? 27).map (·.size) = some 1 := by kernel_rfl
theorem zs27 : (Tryz.prog.info? 27).bind (·.zero) = some (.slice none 0 0) := by kernel_rfl
theorem zi27 : (Tryz.prog.info? 27).map (fun i => (i.zero, i.size)) = some (some (.slice none 0 0), 1) := by kernel_rfl
instance isz27 : Sz Tryz.prog 27 1 := ⟨sz27⟩
instance iin27 : Inf Tryz.prog 27 (some (.slice none 0 0)) 1 24 := ⟨inf27⟩
instance izs27 : Zs Tryz.prog 27 (.slice none 0 0) := ⟨zs27⟩
instance izi27 : Zi Tryz.prog 27 (some (.slice none 0 0)) 1 := ⟨zi27⟩
theorem inf29 : (Tryz.prog.info? 29).map (fun i => (i.zero, i.size, i.bytes)) = some (some (.slice none 0 0), 1, 24) := by kernel_rfl
theorem sz29 : (Tryz.prog.info? 29).map (·.size) = some 1 := by kernel_rfl
theorem zs29 : (Tryz.prog.info? 29).bind (·.zero) = some (.slice none 0 0) := by kernel_rfl
theorem zi29 : (Tryz.prog.info? 29).map (fun i => (i.zero, i.size)) = some (some (.slice none 0 0), 1) := by kernel_rfl
instance isz29 : Sz Tryz.prog 29 1 := ⟨sz29⟩
instance iin29 : Inf Tryz.prog 29 (some (.slice none 0 0)) 1 24 := ⟨inf29⟩
instance izs29 : Zs Tryz.prog 29 (.slice none 0 0) := ⟨zs29⟩
instance izi29 : Zi Tryz.prog 29 (some (.slice none 0 0)) 1 := ⟨zi29⟩
theorem inf30 : (Tryz.prog.info? 30).map (fun i => (i.zero, i.size, i.bytes)) = some (some (.slice none 0 0), 1, 24) := by kernel_rfl
theorem sz30 : (Tryz.prog.info? 30).map (·.size) = some 1 := by kernel_rfl
theorem zs30 : (Tryz.prog.info? 30).bind (·.zero) = some (.slice none 0 0) := by kernel_rfl
theorem zi30 : (Tryz.prog.info? 30).map (fun i => (i.zero, i.size)) = some (some (.slice none 0 0), 1) := by kernel_rfl
instance isz30 : Sz Tryz.prog 30 1 := ⟨sz30⟩
instance iin30 : Inf Tryz.prog 30 (some (.slice none 0 0)) 1 24 := ⟨inf30⟩
instance izs30 : Zs Tryz.prog 30 (.slice none 0 0) := ⟨zs30⟩
instance izi30 : Zi Tryz.prog 30 (some (.slice none 0 0)) 1 := ⟨zi30⟩
theorem inf31 : (Tryz.prog.info? 31).map (fun i => (i.zero, i.size, i.bytes)) = some (some (.slice none 0 0), 1, 24) := by kernel_rfl
theorem sz31 : (Tryz.prog.info? 31).map (·.size) = some 1 := by kernel_rfl
theorem zs31 : (Tryz.prog.info? 31).bind (·.zero) = some (.slice none 0 0) := by kernel_rfl
theorem zi31 : (Tryz.prog.info? 31).map (fun i => (i.zero, i.size)) = some (some (.slice none 0 0), 1) := by kernel_rfl
instance isz31 : Sz Tryz.prog 31 1 := ⟨sz31⟩
instance iin31 : Inf Tryz.prog 31 (some (.slice none 0 0)) 1 24 := ⟨inf31⟩
instance izs31 : Zs Tryz.prog 31 (.slice none 0 0) := ⟨zs31⟩
instance izi31 : Zi Tryz.prog 31 (some (.slice none 0 0)) 1 := ⟨zi31⟩
theorem inf33 : (Tryz.prog.info? 33).map (fun i => (i.zero, i.size, i.bytes)) = some (some (.agg #[.int .i64 0, .int .i64 0, .int .i64 0, .slice none 0 0, .slice none 0 0, .slice none 0 0]), 6, 96) := by kernel_rfl
theorem sz33 : (Tryz.prog.info? 33).map (·.size) = some 6 := by kernel_rfl
theorem zs33 : (Tryz.prog.info? 33).bind (·.zero) = some (.agg #[.int .i64 0, .int .i64 0, .int .i64 0, .slice none 0 0, .slice none 0 0, .slice none 0 0]) := by kernel_rfl
theorem zi33 : (Tryz.prog.info? 33).map (fun i => (i.zero, i.size)) = some (some (.agg #[.int .i64 0, .int .i64 0, .int .i64 0, .slice none 0 0, .slice none 0 0, .slice none 0 0]), 6) := by kernel_rfl
instance isz33 : Sz Tryz.prog 33 6 := ⟨sz33⟩
instance iin33 : Inf Tryz.prog 33 (some (.agg #[.int .i64 0, .int .i64 0, .int .i64 0, .slice none 0 0, .slice none 0 0, .slice none 0 0])) 6 96 := ⟨inf33⟩
instance izs33 : Zs Tryz.prog 33 (.agg #[.int .i64 0, .int .i64 0, .int .i64 0, .slice none 0 0, .slice none 0 0, .slice none 0 0]) := ⟨zs33⟩
instance izi33 : Zi Tryz.prog 33 (some (.agg #[.int .i64 0, .int .i64 0, .int .i64 0, .slice none 0 0, .slice none 0 0, .slice none 0 0])) 6 := ⟨zi33⟩
theorem inf43 : (Tryz.prog.info? 43).map (fun i => (i.zero, i.size, i.bytes)) = some (some (.slice none 0 0), 1, 24) := by kernel_rfl
theorem sz43 : (Tryz.prog.info? 43).map (·.size) = some 1 := by kernel_rfl
theorem zs43 : (Tryz.prog.info? 43).bind (·.zero) = some (.slice none 0 0) := by kernel_rfl
theorem zi43 : (Tryz.prog.info? 43).map (fun i => (i.zero, i.size)) = some (some (.slice none 0 0), 1) := by kernel_rfl
instance isz43 : Sz Tryz.prog 43 1 := ⟨sz43⟩
instance iin43 : Inf Tryz.prog 43 (some (.slice none 0 0)) 1 24 := ⟨inf43⟩
instance izs43 : Zs Tryz.prog 43 (.slice none 0 0) := ⟨zs43⟩
instance izi43 : Zi Tryz.prog 43 (some (.slice none 0 0)) 1 := ⟨zi43⟩
theorem inf45 : (Tryz.prog.info? 45).map (fun i => (i.zero, i.size, i.bytes)) = some (some (.agg #[.int .i64 0, .string ByteArray.empty, .string ByteArray.empty, .int .i64 0, .slice none 0 0]), 5, 72) := by kernel_rfl
theorem sz45 : (Tryz.prog.info? 45).map (·.size) = some 5 := by kernel_rfl
theorem zs45 : (Tryz.prog.info? 45).bind (·.zero) = some (.agg #[.int .i64 0, .string ByteArray.empty, .string ByteArray.empty, .int .i64 0, .slice none 0 0]) := by kernel_rfl
theorem zi45 : (Tryz.prog.info? 45).map (fun i => (i.zero, i.size)) = some (some (.agg #[.int .i64 0, .string ByteArray.empty, .string ByteArray.empty, .int .i64 0, .slice none 0 0]), 5) := by kernel_rfl
instance isz45 : Sz Tryz.prog 45 5 := ⟨sz45⟩
instance iin45 : Inf Tryz.prog 45 (some (.agg #[.int .i64 0, .string ByteArray.empty, .string ByteArray.empty, .int .i64 0, .slice none 0 0])) 5 72 := ⟨inf45⟩
instance izs45 : Zs Tryz.prog 45 (.agg #[.int .i64 0, .string ByteArray.empty, .string ByteArray.empty, .int .i64 0, .slice none 0 0]) := ⟨zs45⟩
instance izi45 : Zi Tryz.prog 45 (some (.agg #[.int .i64 0, .string ByteArray.empty, .string ByteArray.empty, .int .i64 0, .slice none 0 0])) 5 := ⟨zi45⟩
theorem inf49 : (Tryz.prog.info? 49).map (fun i => (i.zero, i.size, i.bytes)) = some (some (.agg #[.int .i64 0, .string ByteArray.empty, .string ByteArray.empty, .int .i64 0, .slice none 0 0]), 5, 72) := by kernel_rfl
theorem sz49 : (Tryz.prog.info? 49).map (·.size) = some 5 := by kernel_rfl
theorem zs49 : (Tryz.prog.info? 49).bind (·.zero) = some (.agg #[.int .i64 0, .string ByteArray.empty, .string ByteArray.empty, .int .i64 0, .slice none 0 0]) := by kernel_rfl
theorem zi49 : (Tryz.prog.info? 49).map (fun i => (i.zero, i.size)) = some (some (.agg #[.int .i64 0, .string ByteArray.empty, .string ByteArray.empty, .int .i64 0, .slice none 0 0]), 5) := by kernel_rfl
instance isz49 : Sz Tryz.prog 49 5 := ⟨sz49⟩
instance iin49 : Inf Tryz.prog 49 (some (.agg #[.int .i64 0, .string ByteArray.empty, .string ByteArray.empty, .int .i64 0, .slice none 0 0])) 5 72 := ⟨inf49⟩
instance izs49 : Zs Tryz.prog 49 (.agg #[.int .i64 0, .string ByteArray.empty, .string ByteArray.empty, .int .i64 0, .slice none 0 0]) := ⟨zs49⟩
instance izi49 : Zi Tryz.prog 49 (some (.agg #[.int .i64 0, .string ByteArray.empty, .string ByteArray.empty, .int .i64 0, .slice none 0 0])) 5 := ⟨zi49⟩
theorem inf54 : (Tryz.prog.info? 54).map (fun i => (i.zero, i.size, i.bytes)) = some (some (.slice none 0 0), 1, 24) := by kernel_rfl
theorem sz54 : (Tryz.prog.info? 54).map (·.size) = some 1 := by kernel_rfl
theorem zs54 : (Tryz.prog.info? 54).bind (·.zero) = some (.slice none 0 0) := by kernel_rfl
theorem zi54 : (Tryz.prog.info? 54).map (fun i => (i.zero, i.size)) = some (some (.slice none 0 0), 1) := by kernel_rfl
instance isz54 : Sz Tryz.prog 54 1 := ⟨sz54⟩
instance iin54 : Inf Tryz.prog 54 (some (.slice none 0 0)) 1 24 := ⟨inf54⟩
instance izs54 : Zs Tryz.prog 54 (.slice none 0 0) := ⟨zs54⟩
instance izi54 : Zi Tryz.prog 54 (some (.slice none 0 0)) 1 := ⟨zi54⟩
theorem inf58 : (Tryz.prog.info? 58).map (fun i => (i.zero, i.size, i.bytes)) = some (some (.slice none 0 0), 1, 24) := by kernel_rfl
theorem sz58 : (Tryz.prog.info? 58).map (·.size) = some 1 := by kernel_rfl
theorem zs58 : (Tryz.prog.info? 58).bind (·.zero) = some (.slice none 0 0) := by kernel_rfl
theorem zi58 : (Tryz.prog.info? 58).map (fun i => (i.zero, i.size)) = some (some (.slice none 0 0), 1) := by kernel_rfl
instance isz58 : Sz Tryz.prog 58 1 := ⟨sz58⟩
instance iin58 : Inf Tryz.prog 58 (some (.slice none 0 0)) 1 24 := ⟨inf58⟩
instance izs58 : Zs Tryz.prog 58 (.slice none 0 0) := ⟨zs58⟩
instance izi58 : Zi Tryz.prog 58 (some (.slice none 0 0)) 1 := ⟨zi58⟩
theorem inf64 : (Tryz.prog.info? 64).map (fun i => (i.zero, i.size, i.bytes)) = some (some (.slice none 0 0), 1, 24) := by kernel_rfl
theorem sz64 : (Tryz.prog.info? 64).map (·.size) = some 1 := by kernel_rfl
theorem zs64 : (Tryz.prog.info? 64).bind (·.zero) = some (.slice none 0 0) := by kernel_rfl
theorem zi64 : (Tryz.prog.info? 64).map (fun i => (i.zero, i.size)) = some (some (.slice none 0 0), 1) := by kernel_rfl
instance isz64 : Sz Tryz.prog 64 1 := ⟨sz64⟩
instance iin64 : Inf Tryz.prog 64 (some (.slice none 0 0)) 1 24 := ⟨inf64⟩
instance izs64 : Zs Tryz.prog 64 (.slice none 0 0) := ⟨zs64⟩
instance izi64 : Zi Tryz.prog 64 (some (.slice none 0 0)) 1 := ⟨zi64⟩
theorem inf66 : (Tryz.prog.info? 66).map (fun i => (i.zero, i.size, i.bytes)) = some (some (.agg #[.int .i64 0, .int .i64 0, .int .i64 0, .slice none 0 0, .slice none 0 0, .slice none 0 0, .int .i64 0, .int .i64 0, .slice none 0 0, .int .i64 0]), 10, 144) := by kernel_rfl
theorem sz66 : (Tryz.prog.info? 66).map (·.size) = some 10 := by kernel_rfl
theorem zs66 : (Tryz.prog.info? 66).bind (·.zero) = some (.agg #[.int .i64 0, .int .i64 0, .int .i64 0, .slice none 0 0, .slice none 0 0, .slice none 0 0, .int .i64 0, .int .i64 0, .slice none 0 0, .int .i64 0]) := by kernel_rfl
theorem zi66 : (Tryz.prog.info? 66).map (fun i => (i.zero, i.size)) = some (some (.agg #[.int .i64 0, .int .i64 0, .int .i64 0, .slice none 0 0, .slice none 0 0, .slice none 0 0, .int .i64 0, .int .i64 0, .slice none 0 0, .int .i64 0]), 10) := by kernel_rfl
instance isz66 : Sz Tryz.prog 66 10 := ⟨sz66⟩
instance iin66 : Inf Tryz.prog 66 (some (.agg #[.int .i64 0, .int .i64 0, .int .i64 0, .slice none 0 0, .slice none 0 0, .slice none 0 0, .int .i64 0, .int .i64 0, .slice none 0 0, .int .i64 0])) 10 144 := ⟨inf66⟩
instance izs66 : Zs Tryz.prog 66 (.agg #[.int .i64 0, .int .i64 0, .int .i64 0, .slice none 0 0, .slice none 0 0, .slice none 0 0, .int .i64 0, .int .i64 0, .slice none 0 0, .int .i64 0]) := ⟨zs66⟩
instance izi66 : Zi Tryz.prog 66 (some (.agg #[.int .i64 0, .int .i64 0, .int .i64 0, .slice none 0 0, .slice none 0 0, .slice none 0 0, .int .i64 0, .int .i64 0, .slice none 0 0, .int .i64 0])) 10 := ⟨zi66⟩
theorem inf82 : (Tryz.prog.info? 82).map (fun i => (i.zero, i.size, i.bytes)) = some (some (.agg #[.int .i64 0, .string ByteArray.empty]), 2, 24) := by kernel_rfl
theorem sz82 : (Tryz.prog.info? 82).map (·.size) = some 2 := by kernel_rfl
theorem zs82 : (Tryz.prog.info? 82).bind (·.zero) = some (.agg #[.int .i64 0, .string ByteArray.empty]) := by kernel_rfl
theorem zi82 : (Tryz.prog.info? 82).map (fun i => (i.zero, i.size)) = some (some (.agg #[.int .i64 0, .string ByteArray.empty]), 2) := by kernel_rfl
instance isz82 : Sz Tryz.prog 82 2 := ⟨sz82⟩
instance iin82 : Inf Tryz.prog 82 (some (.agg #[.int .i64 0, .string ByteArray.empty])) 2 24 := ⟨inf82⟩
instance izs82 : Zs Tryz.prog 82 (.agg #[.int .i64 0, .string ByteArray.empty]) := ⟨zs82⟩
instance izi82 : Zi Tryz.prog 82 (some (.agg #[.int .i64 0, .string ByteArray.empty])) 2 := ⟨zi82⟩
theorem inf98 : (Tryz.prog.info? 98).map (fun i => (i.zero, i.size, i.bytes)) = some (some (.agg #[.int .i64 0, .slice none 0 0, .slice none 0 0]), 3, 56) := by kernel_rfl
theorem sz98 : (Tryz.prog.info? 98).map (·.size) = some 3 := by kernel_rfl
theorem zs98 : (Tryz.prog.info? 98).bind (·.zero) = some (.agg #[.int .i64 0, .slice none 0 0, .slice none 0 0]) := by kernel_rfl
theorem zi98 : (Tryz.prog.info? 98).map (fun i => (i.zero, i.size)) = some (some (.agg #[.int .i64 0, .slice none 0 0, .slice none 0 0]), 3) := by kernel_rfl
instance isz98 : Sz Tryz.prog 98 3 := ⟨sz98⟩
instance iin98 : Inf Tryz.prog 98 (some (.agg #[.int .i64 0, .slice none 0 0, .slice none 0 0])) 3 56 := ⟨inf98⟩
instance izs98 : Zs Tryz.prog 98 (.agg #[.int .i64 0, .slice none 0 0, .slice none 0 0]) := ⟨zs98⟩
instance izi98 : Zi Tryz.prog 98 (some (.agg #[.int .i64 0, .slice none 0 0, .slice none 0 0])) 3 := ⟨zi98⟩
theorem inf103 : (Tryz.prog.info? 103).map (fun i => (i.zero, i.size, i.bytes)) = some (some (.map none), 1, 8) := by kernel_rfl
theorem sz103 : (Tryz.prog.info? 103).map (·.size) = some 1 := by kernel_rfl
theorem zs103 : (Tryz.prog.info? 103).bind (·.zero) = some (.map none) := by kernel_rfl
theorem zi103 : (Tryz.prog.info? 103).map (fun i => (i.zero, i.size)) = some (some (.map none), 1) := by kernel_rfl
instance isz103 : Sz Tryz.prog 103 1 := ⟨sz103⟩
instance iin103 : Inf Tryz.prog 103 (some (.map none)) 1 8 := ⟨inf103⟩
instance izs103 : Zs Tryz.prog 103 (.map none) := ⟨zs103⟩
instance izi103 : Zi Tryz.prog 103 (some (.map none)) 1 := ⟨zi103⟩
theorem inf104 : (Tryz.prog.info? 104).map (fun i => (i.zero, i.size, i.bytes)) = some (some (.map none), 1, 8) := by kernel_rfl
theorem sz104 : (Tryz.prog.info? 104).map (·.size) = some 1 := by kernel_rfl
theorem zs104 : (Tryz.prog.info? 104).bind (·.zero) = some (.map none) := by kernel_rfl
theorem zi104 : (Tryz.prog.info? 104).map (fun i => (i.zero, i.size)) = some (some (.map none), 1) := by kernel_rfl
instance isz104 : Sz Tryz.prog 104 1 := ⟨sz104⟩
instance iin104 : Inf Tryz.prog 104 (some (.map none)) 1 8 := ⟨inf104⟩
instance izs104 : Zs Tryz.prog 104 (.map none) := ⟨zs104⟩
instance izi104 : Zi Tryz.prog 104 (some (.map none)) 1 := ⟨zi104⟩
theorem inf109 : (Tryz.prog.info? 109).map (fun i => (i.zero, i.size, i.bytes)) = some (some (.pointer none), 1, 8) := by kernel_rfl
theorem sz109 : (Tryz.prog.info? 109).map (·.size) = some 1 := by kernel_rfl
theorem zs109 : (Tryz.prog.info? 109).bind (·.zero) = some (.pointer none) := by kernel_rfl
theorem zi109 : (Tryz.prog.info? 109).map (fun i => (i.zero, i.size)) = some (some (.pointer none), 1) := by kernel_rfl
instance isz109 : Sz Tryz.prog 109 1 := ⟨sz109⟩
instance iin109 : Inf Tryz.prog 109 (some (.pointer none)) 1 8 := ⟨inf109⟩
instance izs109 : Zs Tryz.prog 109 (.pointer none) := ⟨zs109⟩
instance izi109 : Zi Tryz.prog 109 (some (.pointer none)) 1 := ⟨zi109⟩
theorem inf121 : (Tryz.prog.info? 121).map (fun i => (i.zero, i.size, i.bytes)) = some (some (.agg #[.int .i64 0, .string ByteArray.empty, .string ByteArray.empty, .int .i64 0]), 4, 48) := by kernel_rfl
theorem sz121 : (Tryz.prog.info? 121).map (·.size) = some 4 := by kernel_rfl
theorem zs121 : (Tryz.prog.info? 121).bind (·.zero) = some (.agg #[.int .i64 0, .string ByteArray.empty, .string ByteArray.empty, .int .i64 0]) := by kernel_rfl
theorem zi121 : (Tryz.prog.info? 121).map (fun i => (i.zero, i.size)) = some (some (.agg #[.int .i64 0, .string ByteArray.empty, .string ByteArray.empty, .int .i64 0]), 4) := by kernel_rfl
instance isz121 : Sz Tryz.prog 121 4 := ⟨sz121⟩
instance iin121 : Inf Tryz.prog 121 (some (.agg #[.int .i64 0, .string ByteArray.empty, .string ByteArray.empty, .int .i64 0])) 4 48 := ⟨inf121⟩
instance izs121 : Zs Tryz.prog 121 (.agg #[.int .i64 0, .string ByteArray.empty, .string ByteArray.empty, .int .i64 0]) := ⟨zs121⟩
instance izi121 : Zi Tryz.prog 121 (some (.agg #[.int .i64 0, .string ByteArray.empty, .string ByteArray.empty, .int .i64 0])) 4 := ⟨zi121⟩
theorem inf128 : (Tryz.prog.info? 128).map (fun i => (i.zero, i.size, i.bytes)) = some (some (.pointer none), 1, 8) := by kernel_rfl
theorem sz128 : (Tryz.prog.info? 128).map (·.size) = some 1 := by kernel_rfl
theorem zs128 : (Tryz.prog.info? 128).bind (·.zero) = some (.pointer none) := by kernel_rfl
theorem zi128 : (Tryz.prog.info? 128).map (fun i => (i.zero, i.size)) = some (some (.pointer none), 1) := by kernel_rfl
instance isz128 : Sz Tryz.prog 128 1 := ⟨sz128⟩
instance iin128 : Inf Tryz.prog 128 (some (.pointer none)) 1 8 := ⟨inf128⟩
instance izs128 : Zs Tryz.prog 128 (.pointer none) := ⟨zs128⟩
instance izi128 : Zi Tryz.prog 128 (some (.pointer none)) 1 := ⟨zi128⟩
theorem inf133 : (Tryz.prog.info? 133).map (fun i => (i.zero, i.size, i.bytes)) = some (some (.agg #[.int .i64 0, .int .i64 0, .int .i64 0, .slice none 0 0, .slice none 0 0, .slice none 0 0, .int .i64 0]), 7, 104) := by kernel_rfl
theorem sz133 : (Tryz.prog.info? 133).map (·.size) = some 7 := by kernel_rfl
theorem zs133 : (Tryz.prog.info? 133).bind (·.zero) = some (.agg #[.int .i64 0, .int .i64 0, .int .i64 0, .slice none 0 0, .slice none 0 0, .slice none 0 0, .int .i64 0]) := by kernel_rfl
theorem zi133 : (Tryz.prog.info? 133).map (fun i => (i.zero, i.size)) = some (some (.agg #[.int .i64 0, .int .i64 0, .int .i64 0, .slice none 0 0, .slice none 0 0, .slice none 0 0, .int .i64 0]), 7) := by kernel_rfl
instance isz133 : Sz Tryz.prog 133 7 := ⟨sz133⟩
instance iin133 : Inf Tryz.prog 133 (some (.agg #[.int .i64 0, .int .i64 0, .int .i64 0, .slice none 0 0, .slice none 0 0, .slice none 0 0, .int .i64 0])) 7 104 := ⟨inf133⟩
instance izs133 : Zs Tryz.prog 133 (.agg #[.int .i64 0, .int .i64 0, .int .i64 0, .slice none 0 0, .slice none 0 0, .slice none 0 0, .int .i64 0]) := ⟨zs133⟩
instance izi133 : Zi Tryz.prog 133 (some (.agg #[.int .i64 0, .int .i64 0, .int .i64 0, .slice none 0 0, .slice none 0 0, .slice none 0 0, .int .i64 0])) 7 := ⟨zi133⟩
theorem inf138 : (Tryz.prog.info? 138).map (fun i => (i.zero, i.size, i.bytes)) = some (some (.pointer none), 1, 8) := by kernel_rfl
theorem sz138 : (Tryz.prog.info? 138).map (·.size) = some 1 := by kernel_rfl
theorem zs138 : (Tryz.prog.info? 138).bind (·.zero) = some (.pointer none) := by kernel_rfl
theorem zi138 : (Tryz.prog.info? 138).map (fun i => (i.zero, i.size)) = some (some (.pointer none), 1) := by kernel_rfl
instance isz138 : Sz Tryz.prog 138 1 := ⟨sz138⟩
instance iin138 : Inf Tryz.prog 138 (some (.pointer none)) 1 8 := ⟨inf138⟩
instance izs138 : Zs Tryz.prog 138 (.pointer none) := ⟨zs138⟩
instance izi138 : Zi Tryz.prog 138 (some (.pointer none)) 1 := ⟨zi138⟩
theorem inf148 : (Tryz.prog.info? 148).map (fun i => (i.zero, i.size, i.bytes)) = some (some (.agg #[.slice none 0 0, .int .i64 0, .int .i64 0]), 3, 40) := by kernel_rfl
theorem sz148 : (Tryz.prog.info? 148).map (·.size) = some 3 := by kernel_rfl
theorem zs148 : (Tryz.prog.info? 148).bind (·.zero) = some (.agg #[.slice none 0 0, .int .i64 0, .int .i64 0]) := by kernel_rfl
theorem zi148 : (Tryz.prog.info? 148).map (fun i => (i.zero, i.size)) = some (some (.agg #[.slice none 0 0, .int .i64 0, .int .i64 0]), 3) := by kernel_rfl
instance isz148 : Sz Tryz.prog 148 3 := ⟨sz148⟩
instance iin148 : Inf Tryz.prog 148 (some (.agg #[.slice none 0 0, .int .i64 0, .int .i64 0])) 3 40 := ⟨inf148⟩
instance izs148 : Zs Tryz.prog 148 (.agg #[.slice none 0 0, .int .i64 0, .int .i64 0]) := ⟨zs148⟩
instance izi148 : Zi Tryz.prog 148 (some (.agg #[.slice none 0 0, .int .i64 0, .int .i64 0])) 3 := ⟨zi148⟩
theorem inf156 : (Tryz.prog.info? 156).map (fun i => (i.zero, i.size, i.bytes)) = some (some (.agg #[.int .i64 0, .slice none 0 0, .slice none 0 0]), 3, 56) := by kernel_rfl
theorem sz156 : (Tryz.prog.info? 156).map (·.size) = some 3 := by kernel_rfl
theorem zs156 : (Tryz.prog.info? 156).bind (·.zero) = some (.agg #[.int .i64 0, .slice none 0 0, .slice none 0 0]) := by kernel_rfl
theorem zi156 : (Tryz.prog.info? 156).map (fun i => (i.zero, i.size)) = some (some (.agg #[.int .i64 0, .slice none 0 0, .slice none 0 0]), 3) := by kernel_rfl
instance isz156 : Sz Tryz.prog 156 3 := ⟨sz156⟩
instance iin156 : Inf Tryz.prog 156 (some (.agg #[.int .i64 0, .slice none 0 0, .slice none 0 0])) 3 56 := ⟨inf156⟩
instance izs156 : Zs Tryz.prog 156 (.agg #[.int .i64 0, .slice none 0 0, .slice none 0 0]) := ⟨zs156⟩
instance izi156 : Zi Tryz.prog 156 (some (.agg #[.int .i64 0, .slice none 0 0, .slice none 0 0])) 3 := ⟨zi156⟩
theorem inf159 : (Tryz.prog.info? 159).map (fun i => (i.zero, i.size, i.bytes)) = some (some (.agg #[.string ByteArray.empty, .int .i64 0]), 2, 24) := by kernel_rfl
theorem sz159 : (Tryz.prog.info? 159).map (·.size) = some 2 := by kernel_rfl
theorem zs159 : (Tryz.prog.info? 159).bind (·.zero) = some (.agg #[.string ByteArray.empty, .int .i64 0]) := by kernel_rfl
theorem zi159 : (Tryz.prog.info? 159).map (fun i => (i.zero, i.size)) = some (some (.agg #[.string ByteArray.empty, .int .i64 0]), 2) := by kernel_rfl
instance isz159 : Sz Tryz.prog 159 2 := ⟨sz159⟩
instance iin159 : Inf Tryz.prog 159 (some (.agg #[.string ByteArray.empty, .int .i64 0])) 2 24 := ⟨inf159⟩
instance izs159 : Zs Tryz.prog 159 (.agg #[.string ByteArray.empty, .int .i64 0]) := ⟨zs159⟩
instance izi159 : Zi Tryz.prog 159 (some (.agg #[.string ByteArray.empty, .int .i64 0])) 2 := ⟨zi159⟩
theorem inf161 : (Tryz.prog.info? 161).map (fun i => (i.zero, i.size, i.bytes)) = some (some (.agg #[.int .i64 0, .string ByteArray.empty, .string ByteArray.empty, .int .i64 0]), 4, 48) := by kernel_rfl
theorem sz161 : (Tryz.prog.info? 161).map (·.size) = some 4 := by kernel_rfl
theorem zs161 : (Tryz.prog.info? 161).bind (·.zero) = some (.agg #[.int .i64 0, .string ByteArray.empty, .string ByteArray.empty, .int .i64 0]) := by kernel_rfl
theorem zi161 : (Tryz.prog.info? 161).map (fun i => (i.zero, i.size)) = some (some (.agg #[.int .i64 0, .string ByteArray.empty, .string ByteArray.empty, .int .i64 0]), 4) := by kernel_rfl
instance isz161 : Sz Tryz.prog 161 4 := ⟨sz161⟩
instance iin161 : Inf Tryz.prog 161 (some (.agg #[.int .i64 0, .string ByteArray.empty, .string ByteArray.empty, .int .i64 0])) 4 48 := ⟨inf161⟩
instance izs161 : Zs Tryz.prog 161 (.agg #[.int .i64 0, .string ByteArray.empty, .string ByteArray.empty, .int .i64 0]) := ⟨zs161⟩
instance izi161 : Zi Tryz.prog 161 (some (.agg #[.int .i64 0, .string ByteArray.empty, .string ByteArray.empty, .int .i64 0])) 4 := ⟨zi161⟩
theorem inf162 : (Tryz.prog.info? 162).map (fun i => (i.zero, i.size, i.bytes)) = some (some (.agg #[.string ByteArray.empty, .int .i64 0]), 2, 24) := by kernel_rfl
theorem sz162 : (Tryz.prog.info? 162).map (·.size) = some 2 := by kernel_rfl
theorem zs162 : (Tryz.prog.info? 162).bind (·.zero) = some (.agg #[.string ByteArray.empty, .int .i64 0]) := by kernel_rfl
theorem zi162 : (Tryz.prog.info? 162).map (fun i => (i.zero, i.size)) = some (some (.agg #[.string ByteArray.empty, .int .i64 0]), 2) := by kernel_rfl
instance isz162 : Sz Tryz.prog 162 2 := ⟨sz162⟩
instance iin162 : Inf Tryz.prog 162 (some (.agg #[.string ByteArray.empty, .int .i64 0])) 2 24 := ⟨inf162⟩
instance izs162 : Zs Tryz.prog 162 (.agg #[.string ByteArray.empty, .int .i64 0]) := ⟨zs162⟩
instance izi162 : Zi Tryz.prog 162 (some (.agg #[.string ByteArray.empty, .int .i64 0])) 2 := ⟨zi162⟩
theorem inf171 : (Tryz.prog.info? 171).map (fun i => (i.zero, i.size, i.bytes)) = some (some (.pointer none), 1, 8) := by kernel_rfl
theorem sz171 : (Tryz.prog.info? 171).map (·.size) = some 1 := by kernel_rfl
theorem zs171 : (Tryz.prog.info? 171).bind (·.zero) = some (.pointer none) := by kernel_rfl
theorem zi171 : (Tryz.prog.info? 171).map (fun i => (i.zero, i.size)) = some (some (.pointer none), 1) := by kernel_rfl
instance isz171 : Sz Tryz.prog 171 1 := ⟨sz171⟩
instance iin171 : Inf Tryz.prog 171 (some (.pointer none)) 1 8 := ⟨inf171⟩
instance izs171 : Zs Tryz.prog 171 (.pointer none) := ⟨zs171⟩
instance izi171 : Zi Tryz.prog 171 (some (.pointer none)) 1 := ⟨zi171⟩
theorem inf172 : (Tryz.prog.info? 172).map (fun i => (i.zero, i.size, i.bytes)) = some (some (.map none), 1, 8) := by kernel_rfl
theorem sz172 : (Tryz.prog.info? 172).map (·.size) = some 1 := by kernel_rfl
theorem zs172 : (Tryz.prog.info? 172).bind (·.zero) = some (.map none) := by kernel_rfl
theorem zi172 : (Tryz.prog.info? 172).map (fun i => (i.zero, i.size)) = some (some (.map none), 1) := by kernel_rfl
instance isz172 : Sz Tryz.prog 172 1 := ⟨sz172⟩
instance iin172 : Inf Tryz.prog 172 (some (.map none)) 1 8 := ⟨inf172⟩
instance izs172 : Zs Tryz.prog 172 (.map none) := ⟨zs172⟩
instance izi172 : Zi Tryz.prog 172 (some (.map none)) 1 := ⟨zi172⟩
theorem inf178 : (Tryz.prog.info? 178).map (fun i => (i.zero, i.size, i.bytes)) = some (some (.pointer none), 1, 8) := by kernel_rfl
theorem sz178 : (Tryz.prog.info? 178).map (·.size) = some 1 := by kernel_rfl
theorem zs178 : (Tryz.prog.info? 178).bind (·.zero) = some (.pointer none) := by kernel_rfl
theorem zi178 : (Tryz.prog.info? 178).map (fun i => (i.zero, i.size)) = some (some (.pointer none), 1) := by kernel_rfl
instance isz178 : Sz Tryz.prog 178 1 := ⟨sz178⟩
instance iin178 : Inf Tryz.prog 178 (some (.pointer none)) 1 8 := ⟨inf178⟩
instance izs178 : Zs Tryz.prog 178 (.pointer none) := ⟨zs178⟩
instance izi178 : Zi Tryz.prog 178 (some (.pointer none)) 1 := ⟨zi178⟩
theorem inf185 : (Tryz.prog.info? 185).map (fun i => (i.zero, i.size, i.bytes)) = some (some (.slice none 0 0), 1, 24) := by kernel_rfl
theorem sz185 : (Tryz.prog.info? 185).map (·.size) = some 1 := by kernel_rfl
theorem zs185 : (Tryz.prog.info? 185).bind (·.zero) = some (.slice none 0 0) := by kernel_rfl
theorem zi185 : (Tryz.prog.info? 185).map (fun i => (i.zero, i.size)) = some (some (.slice none 0 0), 1) := by kernel_rfl
instance isz185 : Sz Tryz.prog 185 1 := ⟨sz185⟩
instance iin185 : Inf Tryz.prog 185 (some (.slice none 0 0)) 1 24 := ⟨inf185⟩
instance izs185 : Zs Tryz.prog 185 (.slice none 0 0) := ⟨zs185⟩
instance izi185 : Zi Tryz.prog 185 (some (.slice none 0 0)) 1 := ⟨zi185⟩
theorem inf202 : (Tryz.prog.info? 202).map (fun i => (i.zero, i.size, i.bytes)) = some (some (.int .u64 0), 1, 8) := by kernel_rfl
theorem sz202 : (Tryz.prog.info? 202).map (·.size) = some 1 := by kernel_rfl
theorem zs202 : (Tryz.prog.info? 202).bind (·.zero) = some (.int .u64 0) := by kernel_rfl
theorem zi202 : (Tryz.prog.info? 202).map (fun i => (i.zero, i.size)) = some (some (.int .u64 0), 1) := by kernel_rfl
instance isz202 : Sz Tryz.prog 202 1 := ⟨sz202⟩
instance iin202 : Inf Tryz.prog 202 (some (.int .u64 0)) 1 8 := ⟨inf202⟩
instance izs202 : Zs Tryz.prog 202 (.int .u64 0) := ⟨zs202⟩
instance izi202 : Zi Tryz.prog 202 (some (.int .u64 0)) 1 := ⟨zi202⟩
theorem inf210 : (Tryz.prog.info? 210).map (fun i => (i.zero, i.size, i.bytes)) = some (some (.int .u32 0), 1, 4) := by kernel_rfl
theorem sz210 : (Tryz.prog.info? 210).map (·.size) = some 1 := by kernel_rfl
theorem zs210 : (Tryz.prog.info? 210).bind (·.zero) = some (.int .u32 0) := by kernel_rfl
theorem zi210 : (Tryz.prog.info? 210).map (fun i => (i.zero, i.size)) = some (some (.int .u32 0), 1) := by kernel_rfl
instance isz210 : Sz Tryz.prog 210 1 := ⟨sz210⟩
instance iin210 : Inf Tryz.prog 210 (some (.int .u32 0)) 1 4 := ⟨inf210⟩
instance izs210 : Zs Tryz.prog 210 (.int .u32 0) := ⟨zs210⟩
instance izi210 : Zi Tryz.prog 210 (some (.int .u32 0)) 1 := ⟨zi210⟩
theorem inf213 : (Tryz.prog.info? 213).map (fun i => (i.zero, i.size, i.bytes)) = some (some (.pointer none), 1, 8) := by kernel_rfl
theorem sz213 : (Tryz.prog.info? 213).map (·.size) = some 1 := by kernel_rfl
theorem zs213 : (Tryz.prog.info? 213).bind (·.zero) = some (.pointer none) := by kernel_rfl
theorem zi213 : (Tryz.prog.info? 213).map (fun i => (i.zero, i.size)) = some (some (.pointer none), 1) := by kernel_rfl
instance isz213 : Sz Tryz.prog 213 1 := ⟨sz213⟩
instance iin213 : Inf Tryz.prog 213 (some (.pointer none)) 1 8 := ⟨inf213⟩
instance izs213 : Zs Tryz.prog 213 (.pointer none) := ⟨zs213⟩
instance izi213 : Zi Tryz.prog 213 (some (.pointer none)) 1 := ⟨zi213⟩
theorem inf216 : (Tryz.prog.info? 216).map (fun i => (i.zero, i.size, i.bytes)) = some (some (.int .u64 0), 1, 8) := by kernel_rfl
theorem sz216 : (Tryz.prog.info? 216).map (·.size) = some 1 := by kernel_rfl
theorem zs216 : (Tryz.prog.info? 216).bind (·.zero) = some (.int .u64 0) := by kernel_rfl
theorem zi216 : (Tryz.prog.info? 216).map (fun i => (i.zero, i.size)) = some (some (.int .u64 0), 1) := by kernel_rfl
instance isz216 : Sz Tryz.prog 216 1 := ⟨sz216⟩
instance iin216 : Inf Tryz.prog 216 (some (.int .u64 0)) 1 8 := ⟨inf216⟩
instance izs216 : Zs Tryz.prog 216 (.int .u64 0) := ⟨zs216⟩
instance izi216 : Zi Tryz.prog 216 (some (.int .u64 0)) 1 := ⟨zi216⟩
theorem inf229 : (Tryz.prog.info? 229).map (fun i => (i.zero, i.size, i.bytes)) = some (some (.pointer none), 1, 8) := by kernel_rfl
theorem sz229 : (Tryz.prog.info? 229).map (·.size) = some 1 := by kernel_rfl
theorem zs229 : (Tryz.prog.info? 229).bind (·.zero) = some (.pointer none) := by kernel_rfl
theorem zi229 : (Tryz.prog.info? 229).map (fun i => (i.zero, i.size)) = some (some (.pointer none), 1) := by kernel_rfl
instance isz229 : Sz Tryz.prog 229 1 := ⟨sz229⟩
instance iin229 : Inf Tryz.prog 229 (some (.pointer none)) 1 8 := ⟨inf229⟩
instance izs229 : Zs Tryz.prog 229 (.pointer none) := ⟨zs229⟩
instance izi229 : Zi Tryz.prog 229 (some (.pointer none)) 1 := ⟨zi229⟩
theorem inf231 : (Tryz.prog.info? 231).map (fun i => (i.zero, i.size, i.bytes)) = some (some (.pointer none), 1, 8) := by kernel_rfl
theorem sz231 : (Tryz.prog.info? 231).map (·.size) = some 1 := by kernel_rfl
theorem zs231 : (Tryz.prog.info? 231).bind (·.zero) = some (.pointer none) := by kernel_rfl
theorem zi231 : (Tryz.prog.info? 231).map (fun i => (i.zero, i.size)) = some (some (.pointer none), 1) := by kernel_rfl
instance isz231 : Sz Tryz.prog 231 1 := ⟨sz231⟩
instance iin231 : Inf Tryz.prog 231 (some (.pointer none)) 1 8 := ⟨inf231⟩
instance izs231 : Zs Tryz.prog 231 (.pointer none) := ⟨zs231⟩
instance izi231 : Zi Tryz.prog 231 (some (.pointer none)) 1 := ⟨zi231⟩
theorem inf243 : (Tryz.prog.info? 243).map (fun i => (i.zero, i.size, i.bytes)) = some (some (.pointer none), 1, 8) := by kernel_rfl
theorem sz243 : (Tryz.prog.info? 243).map (·.size) = some 1 := by kernel_rfl
theorem zs243 : (Tryz.prog.info? 243).bind (·.zero) = some (.pointer none) := by kernel_rfl
theorem zi243 : (Tryz.prog.info? 243).map (fun i => (i.zero, i.size)) = some (some (.pointer none), 1) := by kernel_rfl
instance isz243 : Sz Tryz.prog 243 1 := ⟨sz243⟩
instance iin243 : Inf Tryz.prog 243 (some (.pointer none)) 1 8 := ⟨inf243⟩
instance izs243 : Zs Tryz.prog 243 (.pointer none) := ⟨zs243⟩
instance izi243 : Zi Tryz.prog 243 (some (.pointer none)) 1 := ⟨zi243⟩
instance ius3 : Us Tryz.prog 3 (descOf Tryz.underlying3) := ⟨Tryz.underlying3⟩
instance ius4 : Us Tryz.prog 4 (descOf Tryz.underlying4) := ⟨Tryz.underlying4⟩
instance ius5 : Us Tryz.prog 5 (descOf Tryz.underlying5) := ⟨Tryz.underlying5⟩
instance ius9 : Us Tryz.prog 9 (descOf Tryz.underlying9) := ⟨Tryz.underlying9⟩
instance ius22 : Us Tryz.prog 22 (descOf Tryz.underlying22) := ⟨Tryz.underlying22⟩
instance ius23 : Us Tryz.prog 23 (descOf Tryz.underlying23) := ⟨Tryz.underlying23⟩
instance ius24 : Us Tryz.prog 24 (descOf Tryz.underlying24) := ⟨Tryz.underlying24⟩
instance ius26 : Us Tryz.prog 26 (descOf Tryz.underlying26) := ⟨Tryz.underlying26⟩
instance ius27 : Us Tryz.prog 27 (descOf Tryz.underlying27) := ⟨Tryz.underlying27⟩
instance ius29 : Us Tryz.prog 29 (descOf Tryz.underlying29) := ⟨Tryz.underlying29⟩
instance ius30 : Us Tryz.prog 30 (descOf Tryz.underlying30) := ⟨Tryz.underlying30⟩
instance ius31 : Us Tryz.prog 31 (descOf Tryz.underlying31) := ⟨Tryz.underlying31⟩
instance ius33 : Us Tryz.prog 33 (descOf Tryz.underlying33) := ⟨Tryz.underlying33⟩
instance ius43 : Us Tryz.prog 43 (descOf Tryz.underlying43) := ⟨Tryz.underlying43⟩
instance ius45 : Us Tryz.prog 45 (descOf Tryz.underlying45) := ⟨Tryz.underlying45⟩
instance ius49 : Us Tryz.prog 49 (descOf Tryz.underlying49) := ⟨Tryz.underlying49⟩
instance ius54 : Us Tryz.prog 54 (descOf Tryz.underlying54) := ⟨Tryz.underlying54⟩
instance ius58 : Us Tryz.prog 58 (descOf Tryz.underlying58) := ⟨Tryz.underlying58⟩
instance ius64 : Us Tryz.prog 64 (descOf Tryz.underlying64) := ⟨Tryz.underlying64⟩
instance ius66 : Us Tryz.prog 66 (descOf Tryz.underlying66) := ⟨Tryz.underlying66⟩
instance ius82 : Us Tryz.prog 82 (descOf Tryz.underlying82) := ⟨Tryz.underlying82⟩
instance ius98 : Us Tryz.prog 98 (descOf Tryz.underlying98) := ⟨Tryz.underlying98⟩
instance ius121 : Us Tryz.prog 121 (descOf Tryz.underlying121) := ⟨Tryz.underlying121⟩
instance ius133 : Us Tryz.prog 133 (descOf Tryz.underlying133) := ⟨Tryz.underlying133⟩
instance ius148 : Us Tryz.prog 148 (descOf Tryz.underlying148) := ⟨Tryz.underlying148⟩
instance ius156 : Us Tryz.prog 156 (descOf Tryz.underlying156) := ⟨Tryz.underlying156⟩
instance ius159 : Us Tryz.prog 159 (descOf Tryz.underlying159) := ⟨Tryz.underlying159⟩
instance ius161 : Us Tryz.prog 161 (descOf Tryz.underlying161) := ⟨Tryz.underlying161⟩
instance ius162 : Us Tryz.prog 162 (descOf Tryz.underlying162) := ⟨Tryz.underlying162⟩
instance ius185 : Us Tryz.prog 185 (descOf Tryz.underlying185) := ⟨Tryz.underlying185⟩
instance ius202 : Us Tryz.prog 202 (descOf Tryz.underlying202) := ⟨Tryz.underlying202⟩
instance ius210 : Us Tryz.prog 210 (descOf Tryz.underlying210) := ⟨Tryz.underlying210⟩
theorem fl3 : flat Tryz.prog 3 = true := by unfold flat; rw [Tryz.underlying3]
theorem fl4 : flat Tryz.prog 4 = true := by unfold flat; rw [Tryz.underlying4]
theorem fl5 : flat Tryz.prog 5 = true := by unfold flat; rw [Tryz.underlying5]
theorem fl9 : flat Tryz.prog 9 = true := by unfold flat; rw [Tryz.underlying9]
theorem fl22 : flat Tryz.prog 22 = true := by unfold flat; rw [Tryz.underlying22]
theorem fl23 : flat Tryz.prog 23 = true := by unfold flat; rw [Tryz.underlying23]
theorem fl24 : flat Tryz.prog 24 = true := by unfold flat; rw [Tryz.underlying24]
theorem fl27 : flat Tryz.prog 27 = true := by unfold flat; rw [Tryz.underlying27]
theorem fl29 : flat Tryz.prog 29 = true := by unfold flat; rw [Tryz.underlying29]
theorem fl30 : flat Tryz.prog 30 = true := by unfold flat; rw [Tryz.underlying30]
theorem fl31 : flat Tryz.prog 31 = true := by unfold flat; rw [Tryz.underlying31]
theorem fl43 : flat Tryz.prog 43 = true := by unfold flat; rw [Tryz.underlying43]
theorem fl54 : flat Tryz.prog 54 = true := by unfold flat; rw [Tryz.underlying54]
theorem fl58 : flat Tryz.prog 58 = true := by unfold flat; rw [Tryz.underlying58]
theorem fl64 : flat Tryz.prog 64 = true := by unfold flat; rw [Tryz.underlying64]
theorem fl103 : flat Tryz.prog 103 = true := by unfold flat; rw [Tryz.underlying103]
theorem fl104 : flat Tryz.prog 104 = true := by unfold flat; rw [Tryz.underlying104]
theorem fl109 : flat Tryz.prog 109 = true := by unfold flat; rw [Tryz.underlying109]
theorem fl128 : flat Tryz.prog 128 = true := by unfold flat; rw [Tryz.underlying128]
theorem fl138 : flat Tryz.prog 138 = true := by unfold flat; rw [Tryz.underlying138]
theorem fl171 : flat Tryz.prog 171 = true := by unfold flat; rw [Tryz.underlying171]
theorem fl172 : flat Tryz.prog 172 = true := by unfold flat; rw [Tryz.underlying172]
theorem fl178 : flat Tryz.prog 178 = true := by unfold flat; rw [Tryz.underlying178]
theorem fl185 : flat Tryz.prog 185 = true := by unfold flat; rw [Tryz.underlying185]
theorem fl202 : flat Tryz.prog 202 = true := by unfold flat; rw [Tryz.underlying202]
theorem fl210 : flat Tryz.prog 210 = true := by unfold flat; rw [Tryz.underlying210]
instance ifl3 : Fl Tryz.prog 3 := ⟨fl3⟩
instance ifl4 : Fl Tryz.prog 4 := ⟨fl4⟩
instance ifl5 : Fl Tryz.prog 5 := ⟨fl5⟩
instance ifl9 : Fl Tryz.prog 9 := ⟨fl9⟩
instance ifl22 : Fl Tryz.prog 22 := ⟨fl22⟩
instance ifl23 : Fl Tryz.prog 23 := ⟨fl23⟩
instance ifl24 : Fl Tryz.prog 24 := ⟨fl24⟩
instance ifl27 : Fl Tryz.prog 27 := ⟨fl27⟩
instance ifl29 : Fl Tryz.prog 29 := ⟨fl29⟩
instance ifl30 : Fl Tryz.prog 30 := ⟨fl30⟩
instance ifl31 : Fl Tryz.prog 31 := ⟨fl31⟩
instance ifl43 : Fl Tryz.prog 43 := ⟨fl43⟩
instance ifl54 : Fl Tryz.prog 54 := ⟨fl54⟩
instance ifl58 : Fl Tryz.prog 58 := ⟨fl58⟩
instance ifl64 : Fl Tryz.prog 64 := ⟨fl64⟩
instance ifl103 : Fl Tryz.prog 103 := ⟨fl103⟩
instance ifl104 : Fl Tryz.prog 104 := ⟨fl104⟩
instance ifl109 : Fl Tryz.prog 109 := ⟨fl109⟩
instance ifl128 : Fl Tryz.prog 128 := ⟨fl128⟩
instance ifl138 : Fl Tryz.prog 138 := ⟨fl138⟩
instance ifl171 : Fl Tryz.prog 171 := ⟨fl171⟩
instance ifl172 : Fl Tryz.prog 172 := ⟨fl172⟩
instance ifl178 : Fl Tryz.prog 178 := ⟨fl178⟩
instance ifl185 : Fl Tryz.prog 185 := ⟨fl185⟩
instance ifl202 : Fl Tryz.prog 202 := ⟨fl202⟩
instance ifl210 : Fl Tryz.prog 210 := ⟨fl210⟩
theorem mixed : Tryz.prog.follows .mixedOrders = true := by kernel_rfl
theorem en11 : Enters Tryz.prog 11 := enters_of Tryz.func11 (by kernel_rfl) rfl
theorem en13 : Enters Tryz.prog 13 := enters_of Tryz.func13 (by kernel_rfl) rfl
theorem en16 : Enters Tryz.prog 16 := enters_of Tryz.func16 (by kernel_rfl) rfl
theorem en18 : Enters Tryz.prog 18 := enters_of Tryz.func18 (by kernel_rfl) rfl
theorem en20 : Enters Tryz.prog 20 := enters_of Tryz.func20 (by kernel_rfl) rfl
theorem en22 : Enters Tryz.prog 22 := enters_of Tryz.func22 (by kernel_rfl) rfl
theorem en24 : Enters Tryz.prog 24 := enters_of Tryz.func24 (by kernel_rfl) rfl
theorem en33 : Enters Tryz.prog 33 := enters_of Tryz.func33 (by kernel_rfl) rfl
theorem en34 : Enters Tryz.prog 34 := enters_of Tryz.func34 (by kernel_rfl) rfl
theorem en35 : Enters Tryz.prog 35 := enters_of Tryz.func35 (by kernel_rfl) rfl
theorem en36 : Enters Tryz.prog 36 := enters_of Tryz.func36 (by kernel_rfl) rfl
theorem en37 : Enters Tryz.prog 37 := enters_of Tryz.func37 (by kernel_rfl) rfl
theorem en38 : Enters Tryz.prog 38 := enters_of Tryz.func38 (by kernel_rfl) rfl
theorem en39 : Enters Tryz.prog 39 := enters_of Tryz.func39 (by kernel_rfl) rfl
theorem en51 : Enters Tryz.prog 51 := enters_of Tryz.func51 (by kernel_rfl) rfl
theorem en52 : Enters Tryz.prog 52 := enters_of Tryz.func52 (by kernel_rfl) rfl
theorem en53 : Enters Tryz.prog 53 := enters_of Tryz.func53 (by kernel_rfl) rfl
theorem en54 : Enters Tryz.prog 54 := enters_of Tryz.func54 (by kernel_rfl) rfl
theorem en55 : Enters Tryz.prog 55 := enters_of Tryz.func55 (by kernel_rfl) rfl
theorem en56 : Enters Tryz.prog 56 := enters_of Tryz.func56 (by kernel_rfl) rfl
theorem en57 : Enters Tryz.prog 57 := enters_of Tryz.func57 (by kernel_rfl) rfl
theorem en58 : Enters Tryz.prog 58 := enters_of Tryz.func58 (by kernel_rfl) rfl
theorem en59 : Enters Tryz.prog 59 := enters_of Tryz.func59 (by kernel_rfl) rfl
theorem en62 : Enters Tryz.prog 62 := enters_of Tryz.func62 (by kernel_rfl) rfl
theorem en63 : Enters Tryz.prog 63 := enters_of Tryz.func63 (by kernel_rfl) rfl
theorem en64 : Enters Tryz.prog 64 := enters_of Tryz.func64 (by kernel_rfl) rfl
theorem en65 : Enters Tryz.prog 65 := enters_of Tryz.func65 (by kernel_rfl) rfl
theorem en66 : Enters Tryz.prog 66 := enters_of Tryz.func66 (by kernel_rfl) rfl
theorem en67 : Enters Tryz.prog 67 := enters_of Tryz.func67 (by kernel_rfl) rfl
theorem en68 : Enters Tryz.prog 68 := enters_of Tryz.func68 (by kernel_rfl) rfl
theorem en69 : Enters Tryz.prog 69 := enters_of Tryz.func69 (by kernel_rfl) rfl
theorem en71 : Enters Tryz.prog 71 := enters_of Tryz.func71 (by kernel_rfl) rfl
theorem en72 : Enters Tryz.prog 72 := enters_of Tryz.func72 (by kernel_rfl) rfl
theorem en73 : Enters Tryz.prog 73 := enters_of Tryz.func73 (by kernel_rfl) rfl
theorem en74 : Enters Tryz.prog 74 := enters_of Tryz.func74 (by kernel_rfl) rfl
theorem en75 : Enters Tryz.prog 75 := enters_of Tryz.func75 (by kernel_rfl) rfl
theorem en76 : Enters Tryz.prog 76 := enters_of Tryz.func76 (by kernel_rfl) rfl
theorem en77 : Enters Tryz.prog 77 := enters_of Tryz.func77 (by kernel_rfl) rfl
theorem en78 : Enters Tryz.prog 78 := enters_of Tryz.func78 (by kernel_rfl) rfl
theorem en79 : Enters Tryz.prog 79 := enters_of Tryz.func79 (by kernel_rfl) rfl
theorem en80 : Enters Tryz.prog 80 := enters_of Tryz.func80 (by kernel_rfl) rfl
theorem en81 : Enters Tryz.prog 81 := enters_of Tryz.func81 (by kernel_rfl) rfl
theorem en82 : Enters Tryz.prog 82 := enters_of Tryz.func82 (by kernel_rfl) rfl
theorem en83 : Enters Tryz.prog 83 := enters_of Tryz.func83 (by kernel_rfl) rfl
theorem en84 : Enters Tryz.prog 84 := enters_of Tryz.func84 (by kernel_rfl) rfl
theorem en85 : Enters Tryz.prog 85 := enters_of Tryz.func85 (by kernel_rfl) rfl
theorem en86 : Enters Tryz.prog 86 := enters_of Tryz.func86 (by kernel_rfl) rfl
theorem en87 : Enters Tryz.prog 87 := enters_of Tryz.func87 (by kernel_rfl) rfl
theorem en88 : Enters Tryz.prog 88 := enters_of Tryz.func88 (by kernel_rfl) rfl
theorem en89 : Enters Tryz.prog 89 := enters_of Tryz.func89 (by kernel_rfl) rfl
theorem en90 : Enters Tryz.prog 90 := enters_of Tryz.func90 (by kernel_rfl) rfl
theorem en91 : Enters Tryz.prog 91 := enters_of Tryz.func91 (by kernel_rfl) rfl
theorem en92 : Enters Tryz.prog 92 := enters_of Tryz.func92 (by kernel_rfl) rfl
theorem en93 : Enters Tryz.prog 93 := enters_of Tryz.func93 (by kernel_rfl) rfl
theorem en94 : Enters Tryz.prog 94 := enters_of Tryz.func94 (by kernel_rfl) rfl
theorem en95 : Enters Tryz.prog 95 := enters_of Tryz.func95 (by kernel_rfl) rfl
theorem en96 : Enters Tryz.prog 96 := enters_of Tryz.func96 (by kernel_rfl) rfl
theorem en97 : Enters Tryz.prog 97 := enters_of Tryz.func97 (by kernel_rfl) rfl
theorem en98 : Enters Tryz.prog 98 := enters_of Tryz.func98 (by kernel_rfl) rfl
theorem en99 : Enters Tryz.prog 99 := enters_of Tryz.func99 (by kernel_rfl) rfl
theorem en100 : Enters Tryz.prog 100 := enters_of Tryz.func100 (by kernel_rfl) rfl
theorem en101 : Enters Tryz.prog 101 := enters_of Tryz.func101 (by kernel_rfl) rfl
theorem en102 : Enters Tryz.prog 102 := enters_of Tryz.func102 (by kernel_rfl) rfl
theorem en103 : Enters Tryz.prog 103 := enters_of Tryz.func103 (by kernel_rfl) rfl
theorem en104 : Enters Tryz.prog 104 := enters_of Tryz.func104 (by kernel_rfl) rfl
theorem en105 : Enters Tryz.prog 105 := enters_of Tryz.func105 (by kernel_rfl) rfl
theorem en106 : Enters Tryz.prog 106 := enters_of Tryz.func106 (by kernel_rfl) rfl
theorem en107 : Enters Tryz.prog 107 := enters_of Tryz.func107 (by kernel_rfl) rfl
theorem en108 : Enters Tryz.prog 108 := enters_of Tryz.func108 (by kernel_rfl) rfl
theorem en109 : Enters Tryz.prog 109 := enters_of Tryz.func109 (by kernel_rfl) rfl
theorem en110 : Enters Tryz.prog 110 := enters_of Tryz.func110 (by kernel_rfl) rfl
theorem en113 : Enters Tryz.prog 113 := enters_of Tryz.func113 (by kernel_rfl) rfl
theorem en115 : Enters Tryz.prog 115 := enters_of Tryz.func115 (by kernel_rfl) rfl
theorem en118 : Enters Tryz.prog 118 := enters_of Tryz.func118 (by kernel_rfl) rfl
theorem en121 : Enters Tryz.prog 121 := enters_of Tryz.func121 (by kernel_rfl) rfl
theorem en125 : Enters Tryz.prog 125 := enters_of Tryz.func125 (by kernel_rfl) rfl
theorem en126 : Enters Tryz.prog 126 := enters_of Tryz.func126 (by kernel_rfl) rfl
theorem en127 : Enters Tryz.prog 127 := enters_of Tryz.func127 (by kernel_rfl) rfl
theorem en128 : Enters Tryz.prog 128 := enters_of Tryz.func128 (by kernel_rfl) rfl
theorem en129 : Enters Tryz.prog 129 := enters_of Tryz.func129 (by kernel_rfl) rfl
theorem en130 : Enters Tryz.prog 130 := enters_of Tryz.func130 (by kernel_rfl) rfl
theorem en131 : Enters Tryz.prog 131 := enters_of Tryz.func131 (by kernel_rfl) rfl
theorem en132 : Enters Tryz.prog 132 := enters_of Tryz.func132 (by kernel_rfl) rfl
theorem en133 : Enters Tryz.prog 133 := enters_of Tryz.func133 (by kernel_rfl) rfl
theorem en136 : Enters Tryz.prog 136 := enters_of Tryz.func136 (by kernel_rfl) rfl
theorem en137 : Enters Tryz.prog 137 := enters_of Tryz.func137 (by kernel_rfl) rfl
theorem en138 : Enters Tryz.prog 138 := enters_of Tryz.func138 (by kernel_rfl) rfl
theorem en139 : Enters Tryz.prog 139 := enters_of Tryz.func139 (by kernel_rfl) rfl
theorem en140 : Enters Tryz.prog 140 := enters_of Tryz.func140 (by kernel_rfl) rfl
theorem en141 : Enters Tryz.prog 141 := enters_of Tryz.func141 (by kernel_rfl) rfl
theorem en142 : Enters Tryz.prog 142 := enters_of Tryz.func142 (by kernel_rfl) rfl
theorem en143 : Enters Tryz.prog 143 := enters_of Tryz.func143 (by kernel_rfl) rfl
theorem en144 : Enters Tryz.prog 144 := enters_of Tryz.func144 (by kernel_rfl) rfl
theorem en147 : Enters Tryz.prog 147 := enters_of Tryz.func147 (by kernel_rfl) rfl
theorem en148 : Enters Tryz.prog 148 := enters_of Tryz.func148 (by kernel_rfl) rfl
theorem en149 : Enters Tryz.prog 149 := enters_of Tryz.func149 (by kernel_rfl) rfl
theorem en150 : Enters Tryz.prog 150 := enters_of Tryz.func150 (by kernel_rfl) rfl
theorem en151 : Enters Tryz.prog 151 := enters_of Tryz.func151 (by kernel_rfl) rfl
theorem en152 : Enters Tryz.prog 152 := enters_of Tryz.func152 (by kernel_rfl) rfl
theorem en153 : Enters Tryz.prog 153 := enters_of Tryz.func153 (by kernel_rfl) rfl
theorem en154 : Enters Tryz.prog 154 := enters_of Tryz.func154 (by kernel_rfl) rfl
theorem en155 : Enters Tryz.prog 155 := enters_of Tryz.func155 (by kernel_rfl) rfl
theorem en161 : Enters Tryz.prog 161 := enters_of Tryz.func161 (by kernel_rfl) rfl
theorem en163 : Enters Tryz.prog 163 := enters_of Tryz.func163 (by kernel_rfl) rfl
theorem en164 : Enters Tryz.prog 164 := enters_of Tryz.func164 (by kernel_rfl) rfl
theorem en165 : Enters Tryz.prog 165 := enters_of Tryz.func165 (by kernel_rfl) rfl
theorem en166 : Enters Tryz.prog 166 := enters_of Tryz.func166 (by kernel_rfl) rfl
theorem en167 : Enters Tryz.prog 167 := enters_of Tryz.func167 (by kernel_rfl) rfl
theorem en168 : Enters Tryz.prog 168 := enters_of Tryz.func168 (by kernel_rfl) rfl
theorem en169 : Enters Tryz.prog 169 := enters_of Tryz.func169 (by kernel_rfl) rfl
theorem en170 : Enters Tryz.prog 170 := enters_of Tryz.func170 (by kernel_rfl) rfl
theorem en171 : Enters Tryz.prog 171 := enters_of Tryz.func171 (by kernel_rfl) rfl
theorem en177 : Enters Tryz.prog 177 := enters_of Tryz.func177 (by kernel_rfl) rfl
theorem en178 : Enters Tryz.prog 178 := enters_of Tryz.func178 (by kernel_rfl) rfl
theorem en179 : Enters Tryz.prog 179 := enters_of Tryz.func179 (by kernel_rfl) rfl
theorem en181 : Enters Tryz.prog 181 := enters_of Tryz.func181 (by kernel_rfl) rfl
end Go.Proofs.YtggaghghclomkaaGreat

/- Contracts of the small helpers. -/
namespace Go.Proofs.YtggaghghclomkaaGreat
open Go.RowKit
attribute [local irreducible] TL TC TN TX TR TQ Pu Ret

theorem u8s_get (s : List UInt8) {k : Nat} (h : k < s.length) : (u8s s).getD k undef = B8 (s.getD k 0) := by
  simp [u8s, List.getD_eq_getElem?_getD, List.getElem?_eq_getElem h]

theorem copyBytes_c {A : Option Addr} {c lo hi : Nat} {s : List UInt8} {w : World} (hr : Rd w lo hi 1 A s.length (u8s s)) (hl : s.length ≤ 1099511627776) :
    Ret Tryz.prog 71 #[.slice A s.length c] w fun v w' => ∃ A' c', v = .slice A' s.length c' ∧ Ext w w' ∧ Own w' w.heap.size w'.heap.size 5 1 A' s.length c' (u8s s) := by
  refine Ret_enter Tryz.func71 rfl rfl rfl ?_
  repeat' (first | apply Jbq | apply Jbr | apply Jbs | apply Jbt | (apply Jcg; (first | exact Jaa rfl | exact Jab rfl); exact rfl))
  refine TL_append Us.h Inf.h rfl rfl rfl rfl (Own.nil w w.heap.size w.heap.size 5 1 (Nat.le_refl _)) hr (u8s_one s) (Nat.le_refl _) (by omega) (by omega) rfl ?_
  intro w1 hi1 A1 c1 hch h1 h2 h3 hown
  have hz := hch.size
  repeat' (first | apply Jbq | apply Jbr | apply Jbu | (apply Jcg; exact Jab rfl; exact rfl))
  refine TR_of (res1 rfl rfl) ⟨A1, c1, by rw [Nat.zero_add], hch.mono (fun k hk => by simp only [Iv] at hk; omega), ?_⟩
  rw [Nat.zero_add, List.nil_append] at hown
  exact hown.wide (Nat.le_refl _) (by omega) (Nat.le_refl _)

theorem toByteS_c {A : Option Addr} {c lo hi : Nat} {s : List UInt8} {w : World} (hr : Rd w lo hi 1 A s.length (u8s s)) (hl : s.length ≤ 1099511627776) :
    Ret Tryz.prog 91 #[.slice A s.length c] w fun v w' => ∃ A' c', v = .slice A' s.length c' ∧ Ext w w' ∧ Own w' w.heap.size w'.heap.size 5 1 A' s.length c' (u8s s) := by
  refine Ret_enter Tryz.func91 rfl rfl rfl ?_
  repeat' (first | apply Jbq | apply Jbr | apply Jbs | apply Jbt | (apply Jcg; (first | exact Jaa rfl | exact Jab rfl | exact Jac Us.h rfl); exact rfl))
  refine TL_make Us.h Inf.h rfl rfl (by omega) (by omega) (by omega) rfl ?_
  intro w1 g e1 hg hz1 hown
  repeat' (first | apply Jbq | apply Jbr | apply Jbs | apply Jbt | apply Jby | (apply Jcg; exact Jab rfl; exact rfl))
  have hmk : (madeCells (Value.cells (.int .u8 0)) ((s.length : Int).toNat * 1)).toList = fillTo (u8s s) 0 (.int .u8 0) := by
    rw [fillTo_zero, Nat.mul_one, u8s_length]; exact toList_madeCells_one _ _
  rw [hmk] at hown
  refine TC_loop (ι := Nat) (fun k => [(0, .slice A s.length c), (3, .slice (some ⟨g, 0, none⟩) s.length s.length), (4, I k)])
    (fun k w' => k ≤ s.length ∧ Ext w w' ∧ Own w' g (g + 1) 5 1 (some ⟨g, 0, none⟩) s.length s.length (fillTo (u8s s) k (.int .u8 0))) (fun k => s.length - k) 0
    (subEnv_cons rfl (subEnv_cons rfl (subEnv_cons rfl (subEnv_nil _)))) ⟨Nat.zero_le _, e1, hown⟩ ?_
  intro k w2 ⟨hk, e2, hown2⟩
  repeat' (first | apply Jbq | apply Jbr | apply Jbs | apply Jbt | (apply Jcg; (first | exact Jaa rfl | exact Jac Us.h rfl | exact Jad rfl rfl); exact rfl))
  refine Jcz rfl (fun hlt => ?_) (fun hge => ?_)
  · have hlt : k < s.length := by simpa using hlt
    obtain ⟨ad, rfl, hc⟩ := (hr.ext e2).get hlt
    repeat' (first | apply Jbr | apply Jbs | apply Jbt | apply Jby | apply Jbz | (apply Jcg; (first | exact Jaa rfl | exact Jag Us.h Sz.h rfl rfl (by omega)); exact rfl))
    refine Jcg (Pu_load Fl.h rfl (fun _ e => by rw [e]; exact hc)) rfl ?_
    repeat' ((apply Jcg; exact Jag Us.h Sz.h rfl rfl (by omega); exact rfl))
    refine TL_storeOwn rfl (add0 g k) rfl Sz.h (by rw [u8s_get s hlt]; rfl) hown2 (by omega) ?_
    intro w3 e3 hz3 hown3
    rw [fillTo_set _ _ _ (by simpa using hlt)] at hown3
    repeat' (first | apply Jbq | apply Jbr | apply Jbt | apply Jbx | (apply Jcg; (first | exact Jaa rfl | exact Jab rfl | exact Jaf rfl rfl (by omega)); exact rfl))
    exact TN_round (k + 1) (subEnv_cons rfl (subEnv_cons rfl (subEnv_cons rfl (subEnv_nil _)))) ⟨hlt, e2.then_iv e3 (by omega), hown3⟩ (by omega)
  · have hge : k = s.length := by have : ¬ k < s.length := by simpa using hge
                                  omega
    repeat' (first | apply Jbq | apply Jbr | apply Jbs | apply Jbt | apply Jbu | apply Jca | apply Jcb | apply Jcc | (apply Jcg; (first | exact Jaa rfl | exact Jab rfl); exact rfl))
    have hsz := hown2.hi_le
    refine TR_of (res1 rfl rfl) ⟨_, _, rfl, e2, ?_⟩
    have hfa := fillTo_all (u8s s) (.int .u8 0)
    rw [u8s_length] at hfa
    rw [hge, hfa] at hown2
    exact hown2.wide (by omega) (by omega) (Nat.le_refl _)

theorem eqByteS_c {A A2 : Option Addr} {c c2 lo hi lo2 hi2 : Nat} {s t : List UInt8} {w : World} (hr : Rd w lo hi 1 A s.length (u8s s)) (hr2 : Rd w lo2 hi2 1 A2 t.length (u8s t)) (hl : s.length ≤ 1099511627776) (hl2 : t.length ≤ 1099511627776) :
    Ret Tryz.prog 96 #[.slice A s.length c, .slice A2 t.length c2] w fun v w' => v = .bool (decide (s = t)) ∧ Ext w w' := by
  refine Ret_enter Tryz.func96 rfl rfl rfl ?_
  repeat' (first | apply Jbq | apply Jbr | apply Jbs | apply Jbt | (apply Jcg; (first | exact Jaa rfl | exact Jab rfl | exact Jac Us.h rfl | exact Jal rfl rfl); exact rfl))
  refine Jcz rfl (fun hne => ?_) (fun heq => ?_)
  · have hne : s ≠ t := fun e => by subst e; simp at hne
    repeat' (first | apply Jbq | apply Jbr | apply Jbs | apply Jbt | apply Jbu | apply Jbv | (apply Jcg; exact Jab rfl; exact rfl))
    exact TR_of (res1 rfl rfl) ⟨by simp [hne], Ch.refl _ _⟩
  · have heq : s.length = t.length := by simp at heq; omega
    repeat' (first | apply Jbq | apply Jbr | apply Jbs | apply Jbt | apply Jby | apply Jbz | (apply Jcg; exact Jab rfl; exact rfl))
    refine TC_loop (ι := Nat) (fun k => [(0, .slice A s.length c), (1, .slice A2 t.length c2), (5, I k)]) (fun k w' => k ≤ s.length ∧ s.take k = t.take k ∧ Ext w w') (fun k => s.length - k) 0
      (subEnv_cons rfl (subEnv_cons rfl (subEnv_cons rfl (subEnv_nil _)))) ⟨Nat.zero_le _, rfl, Ch.refl _ _⟩ ?_
    intro k w2 ⟨hk, htk, e2⟩
    repeat' (first | apply Jbq | apply Jbr | apply Jbs | apply Jbt | (apply Jcg; (first | exact Jaa rfl | exact Jac Us.h rfl | exact Jad rfl rfl); exact rfl))
    refine Jcz rfl (fun hlt => ?_) (fun hge => ?_)
    · have hlt : k < s.length := by simpa using hlt
      have hlt2 : k < t.length := by omega
      obtain ⟨ad, rfl, hc⟩ := (hr.ext e2).get hlt
      obtain ⟨ad2, rfl, hc2⟩ := (hr2.ext e2).get hlt2
      rw [u8s_get s hlt] at hc
      rw [u8s_get t hlt2] at hc2
      repeat' (first | apply Jbr | apply Jbs | apply Jby | apply Jbz)
      refine TC_quietExt mixed (by kernel_rfl) ?_
      repeat' (first | (apply Jck; (first | exact Jaa rfl | exact Jag Us.h Sz.h rfl rfl (by omega) | exact Jal rfl rfl); exact rfl) | refine Jck (Pu_load Fl.h rfl (fun _ e => Ext.cell e hc)) rfl ?_ | refine Jck (Pu_load Fl.h rfl (fun _ e => Ext.cell e hc2)) rfl ?_)
      refine TQ_nil fun w3 e3 => ?_
      repeat' (apply Jbr)
      have e1 : s.take (k + 1) = s.take k ++ [s.getD k 0] := by rw [List.take_succ_eq_append_getElem hlt]; simp [List.getD_eq_getElem?_getD, List.getElem?_eq_getElem hlt]
      have e1' : t.take (k + 1) = t.take k ++ [t.getD k 0] := by rw [List.take_succ_eq_append_getElem hlt2]; simp [List.getD_eq_getElem?_getD, List.getElem?_eq_getElem hlt2]
      refine Jcz rfl (fun hne => ?_) (fun heqk => ?_)
      · have hne : s ≠ t := fun e => by subst e; simp at hne
        repeat' (first | apply Jbq | apply Jbr | apply Jbs | apply Jbt | apply Jbu | apply Jbv | apply Jbw | (apply Jcg; exact Jab rfl; exact rfl))
        exact TR_of (res1 rfl rfl) ⟨by simp [hne], e2.ext e3⟩
      · have hq : s.getD k 0 = t.getD k 0 := by
          have : ((s.getD k 0).toNat : Int) = ((t.getD k 0).toNat : Int) := by simpa using heqk
          exact UInt8.toNat_inj.1 (by omega)
        repeat' (first | apply Jbq | apply Jbr | apply Jbt | apply Jbx | apply Jbz | (apply Jcg; (first | exact Jaa rfl | exact Jab rfl | exact Jaf rfl rfl (by omega)); exact rfl))
        exact TN_round (k + 1) (subEnv_cons rfl (subEnv_cons rfl (subEnv_cons rfl (subEnv_nil _)))) ⟨hlt, by rw [e1, e1', htk, hq], e2.ext e3⟩ (by omega)
    · have hge : k = s.length := by have : ¬ k < s.length := by simpa using hge
                                    omega
      repeat' (first | apply Jbq | apply Jbr | apply Jbs | apply Jbt | apply Jbu | apply Jca | apply Jcb | apply Jcc | (apply Jcg; exact Jab rfl; exact rfl))
      refine TR_of (res1 rfl rfl) ⟨?_, e2⟩
      rw [hge, List.take_length, heq, List.take_length] at htk
      simp [htk]

/-- The marks of bytes: k, k + 1, .. -/
def mk8 (k : Int) (n : Nat) : List UInt8 := (List.range n).map fun (i : Nat) => UInt8.ofNat ((k + (i : Int)) % 256).toNat
@[simp] theorem mk8_length (k : Int) (n : Nat) : (mk8 k n).length = n := by simp [mk8]
theorem mk8_get (k : Int) (n i : Nat) (h : i < n) : (mk8 k n).getD i 0 = UInt8.ofNat ((k + i) % 256).toNat := by
  simp [mk8, List.getD_eq_getElem?_getD, h]
theorem markByteS_c {A : Option Addr} {n c lo hi : Nat} {xs : List Value} {k : Int} {w : World} (ho : Own w lo hi 5 1 A n c xs) (hl : n ≤ 1099511627776) (hk0 : 0 ≤ k) (hk1 : k ≤ 1099511627776) :
    Ret Tryz.prog 97 #[.slice A n c, I k] w fun v w' => v = I (k + n) ∧ Ch (Iv lo hi) w w' ∧ w'.heap.size = w.heap.size ∧ Own w' lo hi 5 1 A n c (u8s (mk8 k n)) := by
  have hlen := ho.len
  rw [Nat.mul_one] at hlen
  refine Ret_enter Tryz.func97 rfl rfl rfl ?_
  repeat' (first | apply Jbq | apply Jbr | apply Jbs | apply Jbt | apply Jby | (apply Jcg; exact Jab rfl; exact rfl))
  refine TC_loop (ι := Nat) (fun i => [(0, .slice A n c), (1, I (k + i)), (5, I i)])
    (fun i w' => i ≤ n ∧ Ch (Iv lo hi) w w' ∧ w'.heap.size = w.heap.size ∧ Own w' lo hi 5 1 A n c (overTo (u8s (mk8 k n)) xs i)) (fun i => n - i) 0
    (subEnv_cons rfl (subEnv_cons (by rw [Int.ofNat_zero, Int.add_zero]; rfl) (subEnv_cons rfl (subEnv_nil _)))) ⟨Nat.zero_le _, Ch.refl _ _, rfl, by rw [overTo_zero]; exact ho⟩ ?_
  intro i w2 ⟨hi2, e2, hz2, ho2⟩
  repeat' (first | apply Jbq | apply Jbr | apply Jbs | apply Jbt | (apply Jcg; (first | exact Jaa rfl | exact Jac Us.h rfl | exact Jad rfl rfl); exact rfl))
  refine Jcz rfl (fun hlt => ?_) (fun hge => ?_)
  · have hlt : i < n := by simpa using hlt
    rcases ho2.head with rfl | ⟨g, rfl, hg1, hg2⟩
    · obtain ⟨ad, h, _⟩ := ho2.rd.get hlt
      cases h
    · repeat' (first | apply Jbr | apply Jbs | apply Jbt | apply Jby | apply Jbz | (apply Jcg; (first | exact Jaa rfl | exact Jag Us.h Sz.h rfl rfl (by omega) | exact Jaw Us.h Us.h rfl); exact rfl))
      refine TL_storeOwn rfl (add0 g i) rfl Sz.h rfl ho2 (by omega) ?_
      intro w3 e3 hz3 ho3
      have hv : B8 (UInt8.ofNat ((k + i) % 256).toNat) = (u8s (mk8 k n)).getD i undef := by rw [u8s_get _ (by simpa using hlt), mk8_get k n i hlt]
      rw [hv, overTo_set _ _ _ (by omega) (by simp; omega)] at ho3
      repeat' (first | apply Jbq | apply Jbr | apply Jbt | apply Jbx | (apply Jcg; (first | exact Jaa rfl | exact Jab rfl | exact Jaf rfl rfl (by omega)); exact rfl))
      exact TN_round (i + 1) (subEnv_cons rfl (subEnv_cons (by rw [show ((i + 1 : Nat) : Int) = (i : Int) + 1 from rfl, ← Int.add_assoc]; rfl) (subEnv_cons rfl (subEnv_nil _))))
        ⟨hlt, e2.then (e3.mono (fun q hq => by simp only [Iv] at *; omega)), by omega, ho3⟩ (by omega)
  · have hge : i = n := by have : ¬ i < n := by simpa using hge
                           omega
    repeat' (first | apply Jbq | apply Jbr | apply Jbs | apply Jbt | apply Jbu | apply Jca | apply Jcb | apply Jcc | (apply Jcg; (first | exact Jaa rfl | exact Jab rfl); exact rfl))
    refine TR_of (res1 rfl rfl) ⟨by rw [hge], e2, hz2, ?_⟩
    have := overTo_all (u8s (mk8 k n)) xs (by simp; omega)
    rw [hlen] at this
    rw [hge, this] at ho2
    exact ho2
theorem heldByteS_c {A : Option Addr} {n c lo hi : Nat} {k : Int} {w : World} (hr : Rd w lo hi 1 A n (u8s (mk8 k n))) (hl : n ≤ 1099511627776) (hk0 : 0 ≤ k) (hk1 : k ≤ 1099511627776) :
    Ret Tryz.prog 150 #[.slice A n c, I k] w fun v w' => v = I (k + n) ∧ Ext w w' := by
  refine Ret_enter Tryz.func150 rfl rfl rfl ?_
  repeat' (first | apply Jbq | apply Jbr | apply Jbs | apply Jbt | apply Jby | (apply Jcg; exact Jab rfl; exact rfl))
  refine TC_loop (ι := Nat) (fun i => [(0, .slice A n c), (1, I (k + i)), (5, I i)]) (fun i w' => i ≤ n ∧ Ext w w') (fun i => n - i) 0
    (subEnv_cons rfl (subEnv_cons (by rw [Int.ofNat_zero, Int.add_zero]; rfl) (subEnv_cons rfl (subEnv_nil _)))) ⟨Nat.zero_le _, Ch.refl _ _⟩ ?_
  intro i w2 ⟨hi2, e2⟩
  repeat' (first | apply Jbq | apply Jbr | apply Jbs | apply Jbt | (apply Jcg; (first | exact Jaa rfl | exact Jac Us.h rfl | exact Jad rfl rfl); exact rfl))
  refine Jcz rfl (fun hlt => ?_) (fun hge => ?_)
  · have hlt : i < n := by simpa using hlt
    obtain ⟨ad, rfl, hc⟩ := (hr.ext e2).get hlt
    rw [u8s_get _ (by simpa using hlt), mk8_get k n i hlt] at hc
    repeat' (first | apply Jbq | apply Jbr | apply Jbs | apply Jbt | apply Jby | apply Jbz | (apply Jcg; (first | exact Jaa rfl | exact Jag Us.h Sz.h rfl rfl (by omega) | exact Jal rfl rfl | exact Jaw Us.h Us.h rfl); exact rfl) | refine Jcg (Pu_load Fl.h rfl (fun _ e => by rw [e]; exact hc)) rfl ?_)
    refine Jcz rfl (fun hne => ?_) (fun heq => ?_)
    · simp at hne
    · repeat' (first | apply Jbq | apply Jbr | apply Jbt | apply Jbx | apply Jbz | (apply Jcg; (first | exact Jaa rfl | exact Jab rfl | exact Jaf rfl rfl (by omega)); exact rfl))
      exact TN_round (i + 1) (subEnv_cons rfl (subEnv_cons (by rw [show ((i + 1 : Nat) : Int) = (i : Int) + 1 from rfl, ← Int.add_assoc]; rfl) (subEnv_cons rfl (subEnv_nil _)))) ⟨hlt, e2⟩ (by omega)
  · have hge : i = n := by have : ¬ i < n := by simpa using hge
                           omega
    repeat' (first | apply Jbq | apply Jbr | apply Jbs | apply Jbt | apply Jbu | apply Jca | apply Jcb | apply Jcc | (apply Jcg; (first | exact Jaa rfl | exact Jab rfl); exact rfl))
    exact TR_of (res1 rfl rfl) ⟨by rw [hge], e2⟩
end Go.Proofs.YtggaghghclomkaaGreat

/- Bytes and numbers that go from call to call: what reads so, what a call owns, what bears marks; the laws' helpers in these words. No condition. -/
namespace Go.Proofs.YtggaghghclomkaaGreat
open Go.RowKit
attribute [local irreducible] TL TC TN TX TR TQ Pu Ret

/-- The slice v reads as the bytes s. -/
def RB (w : World) (lo hi : Nat) (v : Value) (s : List UInt8) : Prop := ∃ A c, v = .slice A s.length c ∧ s.length ≤ c ∧ Rd w lo hi 1 A s.length (u8s s)
/-- The slice v is the call's own and holds the bytes s. -/
def OB (w : World) (lo hi : Nat) (v : Value) (s : List UInt8) : Prop := ∃ A c, v = .slice A s.length c ∧ Own w lo hi 5 1 A s.length c (u8s s)
/-- The slice v is the call's own and bears the marks k, k + 1, .. -/
def MB (w : World) (lo hi : Nat) (v : Value) (k : Int) (s : List UInt8) : Prop := OB w lo hi v (mk8 k s.length)
section
variable {w w' : World} {lo hi : Nat} {v : Value} {s : List UInt8} {k : Int} {T : Nat → Prop}
theorem RB.ch (h : RB w lo hi v s) (c : Ch T w w') (hd : ∀ k, lo ≤ k → k < hi → ¬ T k) : RB w' lo hi v s := by
  obtain ⟨A, cc, h1, h2, h3⟩ := h; exact ⟨A, cc, h1, h2, h3.ch c hd⟩
theorem RB.ext (h : RB w lo hi v s) (c : Ext w w') : RB w' lo hi v s := h.ch c (fun _ _ _ t => t)
theorem OB.ch (h : OB w lo hi v s) (c : Ch T w w') (hd : ∀ k, lo ≤ k → k < hi → ¬ T k) : OB w' lo hi v s := by
  obtain ⟨A, cc, h1, h3⟩ := h; exact ⟨A, cc, h1, h3.ch c hd⟩
theorem OB.ext (h : OB w lo hi v s) (c : Ext w w') : OB w' lo hi v s := h.ch c (fun _ _ _ t => t)
theorem MB.ch (h : MB w lo hi v k s) (c : Ch T w w') (hd : ∀ k, lo ≤ k → k < hi → ¬ T k) : MB w' lo hi v k s := OB.ch h c hd
theorem MB.ext (h : MB w lo hi v k s) (c : Ext w w') : MB w' lo hi v k s := OB.ext h c
theorem OB.rd (h : OB w lo hi v s) : RB w lo hi v s := by obtain ⟨A, cc, h1, h3⟩ := h; exact ⟨A, cc, h1, h3.cap.1, h3.rd⟩
theorem OB.hi_le (h : OB w lo hi v s) : hi ≤ w.heap.size := by obtain ⟨A, cc, h1, h3⟩ := h; exact h3.hi_le
end
theorem OB.nil (w : World) (k : Nat) (_h : k ≤ w.heap.size) : OB w k w.heap.size (.slice none 0 0) [] := ⟨none, 0, rfl, Own.nil _ _ _ _ _ (Nat.le_refl _)⟩
theorem OB_new {w1 : World} {g : Nat} {s : List UInt8} {w : World} {n : Nat} (hs : s.length = n) (h : Own w1 g (g + 1) 5 1 (some ⟨g, 0, none⟩) n n (u8s s)) (hg : g = w.heap.size) (hz : w1.heap.size = g + 1) : OB w1 w.heap.size w1.heap.size (.slice (some ⟨g, 0, none⟩) n n) s := by
  subst hs; exact ⟨_, _, rfl, h.wide (by omega) (by omega) (Nat.le_refl _)⟩
theorem fillu1 (a : UInt8) : Instr.fill (fun i => some (i * 1, 1)) ((Array.range (1 * 1)).map ((Value.int .u8 0).cells[· % (Value.int .u8 0).cells.size]!)) [(0, B8 a)] = some (u8s [a]).toArray := by kernel_rfl
def pb (x : Int) : UInt8 := UInt8.ofNat (x % 256).toNat
section
variable {P : Program} {L : List Oper} {Q : Exit → Act → World → Prop} {n d : Nat} {l : Env} {w : World} {rest : List Oper} {ty : TypeId} {pos : String} {af : Array Edge} {v v2 : Value} {x y : Operand} {t : TypeId}
/-- Own bytes are appended to. -/
theorem TL_appendB {lo hi lo2 hi2 : Nat} {s s2 : List UInt8} (ht : Tryz.prog.underlying t = some (.slice 5)) (hx : ev l x = some v) (hy : ev l y = some v2) (ho : OB w lo hi v s) (hr : RB w lo2 hi2 v2 s2)
    (hlo : lo ≤ w.heap.size) (hm : s.length + s2.length ≤ 17592186044416) (hn : Nat.blt d n = true)
    (h : ∀ w' v', Ch (Iv lo hi) w w' → OB w' lo w'.heap.size v' (s ++ s2) → TL Tryz.prog L Q rest n ((d, v') :: l) w') :
    TL Tryz.prog L Q (⟨some d, .call { callee := .builtin .append, args := #[x, y], argTypes := #[t, t] }, ty, pos, af, none⟩ :: rest) n l w := by
  obtain ⟨A, c, rfl, ho⟩ := ho
  obtain ⟨A2, c2, rfl, _, hr⟩ := hr
  refine TL_append ht inf5 rfl rfl hx hy ho hr (u8s_one s2) hlo (by omega) (by omega) hn ?_
  intro w1 hi1 A1 c1 hch h1 h2 h3 hown
  have hz := hch.size
  have hh := ho.hi_le
  exact h w1 _ hch ⟨A1, c1, by rw [List.length_append], (hown.wide (Nat.le_refl _) (by omega) (Nat.le_refl _)).cast (by rw [List.length_append]) (by simp [u8s])⟩
end
theorem toB_k {w : World} {lo hi : Nat} {v : Value} {s : List UInt8} (h : RB w lo hi v s) (hl : s.length ≤ 1048576) : Ret Tryz.prog 91 #[v] w fun v' w' => Ext w w' ∧ OB w' w.heap.size w'.heap.size v' s := by
  obtain ⟨A, c, rfl, _, hr⟩ := h
  exact (toByteS_c hr (by omega)).mono fun v' w' ⟨A', c', hv, e, ho⟩ => ⟨e, A', c', hv, ho⟩
theorem eqB_k {w : World} {lo hi lo2 hi2 : Nat} {v v2 : Value} {s : List UInt8} (h : RB w lo hi v s) (h2 : RB w lo2 hi2 v2 s) (hl : s.length ≤ 1099511627776) : Ret Tryz.prog 96 #[v, v2] w fun v' w' => v' = .bool true ∧ Ext w w' := by
  obtain ⟨A, c, rfl, _, hr⟩ := h
  obtain ⟨A2, c2, rfl, _, hr2⟩ := h2
  exact (eqByteS_c hr hr2 hl hl).mono fun v' w' ⟨hv, e⟩ => ⟨by rw [hv]; simp, e⟩
theorem markB_k {w : World} {lo hi : Nat} {v : Value} {s : List UInt8} {k : Int} (h : OB w lo hi v s) (hl : s.length ≤ 1099511627776) (hk0 : 0 ≤ k) (hk1 : k ≤ 1099511627776) :
    Ret Tryz.prog 97 #[v, I k] w fun v' w' => v' = I (k + s.length) ∧ Ch (Iv lo hi) w w' ∧ w'.heap.size = w.heap.size ∧ MB w' lo hi v k s := by
  obtain ⟨A, c, rfl, ho⟩ := h
  exact (markByteS_c ho hl hk0 hk1).mono fun v' w' ⟨hv, e, hz, ho'⟩ => ⟨hv, e, hz, A, c, by rw [mk8_length], by rw [mk8_length]; exact ho'⟩
end Go.Proofs.YtggaghghclomkaaGreat

/- Contracts of the functions that only compute: ranges, runes, names, entries. -/
namespace Go.Proofs.YtggaghghclomkaaGreat
open Go.RowKit
attribute [local irreducible] TL TC TN TX TR TQ Pu Ret

def inB (n lo hi : Int) : Bool := decide (lo ≤ n ∧ n ≤ hi)
def okByte (b : UInt8) : Bool := decide (97 ≤ (b.toNat : Int) ∧ (b.toNat : Int) ≤ 122)
def pName (s : List UInt8) : Bool := decide (1 ≤ s.length ∧ s.length ≤ 12) && s.all okByte
def pEntry (num : Int) (text : List UInt8) : Bool := decide (1 ≤ num ∧ num ≤ 1000000000 ∧ 1 ≤ text.length ∧ text.length ≤ 1000)
theorem boolv {a b : Bool} (h : a = true ↔ b = true) : Value.bool a = Value.bool b := by rw [Bool.eq_iff_iff.2 h]
theorem okTake {s : List UInt8} {k : Nat} (h : k < s.length) : (s.take (k + 1)).all okByte = ((s.take k).all okByte && okByte (at8 s k)) := by
  rw [List.take_succ_eq_append_getElem h, List.all_append]
  simp only [at8, Int.toNat_natCast, List.getD_eq_getElem?_getD, List.getElem?_eq_getElem h, Option.getD_some, List.all_cons, List.all_nil, Bool.and_true]
theorem okBad {s : List UInt8} {k : Nat} (h : k < s.length) (hb : okByte (at8 s k) = false) : s.all okByte = false := by
  rw [List.all_eq_false]
  refine ⟨s[k], List.getElem_mem h, ?_⟩
  simpa [at8, List.getD_eq_getElem?_getD, List.getElem?_eq_getElem h] using hb

theorem in_c (n lo hi : Int) (w : World) : Ret Tryz.prog 101 #[I n, I lo, I hi] w fun v w' => v = .bool (inB n lo hi) ∧ w = w' := by
  refine Ret_enter Tryz.func101 rfl rfl rfl ?_
  repeat' (first | apply Jbq | apply Jbr | apply Jbs | apply Jbt | apply Jbu | (apply Jcg; (first | exact Jaa rfl | exact Jab rfl | exact Jah rfl rfl | exact Jai rfl rfl | exact Jan rfl rfl | exact Jao rfl rfl); exact rfl) | refine Jch rfl rfl rfl ?_ | refine Jci rfl rfl rfl rfl rfl ?_ | (refine Jcs rfl rfl (fun hb => ?_) (fun hb => ?_) <;> (try (exfalso; omega))))
  all_goals exact TR_of (res1 rfl rfl) ⟨boolv (by simp [inB]; omega), rfl⟩
theorem isLower_c (r : Int) (w : World) : Ret Tryz.prog 171 #[I r] w fun v w' => v = .bool (inB r 97 122) ∧ w = w' := by
  refine Ret_enter Tryz.func171 rfl rfl rfl ?_
  repeat' (first | apply Jbq | apply Jbr | apply Jbs | apply Jbt | apply Jbu | (apply Jcg; (first | exact Jaa rfl | exact Jab rfl); exact rfl) | (refine TL_call rfl en101 (in_c _ _ _ _) rfl rfl ?_; rintro _ _ ⟨rfl, rfl⟩))
  exact TR_of (res1 rfl rfl) ⟨rfl, rfl⟩
theorem specNameOk_c (s : List UInt8) (w : World) (hl : s.length ≤ 9223372036854775807) : Ret Tryz.prog 131 #[S s] w fun v w' => v = .bool (pName s) ∧ w = w' := by
  refine Ret_enter Tryz.func131 rfl rfl rfl ?_
  by_cases h : 1 ≤ s.length ∧ s.length ≤ 12
  · repeat' (first | apply Jbq | apply Jbr | apply Jbs | apply Jbt | apply Jby | apply Jbz | (apply Jcg; (first | exact Jaa rfl | exact Jab rfl | exact Jad rfl rfl | exact Jai rfl rfl | exact Jam rfl rfl | exact Jaq Us.h rfl); exact rfl) | refine Jch rfl rfl rfl ?_ | (refine Jcs rfl rfl (fun hb => ?_) (fun hb => ?_) <;> (try (exfalso; omega))) | (refine Jcx rfl (fun hb => ?_) (fun hb => ?_) <;> (try (exfalso; omega))))
    refine TC_loop (ι := Nat) (fun k => [(0, S s), (3, I k)]) (fun k w' => k ≤ s.length ∧ (s.take k).all okByte = true ∧ w = w') (fun k => s.length - k) 0 (subEnv_cons rfl (subEnv_cons rfl (subEnv_nil _))) ⟨Nat.zero_le _, by simp, rfl⟩ ?_
    rintro k _ ⟨hk, hall, rfl⟩
    by_cases hlt : k < s.length
    · have ht := okTake hlt
      repeat' (first | apply Jbq | apply Jbr | apply Jbs | apply Jbt | apply Jbu | apply Jbv | apply Jbw | apply Jbx | apply Jby | apply Jbz | (refine Jce rfl ?_) | (apply Jcg; (first | exact Jaa rfl | exact Jab rfl | exact Jad rfl rfl | exact Jaf rfl rfl (by omega) | exact Jah rfl rfl | exact Jai rfl rfl | exact Jam rfl rfl | exact Jaq Us.h rfl | exact Jbb Us.h rfl rfl (by omega)); exact rfl) | refine Jch rfl rfl rfl ?_ | refine Jci rfl rfl rfl rfl rfl ?_ | (refine Jcs rfl rfl (fun hb => ?_) (fun hb => ?_) <;> (try (exfalso; omega))) | (refine Jcx rfl (fun hb => ?_) (fun hb => ?_) <;> (try (exfalso; omega))))
      · exact TR_of (res1 rfl rfl) ⟨boolv (by have := okBad hlt (by simp [okByte]; omega); simp [pName, this]), rfl⟩
      · exact TR_of (res1 rfl rfl) ⟨boolv (by have := okBad hlt (by simp [okByte]; omega); simp [pName, this]), rfl⟩
      · exact TN_round (k + 1) (subEnv_cons rfl (subEnv_cons rfl (subEnv_nil _))) ⟨hlt, by rw [ht, hall]; simp [okByte]; omega, rfl⟩ (by omega)
    · obtain rfl : k = s.length := by omega
      repeat' (first | apply Jbq | apply Jbr | apply Jbs | apply Jbt | apply Jbu | apply Jca | apply Jcb | apply Jcc | (apply Jcg; (first | exact Jaa rfl | exact Jab rfl | exact Jad rfl rfl | exact Jaq Us.h rfl); exact rfl) | (refine Jcx rfl (fun hb => ?_) (fun hb => ?_) <;> (try (exfalso; omega))))
      exact TR_of (res1 rfl rfl) ⟨boolv (by rw [List.take_length] at hall; simp [pName, hall, h]), rfl⟩
  · have hp : pName s = false := by simp [pName]; omega
    repeat' (first | apply Jbq | apply Jbr | apply Jbs | apply Jbt | apply Jbu | apply Jbv | (refine Jce rfl ?_) | (apply Jcg; (first | exact Jaa rfl | exact Jab rfl | exact Jad rfl rfl | exact Jah rfl rfl | exact Jai rfl rfl | exact Jam rfl rfl | exact Jaq Us.h rfl); exact rfl) | refine Jch rfl rfl rfl ?_ | refine Jci rfl rfl rfl rfl rfl ?_ | (refine Jcs rfl rfl (fun hb => ?_) (fun hb => ?_) <;> (try (exfalso; omega))) | (refine Jcx rfl (fun hb => ?_) (fun hb => ?_) <;> (try (exfalso; omega))))
    all_goals exact TR_of (res1 rfl rfl) ⟨by rw [hp], rfl⟩
theorem implNameOk_c (s : List UInt8) (w : World) (hl : s.length ≤ 9223372036854775807) : Ret Tryz.prog 139 #[S s] w fun v w' => v = .bool (pName s) ∧ w = w' := by
  refine Ret_enter Tryz.func139 rfl rfl rfl ?_
  repeat' (first | apply Jbq | apply Jbr | apply Jbs | apply Jbt | (apply Jcg; (first | exact Jaa rfl | exact Jab rfl | exact Jaj rfl | exact Jaq Us.h rfl); exact rfl) | (refine TL_call rfl en101 (in_c _ _ _ _) rfl rfl ?_; rintro _ _ ⟨rfl, rfl⟩))
  by_cases h : 1 ≤ s.length ∧ s.length ≤ 12
  · rw [show inB (s.length : Int) 1 12 = true from by simp [inB]; omega]
    repeat' (first | apply Jbq | apply Jbr | apply Jbs | apply Jbt | apply Jby | apply Jbz | (refine Jcf rfl ?_) | (apply Jcg; exact Jab rfl; exact rfl))
    refine TC_loop (ι := Nat) (fun k => [(0, S s), (3, I k)]) (fun k w' => k ≤ s.length ∧ (s.take k).all okByte = true ∧ w = w') (fun k => s.length - k) 0 (subEnv_cons rfl (subEnv_cons rfl (subEnv_nil _))) ⟨Nat.zero_le _, by simp, rfl⟩ ?_
    rintro k _ ⟨hk, hall, rfl⟩
    by_cases hlt : k < s.length
    · have ht := okTake hlt
      repeat' (first | apply Jbq | apply Jbr | apply Jbs | apply Jbt | (apply Jcg; (first | exact Jaa rfl | exact Jad rfl rfl | exact Jaq Us.h rfl); exact rfl))
      refine Jce (by rw [show decide ((k : Int) < (s.length : Int)) = true from by simpa using hlt]; rfl) ?_
      have hcb : (0 : Int) ≤ ((at8 s k).toNat : Int) ∧ ((at8 s k).toNat : Int) ≤ 255 := by have := (at8 s k).toNat_lt; omega
      repeat' (first | apply Jbq | apply Jbr | apply Jbs | apply Jbt | apply Jby | apply Jbz | (apply Jcg; (first | exact Jaa rfl | exact Jaj rfl | exact Jax Us.h Us.h rfl (by omega) | exact Jbb Us.h rfl rfl (by omega)); exact rfl) | (refine TL_call rfl en171 (isLower_c _ _) rfl rfl ?_; rintro _ _ ⟨rfl, rfl⟩))
      cases hb : inB ((at8 s k).toNat : Int) 97 122
      · repeat' (first | apply Jbq | apply Jbr | apply Jbs | apply Jbt | apply Jbu | apply Jbv | apply Jbw | (refine Jce rfl ?_) | (apply Jcg; exact Jab rfl; exact rfl))
        exact TR_of (res1 rfl rfl) ⟨boolv (by have := okBad hlt (by simpa [okByte, inB] using hb); simp [pName, this]), rfl⟩
      · repeat' (first | apply Jbq | apply Jbr | apply Jbt | apply Jbx | apply Jbz | (refine Jcf rfl ?_) | (apply Jcg; (first | exact Jaa rfl | exact Jab rfl | exact Jaf rfl rfl (by omega)); exact rfl))
        exact TN_round (k + 1) (subEnv_cons rfl (subEnv_cons rfl (subEnv_nil _))) ⟨hlt, by rw [ht, hall]; simpa [okByte, inB] using hb, rfl⟩ (by omega)
    · obtain rfl : k = s.length := by omega
      repeat' (first | apply Jbq | apply Jbr | apply Jbs | apply Jbt | (apply Jcg; (first | exact Jaa rfl | exact Jad rfl rfl | exact Jaq Us.h rfl); exact rfl))
      refine Jcf (by rw [show decide ((s.length : Int) < (s.length : Int)) = false from by simp]; rfl) ?_
      repeat' (first | apply Jbq | apply Jbr | apply Jbs | apply Jbt | apply Jbu | apply Jca | apply Jcb | apply Jcc | (apply Jcg; exact Jab rfl; exact rfl))
      exact TR_of (res1 rfl rfl) ⟨boolv (by rw [List.take_length] at hall; simp [pName, hall, h]), rfl⟩
  · have hp : pName s = false := by simp [pName]; omega
    rw [show inB (s.length : Int) 1 12 = false from by simp [inB]; omega]
    repeat' (first | apply Jbq | apply Jbr | apply Jbs | apply Jbt | apply Jbu | apply Jbv | (refine Jce rfl ?_) | (apply Jcg; exact Jab rfl; exact rfl))
    exact TR_of (res1 rfl rfl) ⟨by rw [hp], rfl⟩
theorem specEntryOk_c (num : Int) (s : List UInt8) (w : World) : Ret Tryz.prog 165 #[.agg #[I num, S s]] w fun v w' => v = .bool (pEntry num s) ∧ Ext w w' := by
  refine Ret_enter Tryz.func165 rfl rfl rfl ?_
  repeat' (first | apply Jbs | apply Jbt)
  refine TL_box (cs := [I num, S s]) rfl rfl ?_
  intro w1 g e1 hg hz hbk
  clear hg hz
  repeat' (first | apply Jbq | apply Jbr | apply Jbs | apply Jbt | apply Jbu | (apply Jcg; (first | exact Jaa rfl | exact Jab rfl | exact Jah rfl rfl | exact Jai rfl rfl | exact Jan rfl rfl | exact Jao rfl rfl | exact Jaq Us.h rfl | (apply Jbl; exact Us.h; exact rfl; exact Sz.h; exact rfl)); exact rfl) | refine Jch rfl rfl rfl ?_ | refine Jci rfl rfl rfl rfl rfl ?_ | refine Jcg (Pu_load Fl.h rfl (fun _ e => by rw [e]; exact hbk.ld rfl)) rfl ?_ | (refine Jcs rfl rfl (fun hb => ?_) (fun hb => ?_) <;> (try (exfalso; omega))))
  all_goals (refine TR_of (res1 rfl rfl) ⟨boolv ?_, e1⟩; clear hbk e1; simp [pEntry]; try omega)
theorem implEntryOk_c (num : Int) (s : List UInt8) (w : World) : Ret Tryz.prog 155 #[.agg #[I num, S s]] w fun v w' => v = .bool (pEntry num s) ∧ Ext w w' := by
  refine Ret_enter Tryz.func155 rfl rfl rfl ?_
  repeat' (first | apply Jbs | apply Jbt)
  refine TL_box (cs := [I num, S s]) rfl rfl ?_
  intro w1 g e1 hg hz hbk
  clear hg hz
  repeat' (first | apply Jbq | apply Jbr | apply Jbs | apply Jbt | apply Jbu | (apply Jcg; (first | exact Jaa rfl | exact Jab rfl | exact Jah rfl rfl | exact Jai rfl rfl | exact Jaq Us.h rfl | (apply Jbl; exact Us.h; exact rfl; exact Sz.h; exact rfl)); exact rfl) | refine Jch rfl rfl rfl ?_ | refine Jci rfl rfl rfl rfl rfl ?_ | refine Jcg (Pu_load Fl.h rfl (fun _ e => by rw [e]; exact hbk.ld rfl)) rfl ?_ | (refine TL_call rfl en101 (in_c _ _ _ _) rfl rfl ?_; rintro _ _ ⟨rfl, rfl⟩) | (refine Jcs rfl rfl (fun hb => ?_) (fun hb => ?_) <;> (try (exfalso; omega))))
  all_goals (refine TR_of (res1 rfl rfl) ⟨boolv ?_, e1⟩; clear hbk e1; simp_all [pEntry, inB])
  all_goals omega
end Go.Proofs.YtggaghghclomkaaGreat

/- Nodes, links and turns of a disk that can be read, and the laws' helpers on them. -/
namespace Go.Proofs.YtggaghghclomkaaGreat
open Go.RowKit
attribute [local irreducible] TL TC TN TX TR TQ TA Pu Ret

theorem setL_app : ∀ (us ys zs : List Value) (o : Nat), ys.length = o → us.length ≤ zs.length → setL (ys ++ zs) o us = ys ++ us ++ zs.drop us.length
  | [], ys, zs, o, _, _ => by simp [setL]
  | v :: r, ys, [], o, _, h => by simp at h
  | v :: r, ys, z :: zs, o, ho, h => by
    subst ho
    rw [setL, List.set_append_right _ _ (Nat.le_refl _), Nat.sub_self, List.set_cons_zero, show ys ++ v :: zs = (ys ++ [v]) ++ zs by simp, setL_app r (ys ++ [v]) zs _ (by simp) (by simpa using h)]
    simp
/-- A node's value: its contents and the slices that bear them. -/
structure Nd where
  id : Int
  body : List UInt8
  safe : List UInt8
  vb : Value
  vs : Value
abbrev NodeP := Int × List UInt8 × List UInt8
def NdC (d : Nd) : List Value := [I d.id, d.vb, d.vs]
def NdP (d : Nd) : NodeP := (d.id, d.body, d.safe)
def NdOk (w : World) (lo hi : Nat) (d : Nd) : Prop := RB w lo hi d.vb d.body ∧ RB w lo hi d.vs d.safe
def NdW (p : NodeP) : Int := p.2.1.length + p.2.2.length
def NdFit (p : NodeP) : Prop := p.2.1.length ≤ 9223372036854775807 ∧ p.2.2.length ≤ 9223372036854775807
structure LkD where
  name : List UInt8
  id : Int
abbrev LinkP := LkD
def LkC (d : LkD) : List Value := [S d.name, I d.id]
def LkP (d : LkD) : LinkP := d
def LkOk (_w : World) (_lo _hi : Nat) (_d : LkD) : Prop := True
def LkW (p : LinkP) : Int := p.name.length
def LkFit (p : LinkP) : Prop := p.name.length ≤ 9223372036854775807 ∧ (-9223372036854775808 ≤ p.id ∧ p.id ≤ 9223372036854775807)
structure TnD where
  kind : Int
  name : List UInt8
  to : List UInt8
  id : Int
abbrev TurnP := TnD
def TnC (d : TnD) : List Value := [I d.kind, S d.name, S d.to, I d.id]
def TnP (d : TnD) : TurnP := d
def TnOk (_w : World) (_lo _hi : Nat) (_d : TnD) : Prop := True
def TnW (p : TurnP) : Int := p.name.length + p.to.length
def TnFit (p : TurnP) : Prop := p.name.length ≤ 9223372036854775807 ∧ p.to.length ≤ 9223372036854775807 ∧ (-9223372036854775808 ≤ p.id ∧ p.id ≤ 9223372036854775807)
theorem NdOk.ch {w w' : World} {lo hi : Nat} {d : Nd} {T : Nat → Prop} (h : NdOk w lo hi d) (c : Ch T w w') (hd : ∀ k, lo ≤ k → k < hi → ¬ T k) : NdOk w' lo hi d := ⟨h.1.ch c hd, h.2.ch c hd⟩
theorem LkOk.ch {w w' : World} {lo hi : Nat} {d : LkD} {T : Nat → Prop} (_h : LkOk w lo hi d) (_c : Ch T w w') (_hd : ∀ k, lo ≤ k → k < hi → ¬ T k) : LkOk w' lo hi d := trivial
theorem TnOk.ch {w w' : World} {lo hi : Nat} {d : TnD} {T : Nat → Prop} (_h : TnOk w lo hi d) (_c : Ch T w w') (_hd : ∀ k, lo ≤ k → k < hi → ¬ T k) : TnOk w' lo hi d := trivial
theorem RB.wide {w : World} {lo hi lo' hi' : Nat} {v : Value} {s : List UInt8} (h : RB w lo hi v s) (h1 : lo' ≤ lo) (h2 : hi ≤ hi') (h3 : hi' ≤ w.heap.size) : RB w lo' hi' v s := by
  obtain ⟨A, c, e, hc, hr⟩ := h
  exact ⟨A, c, e, hc, hr.wide h1 h2 h3⟩
theorem NdOk.wide {w : World} {lo hi lo' hi' : Nat} {d : Nd} (h : NdOk w lo hi d) (h1 : lo' ≤ lo) (h2 : hi ≤ hi') (h3 : hi' ≤ w.heap.size) : NdOk w lo' hi' d := ⟨h.1.wide h1 h2 h3, h.2.wide h1 h2 h3⟩
theorem LkOk.wide {w : World} {lo hi lo' hi' : Nat} {d : LkD} (_h : LkOk w lo hi d) (_h1 : lo' ≤ lo) (_h2 : hi ≤ hi') (_h3 : hi' ≤ w.heap.size) : LkOk w lo' hi' d := trivial
theorem TnOk.wide {w : World} {lo hi lo' hi' : Nat} {d : TnD} (_h : TnOk w lo hi d) (_h1 : lo' ≤ lo) (_h2 : hi ≤ hi') (_h3 : hi' ≤ w.heap.size) : TnOk w lo' hi' d := trivial
theorem RB.one {w : World} {lo hi : Nat} {v : Value} {s : List UInt8} (h : RB w lo hi v s) : v.oneCell' = true := by obtain ⟨A, c, rfl, _⟩ := h; rfl
theorem NdOk.one {w : World} {lo hi : Nat} {d : Nd} (h : NdOk w lo hi d) : (NdC d).all (·.oneCell') = true := by
  simp only [NdC, List.all_cons, List.all_nil, h.1.one, h.2.one]; rfl
theorem LkOk.one {w : World} {lo hi : Nat} {d : LkD} (_h : LkOk w lo hi d) : (LkC d).all (·.oneCell') = true := rfl
theorem TnOk.one {w : World} {lo hi : Nat} {d : TnD} (_h : TnOk w lo hi d) : (TnC d).all (·.oneCell') = true := rfl
theorem szByteS_n {w : World} {lo hi : Nat} {v : Value} {s : List UInt8} {left : Int} (h : RB w lo hi v s) (h0 : -1 ≤ left) (h1 : left ≤ 1048576) (hl : s.length ≤ 9223372036854775807) :
    Ret Tryz.prog 81 #[v, I left] w fun v w' => (v = I (-1) ∨ (v = I (left - s.length) ∧ s.length ≤ left)) ∧ w = w' := by
  obtain ⟨A, c, rfl, _, hr⟩ := h
  refine Ret_enter Tryz.func81 rfl rfl rfl ?_
  repeat' (first | apply Jbq | apply Jbr | apply Jbs | apply Jbt | apply Jbu | apply Jbv | apply Jbz | (apply Jcg; (first | exact Jaa rfl | exact Jab rfl | exact Jac Us.h rfl | exact Jad rfl rfl | exact Jap rfl rfl (by omega)); exact rfl) | (refine Jcx rfl (fun hb => ?_) (fun hb => ?_) <;> (try (exfalso; omega))))
  · exact TR_of (res1 rfl rfl) ⟨.inl rfl, rfl⟩
  · exact TR_of (res1 rfl rfl) ⟨.inr ⟨rfl, by omega⟩, rfl⟩
theorem szNode_c {w : World} {lo hi : Nat} {d : Nd} {left : Int} (h : NdOk w lo hi d) (hf : NdFit (NdP d)) (h0 : 0 ≤ left) (h1 : left ≤ 1048576) :
    Ret Tryz.prog 128 #[.agg (NdC d).toArray, I left] w fun v w' => (v = I (-1) ∨ (v = I (left - NdW (NdP d)) ∧ NdW (NdP d) ≤ left)) ∧ Ext w w' := by
  refine Ret_enter Tryz.func128 rfl rfl rfl ?_
  repeat' (first | apply Jbs | apply Jbt)
  refine TL_box (cs := NdC d) rfl rfl ?_
  intro w1 g e1 hg hz hbk
  clear hg hz
  repeat' (first | apply Jbq | apply Jbr | apply Jbs | apply Jbt | (apply Jcg; (first | exact Jaa rfl | exact Jab rfl | (apply Jbl; exact Us.h; exact rfl; exact Sz.h; exact rfl)); exact rfl) | refine Jcg (Pu_load Fl.h rfl (fun _ e => by rw [e]; exact hbk.ld rfl)) rfl ?_)
  refine TL_call rfl en81 (szByteS_n (h.1.ext e1) (by omega) h1 hf.1) rfl rfl ?_
  rintro _ _ ⟨h2, rfl⟩
  rcases h2 with rfl | ⟨rfl, hle⟩
  · repeat' (first | apply Jbq | apply Jbr | apply Jbs | apply Jbt | apply Jbu | apply Jbv | (refine Jce rfl ?_) | (apply Jcg; (first | exact Jaa rfl | exact Jab rfl | exact Jad rfl rfl); exact rfl))
    exact TR_of (res1 rfl rfl) ⟨.inl rfl, e1⟩
  · repeat' (first | apply Jbq | apply Jbr | apply Jbs | apply Jbt | apply Jbz | (apply Jcg; (first | exact Jaa rfl | exact Jab rfl | exact Jad rfl rfl | (apply Jbl; exact Us.h; exact rfl; exact Sz.h; exact rfl)); exact rfl) | refine Jcg (Pu_load Fl.h rfl (fun _ e => by rw [e]; exact hbk.ld rfl)) rfl ?_ | (refine Jcx rfl (fun hb => ?_) (fun hb => ?_) <;> (try (exfalso; omega))))
    refine TL_call rfl en81 (szByteS_n (h.2.ext e1) (by omega) (by omega) hf.2) rfl rfl ?_
    rintro _ _ ⟨h2, rfl⟩
    rcases h2 with rfl | ⟨rfl, hle2⟩
    · repeat' (first | apply Jbq | apply Jbr | apply Jbs | apply Jbt | apply Jbu | apply Jbv | (refine Jce rfl ?_) | (apply Jcg; (first | exact Jaa rfl | exact Jab rfl | exact Jad rfl rfl); exact rfl))
      exact TR_of (res1 rfl rfl) ⟨.inl rfl, e1⟩
    · repeat' (first | apply Jbq | apply Jbr | apply Jbs | apply Jbt | apply Jbu | apply Jbz | (apply Jcg; (first | exact Jaa rfl | exact Jab rfl | exact Jad rfl rfl); exact rfl) | (refine Jcx rfl (fun hb => ?_) (fun hb => ?_) <;> (try (exfalso; omega))))
      exact TR_of (res1 rfl rfl) ⟨.inr ⟨congrArg I (by simp only [NdW, NdP]; omega), by simp only [NdW, NdP]; omega⟩, e1⟩
theorem szLink_c {w : World} {lo hi : Nat} {d : LkD} {left : Int} (_h : LkOk w lo hi d) (hf : LkFit (LkP d)) (h0 : 0 ≤ left) (h1 : left ≤ 1048576) :
    Ret Tryz.prog 129 #[.agg (LkC d).toArray, I left] w fun v w' => (v = I (-1) ∨ (v = I (left - LkW (LkP d)) ∧ LkW (LkP d) ≤ left)) ∧ Ext w w' := by
  have hf : d.name.length ≤ 9223372036854775807 := hf.1
  refine Ret_enter Tryz.func129 rfl rfl rfl ?_
  repeat' (first | apply Jbs | apply Jbt)
  refine TL_box (cs := LkC d) rfl rfl ?_
  intro w1 g e1 hg hz hbk
  clear hg hz
  repeat' (first | apply Jbq | apply Jbr | apply Jbs | apply Jbt | apply Jbu | apply Jbv | apply Jbz | (apply Jcg; (first | exact Jaa rfl | exact Jab rfl | exact Jad rfl rfl | exact Jap rfl rfl (by omega) | exact Jaq Us.h rfl | (apply Jbl; exact Us.h; exact rfl; exact Sz.h; exact rfl)); exact rfl) | refine Jcg (Pu_load Fl.h rfl (fun _ e => by rw [e]; exact hbk.ld rfl)) rfl ?_ | (refine Jcx rfl (fun hb => ?_) (fun hb => ?_) <;> (try (exfalso; omega))))
  · exact TR_of (res1 rfl rfl) ⟨.inl rfl, e1⟩
  · exact TR_of (res1 rfl rfl) ⟨.inr ⟨rfl, by simp only [LkW, LkP]; omega⟩, e1⟩
theorem szTurn_c {w : World} {lo hi : Nat} {d : TnD} {left : Int} (_h : TnOk w lo hi d) (hf : TnFit (TnP d)) (h0 : 0 ≤ left) (h1 : left ≤ 1048576) :
    Ret Tryz.prog 130 #[.agg (TnC d).toArray, I left] w fun v w' => (v = I (-1) ∨ (v = I (left - TnW (TnP d)) ∧ TnW (TnP d) ≤ left)) ∧ Ext w w' := by
  have hf1 : d.name.length ≤ 9223372036854775807 := hf.1
  have hf2 : d.to.length ≤ 9223372036854775807 := hf.2.1
  refine Ret_enter Tryz.func130 rfl rfl rfl ?_
  repeat' (first | apply Jbs | apply Jbt)
  refine TL_box (cs := TnC d) rfl rfl ?_
  intro w1 g e1 hg hz hbk
  clear hg hz
  repeat' (first | apply Jbq | apply Jbr | apply Jbs | apply Jbt | apply Jbu | apply Jbv | apply Jbz | (apply Jcg; (first | exact Jaa rfl | exact Jab rfl | exact Jad rfl rfl | exact Jap rfl rfl (by omega) | exact Jaq Us.h rfl | (apply Jbl; exact Us.h; exact rfl; exact Sz.h; exact rfl)); exact rfl) | refine Jcg (Pu_load Fl.h rfl (fun _ e => by rw [e]; exact hbk.ld rfl)) rfl ?_ | (refine Jcx rfl (fun hb => ?_) (fun hb => ?_) <;> (try (exfalso; omega))))
  · exact TR_of (res1 rfl rfl) ⟨.inl rfl, e1⟩
  · exact TR_of (res1 rfl rfl) ⟨.inl rfl, e1⟩
  · exact TR_of (res1 rfl rfl) ⟨.inr ⟨congrArg I (by simp only [TnW, TnP]; omega), by simp only [TnW, TnP]; omega⟩, e1⟩
set_option maxHeartbeats 1000000 in
theorem toLink_c {w : World} {lo hi : Nat} {d : LkD} (_h : LkOk w lo hi d) (_hl : LkW (LkP d) ≤ 1048576) :
    Ret Tryz.prog 137 #[.agg (LkC d).toArray] w fun v' w' => ∃ d', v' = .agg (LkC d').toArray ∧ LkP d' = LkP d ∧ Ext w w' ∧ LkOk w' w.heap.size w'.heap.size d' := by
  refine Ret_enter Tryz.func137 rfl rfl rfl ?_
  repeat' (first | apply Jbs | apply Jbt)
  refine TL_box (cs := LkC d) rfl rfl ?_
  intro w1 g1 e1 hg1 hz1 hb1
  skip
  refine TL_alloc Zs.h rfl rfl ?_
  intro w2 g2 e2 hg2 hz2 hb2
  replace hb1 := hb1.ext e2
  repeat' (first | apply Jbq | apply Jbr | apply Jbs | apply Jbt)
  refine TL_alloc Zs.h rfl rfl ?_
  intro w3 g3 e3 hg3 hz3 hb3
  replace hb1 := hb1.ext e3
  replace hb2 := hb2.ext e3
  have E : Ext w w3 := (e1.ext e2).ext e3
  have hgw : w.heap.size ≤ g1 ∧ g1 < g2 ∧ g2 < g3 := by omega
  clear hg1 hg2 hg3 e1 e2 e3 hz1 hz2 hz3
  repeat' (first | apply Jbq | apply Jbr | apply Jbs | apply Jbt | (apply Jcg; (apply Jbl; exact Us.h; exact rfl; exact Sz.h; exact rfl); exact rfl) | refine Jcg (Pu_load Fl.h rfl (fun _ e => by rw [e]; exact hb1.ld rfl)) rfl ?_)
  refine TL_store rfl rfl Sz.h rfl hb3 rfl ?_
  clear hb3
  intro w4 c4 hz4 hb3
  replace hb1 := hb1.ch c4 (by simp only [Iv]; omega)
  replace hb2 := hb2.ch c4 (by simp only [Iv]; omega)
  replace E : Ext w w4 := Ext.then_iv E c4 (by omega)
  repeat' (first | apply Jbq | apply Jbr | apply Jbs | apply Jbt | (apply Jcg; (apply Jbl; exact Us.h; exact rfl; exact Sz.h; exact rfl); exact rfl) | refine Jcg (Pu_load Fl.h rfl (fun _ e => by rw [e]; exact hb1.ld rfl)) rfl ?_)
  refine TL_store rfl rfl Sz.h rfl hb3 rfl ?_
  clear hb3
  intro w5 c5 hz5 hb3
  replace hb1 := hb1.ch c5 (by simp only [Iv]; omega)
  replace hb2 := hb2.ch c5 (by simp only [Iv]; omega)
  replace E : Ext w w5 := Ext.then_iv E c5 (by omega)
  repeat' (first | apply Jbq | apply Jbr | apply Jbs | apply Jbt)
  refine Jcg (Pu_loadAgg (cs := LkC d) Us.h rfl Sz.h rfl (fun _ e j u hu => by rw [e, add0, hb3.cell]; exact hu)) rfl ?_
  skip
  refine TL_storeAgg rfl rfl Sz.h rfl hb2 rfl ?_
  clear hb2
  intro w6 c6 hz6 hb2
  repeat' (first | apply Jbq | apply Jbr | apply Jbu)
  exact TR_of (resA rfl rfl hb2 Us.h rfl Sz.h) ⟨d, rfl, rfl, Ext.then_iv E c6 (by omega), trivial⟩
set_option maxHeartbeats 1000000 in
theorem toTurn_c {w : World} {lo hi : Nat} {d : TnD} (_h : TnOk w lo hi d) (_hl : TnW (TnP d) ≤ 1048576) :
    Ret Tryz.prog 138 #[.agg (TnC d).toArray] w fun v' w' => ∃ d', v' = .agg (TnC d').toArray ∧ TnP d' = TnP d ∧ Ext w w' ∧ TnOk w' w.heap.size w'.heap.size d' := by
  refine Ret_enter Tryz.func138 rfl rfl rfl ?_
  repeat' (first | apply Jbs | apply Jbt)
  refine TL_box (cs := TnC d) rfl rfl ?_
  intro w1 g1 e1 hg1 hz1 hb1
  skip
  refine TL_alloc Zs.h rfl rfl ?_
  intro w2 g2 e2 hg2 hz2 hb2
  replace hb1 := hb1.ext e2
  repeat' (first | apply Jbq | apply Jbr | apply Jbs | apply Jbt)
  refine TL_alloc Zs.h rfl rfl ?_
  intro w3 g3 e3 hg3 hz3 hb3
  replace hb1 := hb1.ext e3
  replace hb2 := hb2.ext e3
  have E : Ext w w3 := (e1.ext e2).ext e3
  have hgw : w.heap.size ≤ g1 ∧ g1 < g2 ∧ g2 < g3 := by omega
  clear hg1 hg2 hg3 e1 e2 e3 hz1 hz2 hz3
  repeat' (first | apply Jbq | apply Jbr | apply Jbs | apply Jbt | (apply Jcg; (apply Jbl; exact Us.h; exact rfl; exact Sz.h; exact rfl); exact rfl) | refine Jcg (Pu_load Fl.h rfl (fun _ e => by rw [e]; exact hb1.ld rfl)) rfl ?_)
  refine TL_store rfl rfl Sz.h rfl hb3 rfl ?_
  clear hb3
  intro w4 c4 hz4 hb3
  replace hb1 := hb1.ch c4 (by simp only [Iv]; omega)
  replace hb2 := hb2.ch c4 (by simp only [Iv]; omega)
  replace E : Ext w w4 := Ext.then_iv E c4 (by omega)
  repeat' (first | apply Jbq | apply Jbr | apply Jbs | apply Jbt | (apply Jcg; (apply Jbl; exact Us.h; exact rfl; exact Sz.h; exact rfl); exact rfl) | refine Jcg (Pu_load Fl.h rfl (fun _ e => by rw [e]; exact hb1.ld rfl)) rfl ?_)
  refine TL_store rfl rfl Sz.h rfl hb3 rfl ?_
  clear hb3
  intro w5 c5 hz5 hb3
  replace hb1 := hb1.ch c5 (by simp only [Iv]; omega)
  replace hb2 := hb2.ch c5 (by simp only [Iv]; omega)
  replace E : Ext w w5 := Ext.then_iv E c5 (by omega)
  repeat' (first | apply Jbq | apply Jbr | apply Jbs | apply Jbt | (apply Jcg; (apply Jbl; exact Us.h; exact rfl; exact Sz.h; exact rfl); exact rfl) | refine Jcg (Pu_load Fl.h rfl (fun _ e => by rw [e]; exact hb1.ld rfl)) rfl ?_)
  refine TL_store rfl rfl Sz.h rfl hb3 rfl ?_
  clear hb3
  intro w6 c6 hz6 hb3
  replace hb1 := hb1.ch c6 (by simp only [Iv]; omega)
  replace hb2 := hb2.ch c6 (by simp only [Iv]; omega)
  replace E : Ext w w6 := Ext.then_iv E c6 (by omega)
  repeat' (first | apply Jbq | apply Jbr | apply Jbs | apply Jbt | (apply Jcg; (apply Jbl; exact Us.h; exact rfl; exact Sz.h; exact rfl); exact rfl) | refine Jcg (Pu_load Fl.h rfl (fun _ e => by rw [e]; exact hb1.ld rfl)) rfl ?_)
  refine TL_store rfl rfl Sz.h rfl hb3 rfl ?_
  clear hb3
  intro w7 c7 hz7 hb3
  replace hb1 := hb1.ch c7 (by simp only [Iv]; omega)
  replace hb2 := hb2.ch c7 (by simp only [Iv]; omega)
  replace E : Ext w w7 := Ext.then_iv E c7 (by omega)
  repeat' (first | apply Jbq | apply Jbr | apply Jbs | apply Jbt)
  refine Jcg (Pu_loadAgg (cs := TnC d) Us.h rfl Sz.h rfl (fun _ e j u hu => by rw [e, add0, hb3.cell]; exact hu)) rfl ?_
  skip
  refine TL_storeAgg rfl rfl Sz.h rfl hb2 rfl ?_
  clear hb2
  intro w8 c8 hz8 hb2
  repeat' (first | apply Jbq | apply Jbr | apply Jbu)
  exact TR_of (resA rfl rfl hb2 Us.h rfl Sz.h) ⟨d, rfl, rfl, Ext.then_iv E c8 (by omega), trivial⟩
set_option maxHeartbeats 1000000 in
theorem toNode_c {w : World} {lo hi : Nat} {d : Nd} (h : NdOk w lo hi d) (hl : NdW (NdP d) ≤ 1048576) :
    Ret Tryz.prog 136 #[.agg (NdC d).toArray] w fun v' w' => ∃ d', v' = .agg (NdC d').toArray ∧ NdP d' = NdP d ∧ Ext w w' ∧ NdOk w' w.heap.size w'.heap.size d' := by
  obtain ⟨id, body, safe, vb, vs⟩ := d
  simp only [NdW, NdP] at hl
  refine Ret_enter Tryz.func136 rfl rfl rfl ?_
  repeat' (first | apply Jbs | apply Jbt)
  refine TL_box (cs := NdC ⟨id, body, safe, vb, vs⟩) rfl rfl ?_
  intro w1 g1 e1 hg1 hz1 hb1
  skip
  refine TL_alloc Zs.h rfl rfl ?_
  intro w2 g2 e2 hg2 hz2 hb2
  replace hb1 := hb1.ext e2
  repeat' (first | apply Jbq | apply Jbr | apply Jbs | apply Jbt)
  refine TL_alloc Zs.h rfl rfl ?_
  intro w3 g3 e3 hg3 hz3 hb3
  replace hb1 := hb1.ext e3
  replace hb2 := hb2.ext e3
  have E : Ext w w3 := (e1.ext e2).ext e3
  have hgw : w.heap.size ≤ g1 ∧ g1 < g2 ∧ g2 < g3 := by omega
  clear hg1 hg2 hg3 e1 e2 e3 hz1 hz2 hz3
  repeat' (first | apply Jbq | apply Jbr | apply Jbs | apply Jbt | (apply Jcg; (apply Jbl; exact Us.h; exact rfl; exact Sz.h; exact rfl); exact rfl) | refine Jcg (Pu_load Fl.h rfl (fun _ e => by rw [e]; exact hb1.ld rfl)) rfl ?_)
  refine TL_store rfl rfl Sz.h rfl hb3 rfl ?_
  clear hb3
  intro w4 c4 hz4 hb3
  replace hb1 := hb1.ch c4 (by simp only [Iv]; omega)
  replace hb2 := hb2.ch c4 (by simp only [Iv]; omega)
  replace E : Ext w w4 := Ext.then_iv E c4 (by omega)
  have hlt := hb3.lt
  repeat' (first | apply Jbq | apply Jbr | apply Jbs | apply Jbt | (apply Jcg; (apply Jbl; exact Us.h; exact rfl; exact Sz.h; exact rfl); exact rfl) | refine Jcg (Pu_load Fl.h rfl (fun _ e => by rw [e]; exact hb1.ld rfl)) rfl ?_)
  refine TL_call rfl en91 (toB_k (h.1.ext E) (by simp only; omega)) rfl rfl ?_
  intro vb2 w5 ⟨e5, ho5⟩
  replace hb1 := hb1.ext e5
  replace hb2 := hb2.ext e5
  replace hb3 := hb3.ext e5
  have hs4 := E.size
  have hs5 := e5.size
  replace E := E.ext e5
  have hone5 := ho5.rd.one
  repeat' ((apply Jcg; (apply Jbl; exact Us.h; exact rfl; exact Sz.h; exact rfl); exact rfl))
  refine TL_store rfl rfl Sz.h hone5 hb3 rfl ?_
  clear hb3
  intro w6 c6 hz6 hb3
  replace hb1 := hb1.ch c6 (by simp only [Iv]; omega)
  replace hb2 := hb2.ch c6 (by simp only [Iv]; omega)
  replace ho5 := ho5.ch c6 (by intro k _ _; simp only [Iv]; omega)
  replace E : Ext w w6 := Ext.then_iv E c6 (by omega)
  repeat' (first | apply Jbq | apply Jbr | apply Jbs | apply Jbt | (apply Jcg; (apply Jbl; exact Us.h; exact rfl; exact Sz.h; exact rfl); exact rfl) | refine Jcg (Pu_load Fl.h rfl (fun _ e => by rw [e]; exact hb1.ld rfl)) rfl ?_)
  refine TL_call rfl en91 (toB_k (h.2.ext E) (by simp only; omega)) rfl rfl ?_
  intro vs2 w7 ⟨e7, ho7⟩
  replace hb2 := hb2.ext e7
  replace hb3 := hb3.ext e7
  replace ho5 := ho5.ext e7
  have hs7 := e7.size
  replace E := E.ext e7
  have hone7 := ho7.rd.one
  repeat' ((apply Jcg; (apply Jbl; exact Us.h; exact rfl; exact Sz.h; exact rfl); exact rfl))
  refine TL_store rfl rfl Sz.h hone7 hb3 rfl ?_
  clear hb3
  intro w8 c8 hz8 hb3
  replace hb2 := hb2.ch c8 (by simp only [Iv]; omega)
  replace ho5 := ho5.ch c8 (by intro k _ _; simp only [Iv]; omega)
  replace ho7 := ho7.ch c8 (by intro k _ _; simp only [Iv]; omega)
  replace E : Ext w w8 := Ext.then_iv E c8 (by omega)
  repeat' (first | apply Jbq | apply Jbr | apply Jbs | apply Jbt)
  refine Jcg (Pu_loadAgg (cs := NdC ⟨id, body, safe, vb2, vs2⟩) Us.h rfl Sz.h rfl (fun _ e j u hu => by rw [e, add0, hb3.cell]; exact hu)) rfl ?_
  skip
  refine TL_storeAgg rfl rfl Sz.h (by show ((NdC ⟨id, body, safe, vb2, vs2⟩).all (·.oneCell')) = true; simp only [NdC, List.all_cons, List.all_nil, hone5, hone7]; rfl) hb2 rfl ?_
  clear hb2
  intro w9 c9 hz9 hb2
  replace ho5 := ho5.ch c9 (by intro k _ _; simp only [Iv]; omega)
  replace ho7 := ho7.ch c9 (by intro k _ _; simp only [Iv]; omega)
  repeat' (first | apply Jbq | apply Jbr | apply Jbu)
  exact TR_of (resA rfl rfl hb2 Us.h rfl Sz.h) ⟨⟨id, body, safe, vb2, vs2⟩, rfl, rfl, Ext.then_iv E c9 (by omega), ho5.rd.wide (by omega) (by omega) (Nat.le_refl _), ho7.rd.wide (by omega) (by omega) (Nat.le_refl _)⟩
theorem eqNode_c {w : World} {lo hi lo2 hi2 : Nat} {d d2 : Nd} (h : NdOk w lo hi d) (h2 : NdOk w lo2 hi2 d2) (hp : NdP d = NdP d2) (hl : NdW (NdP d) ≤ 1048576) :
    Ret Tryz.prog 147 #[.agg (NdC d).toArray, .agg (NdC d2).toArray] w fun v' w' => v' = .bool true ∧ Ext w w' := by
  obtain ⟨id, body, safe, vb, vs⟩ := d
  obtain ⟨id2, body2, safe2, vb2, vs2⟩ := d2
  simp only [NdP, Prod.mk.injEq] at hp
  obtain ⟨rfl, rfl, rfl⟩ := hp
  simp only [NdW, NdP] at hl
  refine Ret_enter Tryz.func147 rfl rfl rfl ?_
  repeat' (first | apply Jbs | apply Jbt)
  refine TL_box (cs := NdC ⟨id, body, safe, vb, vs⟩) rfl rfl ?_
  intro w1 g1 e1 hg1 hz1 hb1
  skip
  refine TL_box (cs := NdC ⟨id, body, safe, vb2, vs2⟩) rfl rfl ?_
  intro w2 g2 e2 hg2 hz2 hb2
  replace hb1 := hb1.ext e2
  have E := e1.ext e2
  repeat' (first | apply Jbq | apply Jbr | apply Jbs | apply Jbt | apply Jbz | (refine Jcf rfl ?_) | (apply Jcg; (first | exact Jbm rfl rfl | exact Jab rfl | (apply Jbl; exact Us.h; exact rfl; exact Sz.h; exact rfl)); exact rfl) | refine Jcg (Pu_load Fl.h rfl (fun _ e => by rw [e]; exact hb1.ld rfl)) rfl ?_ | refine Jcg (Pu_load Fl.h rfl (fun _ e => by rw [e]; exact hb2.ld rfl)) rfl ?_)
  refine TL_call rfl en96 (eqB_k (h.1.ext E) (h2.1.ext E) (by simp only; omega)) rfl rfl ?_
  rintro _ w3 ⟨rfl, e3⟩
  replace hb1 := hb1.ext e3
  replace hb2 := hb2.ext e3
  replace E := E.ext e3
  repeat' (first | apply Jbq | apply Jbr | apply Jbs | apply Jbt | apply Jbz | (refine Jcf rfl ?_) | (apply Jcg; (first | exact Jaj rfl | (apply Jbl; exact Us.h; exact rfl; exact Sz.h; exact rfl)); exact rfl) | refine Jcg (Pu_load Fl.h rfl (fun _ e => by rw [e]; exact hb1.ld rfl)) rfl ?_ | refine Jcg (Pu_load Fl.h rfl (fun _ e => by rw [e]; exact hb2.ld rfl)) rfl ?_)
  refine TL_call rfl en96 (eqB_k (h.2.ext E) (h2.2.ext E) (by simp only; omega)) rfl rfl ?_
  rintro _ w4 ⟨rfl, e4⟩
  repeat' (first | apply Jbq | apply Jbr | apply Jbs | apply Jbt | apply Jbu | apply Jbz | (refine Jcf rfl ?_) | (apply Jcg; (first | exact Jab rfl | exact Jaj rfl); exact rfl))
  exact TR_of (res1 rfl rfl) ⟨rfl, E.ext e4⟩
theorem eqLink_c {w : World} {lo hi lo2 hi2 : Nat} {d d2 : LkD} (_h : LkOk w lo hi d) (_h2 : LkOk w lo2 hi2 d2) (hp : LkP d = LkP d2) (_hl : LkW (LkP d) ≤ 1048576) :
    Ret Tryz.prog 148 #[.agg (LkC d).toArray, .agg (LkC d2).toArray] w fun v' w' => v' = .bool true ∧ Ext w w' := by
  have hp : d = d2 := hp
  subst hp
  refine Ret_enter Tryz.func148 rfl rfl rfl ?_
  repeat' (first | apply Jbs | apply Jbt)
  refine TL_box (cs := LkC d) rfl rfl ?_
  intro w1 g1 e1 hg1 hz1 hb1
  skip
  refine TL_box (cs := LkC d) rfl rfl ?_
  intro w2 g2 e2 hg2 hz2 hb2
  replace hb1 := hb1.ext e2
  repeat' (first | apply Jbq | apply Jbr | apply Jbs | apply Jbt | apply Jbu | apply Jbz | (refine Jcf rfl ?_) | (apply Jcg; (first | exact Jbm rfl rfl | exact Jbo rfl rfl | exact Jab rfl | (apply Jbl; exact Us.h; exact rfl; exact Sz.h; exact rfl)); exact rfl) | refine Jcg (Pu_load Fl.h rfl (fun _ e => by rw [e]; exact hb1.ld rfl)) rfl ?_ | refine Jcg (Pu_load Fl.h rfl (fun _ e => by rw [e]; exact hb2.ld rfl)) rfl ?_)
  exact TR_of (res1 rfl rfl) ⟨rfl, e1.ext e2⟩
theorem eqTurn_c {w : World} {lo hi lo2 hi2 : Nat} {d d2 : TnD} (_h : TnOk w lo hi d) (_h2 : TnOk w lo2 hi2 d2) (hp : TnP d = TnP d2) (_hl : TnW (TnP d) ≤ 1048576) :
    Ret Tryz.prog 149 #[.agg (TnC d).toArray, .agg (TnC d2).toArray] w fun v' w' => v' = .bool true ∧ Ext w w' := by
  have hp : d = d2 := hp
  subst hp
  refine Ret_enter Tryz.func149 rfl rfl rfl ?_
  repeat' (first | apply Jbs | apply Jbt)
  refine TL_box (cs := TnC d) rfl rfl ?_
  intro w1 g1 e1 hg1 hz1 hb1
  skip
  refine TL_box (cs := TnC d) rfl rfl ?_
  intro w2 g2 e2 hg2 hz2 hb2
  replace hb1 := hb1.ext e2
  repeat' (first | apply Jbq | apply Jbr | apply Jbs | apply Jbt | apply Jbu | apply Jbz | (refine Jcf rfl ?_) | (apply Jcg; (first | exact Jbm rfl rfl | exact Jbo rfl rfl | exact Jab rfl | (apply Jbl; exact Us.h; exact rfl; exact Sz.h; exact rfl)); exact rfl) | refine Jcg (Pu_load Fl.h rfl (fun _ e => by rw [e]; exact hb1.ld rfl)) rfl ?_ | refine Jcg (Pu_load Fl.h rfl (fun _ e => by rw [e]; exact hb2.ld rfl)) rfl ?_)
  exact TR_of (res1 rfl rfl) ⟨rfl, e1.ext e2⟩
end Go.Proofs.YtggaghghclomkaaGreat
