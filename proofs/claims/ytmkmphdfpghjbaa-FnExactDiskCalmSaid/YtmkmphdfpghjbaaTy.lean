/- Closed facts on the program's types and functions, each asked of the kernel. -/
import Derived.Test.YtmkmphdfpghjbaaProg
import Derived.Test.YtmkmphdfpghjbaaMake
import Derived.KernelRfl
namespace Go.Proofs.Ytmkmphdfpghjbaa
class Sz (P : Program) (t : TypeId) (n : outParam Nat) : Prop where
  h : (P.info? t).map (·.size) = some n
class Us (P : Program) (t : TypeId) (d : outParam TypeDesc) : Prop where
  h : P.underlying t = some d
@[reducible] def descOf {P : Program} {t : TypeId} {d : TypeDesc} (_ : P.underlying t = some d) : TypeDesc := d
class Inf (P : Program) (t : TypeId) (z : outParam (Option Value)) (s b : outParam Nat) : Prop where
  h : (P.info? t).map (fun i => (i.zero, i.size, i.bytes)) = some (z, s, b)
class Zs (P : Program) (t : TypeId) (z : outParam Value) : Prop where
  h : (P.info? t).bind (·.zero) = some z
class Zi (P : Program) (t : TypeId) (z : outParam (Option Value)) (s : outParam Nat) : Prop where
  h : (P.info? t).map (fun i => (i.zero, i.size)) = some (z, s)
class Fl (P : Program) (t : TypeId) : Prop where
  h : flat P t = true
theorem inf2 : (Try.prog.info? 2).map (fun i => (i.zero, i.size, i.bytes)) = some (some (.int .i64 0), 1, 8) := by kernel_rfl
theorem sz2 : (Try.prog.info? 2).map (·.size) = some 1 := by kernel_rfl
theorem zs2 : (Try.prog.info? 2).bind (·.zero) = some (.int .i64 0) := by kernel_rfl
theorem zi2 : (Try.prog.info? 2).map (fun i => (i.zero, i.size)) = some (some (.int .i64 0), 1) := by kernel_rfl
instance isz2 : Sz Try.prog 2 1 := ⟨sz2⟩
instance iin2 : Inf Try.prog 2 (some (.int .i64 0)) 1 8 := ⟨inf2⟩
instance izs2 : Zs Try.prog 2 (.int .i64 0) := ⟨zs2⟩
instance izi2 : Zi Try.prog 2 (some (.int .i64 0)) 1 := ⟨zi2⟩
theorem inf3 : (Try.prog.info? 3).map (fun i => (i.zero, i.size, i.bytes)) = some (some (.int .i64 0), 1, 8) := by kernel_rfl
theorem sz3 : (Try.prog.info? 3).map (·.size) = some 1 := by kernel_rfl
theorem zs3 : (Try.prog.info? 3).bind (·.zero) = some (.int .i64 0) := by kernel_rfl
theorem zi3 : (Try.prog.info? 3).map (fun i => (i.zero, i.size)) = some (some (.int .i64 0), 1) := by kernel_rfl
instance isz3 : Sz Try.prog 3 1 := ⟨sz3⟩
instance iin3 : Inf Try.prog 3 (some (.int .i64 0)) 1 8 := ⟨inf3⟩
instance izs3 : Zs Try.prog 3 (.int .i64 0) := ⟨zs3⟩
instance izi3 : Zi Try.prog 3 (some (.int .i64 0)) 1 := ⟨zi3⟩
theorem inf4 : (Try.prog.info? 4).map (fun i => (i.zero, i.size, i.bytes)) = some (some (.bool false), 1, 1) := by kernel_rfl
theorem sz4 : (Try.prog.info? 4).map (·.size) = some 1 := by kernel_rfl
theorem zs4 : (Try.prog.info? 4).bind (·.zero) = some (.bool false) := by kernel_rfl
theorem zi4 : (Try.prog.info? 4).map (fun i => (i.zero, i.size)) = some (some (.bool false), 1) := by kernel_rfl
instance isz4 : Sz Try.prog 4 1 := ⟨sz4⟩
instance iin4 : Inf Try.prog 4 (some (.bool false)) 1 1 := ⟨inf4⟩
instance izs4 : Zs Try.prog 4 (.bool false) := ⟨zs4⟩
instance izi4 : Zi Try.prog 4 (some (.bool false)) 1 := ⟨zi4⟩
theorem inf5 : (Try.prog.info? 5).map (fun i => (i.zero, i.size, i.bytes)) = some (some (.int .u8 0), 1, 1) := by kernel_rfl
theorem sz5 : (Try.prog.info? 5).map (·.size) = some 1 := by kernel_rfl
theorem zs5 : (Try.prog.info? 5).bind (·.zero) = some (.int .u8 0) := by kernel_rfl
theorem zi5 : (Try.prog.info? 5).map (fun i => (i.zero, i.size)) = some (some (.int .u8 0), 1) := by kernel_rfl
instance isz5 : Sz Try.prog 5 1 := ⟨sz5⟩
instance iin5 : Inf Try.prog 5 (some (.int .u8 0)) 1 1 := ⟨inf5⟩
instance izs5 : Zs Try.prog 5 (.int .u8 0) := ⟨zs5⟩
instance izi5 : Zi Try.prog 5 (some (.int .u8 0)) 1 := ⟨zi5⟩
theorem inf9 : (Try.prog.info? 9).map (fun i => (i.zero, i.size, i.bytes)) = some (some (.string ByteArray.empty), 1, 16) := by kernel_rfl
theorem sz9 : (Try.prog.info? 9).map (·.size) = some 1 := by kernel_rfl
theorem zs9 : (Try.prog.info? 9).bind (·.zero) = some (.string ByteArray.empty) := by kernel_rfl
theorem zi9 : (Try.prog.info? 9).map (fun i => (i.zero, i.size)) = some (some (.string ByteArray.empty), 1) := by kernel_rfl
instance isz9 : Sz Try.prog 9 1 := ⟨sz9⟩
instance iin9 : Inf Try.prog 9 (some (.string ByteArray.empty)) 1 16 := ⟨inf9⟩
instance izs9 : Zs Try.prog 9 (.string ByteArray.empty) := ⟨zs9⟩
instance izi9 : Zi Try.prog 9 (some (.string ByteArray.empty)) 1 := ⟨zi9⟩
theorem inf15 : (Try.prog.info? 15).map (fun i => (i.zero, i.size, i.bytes)) = some (some (.pointer none), 1, 8) := by kernel_rfl
theorem sz15 : (Try.prog.info? 15).map (·.size) = some 1 := by kernel_rfl
theorem zs15 : (Try.prog.info? 15).bind (·.zero) = some (.pointer none) := by kernel_rfl
theorem zi15 : (Try.prog.info? 15).map (fun i => (i.zero, i.size)) = some (some (.pointer none), 1) := by kernel_rfl
instance isz15 : Sz Try.prog 15 1 := ⟨sz15⟩
instance iin15 : Inf Try.prog 15 (some (.pointer none)) 1 8 := ⟨inf15⟩
instance izs15 : Zs Try.prog 15 (.pointer none) := ⟨zs15⟩
instance izi15 : Zi Try.prog 15 (some (.pointer none)) 1 := ⟨zi15⟩
theorem inf16 : (Try.prog.info? 16).map (fun i => (i.zero, i.size, i.bytes)) = some (some (.pointer none), 1, 8) := by kernel_rfl
theorem sz16 : (Try.prog.info? 16).map (·.size) = some 1 := by kernel_rfl
theorem zs16 : (Try.prog.info? 16).bind (·.zero) = some (.pointer none) := by kernel_rfl
theorem zi16 : (Try.prog.info? 16).map (fun i => (i.zero, i.size)) = some (some (.pointer none), 1) := by kernel_rfl
instance isz16 : Sz Try.prog 16 1 := ⟨sz16⟩
instance iin16 : Inf Try.prog 16 (some (.pointer none)) 1 8 := ⟨inf16⟩
instance izs16 : Zs Try.prog 16 (.pointer none) := ⟨zs16⟩
instance izi16 : Zi Try.prog 16 (some (.pointer none)) 1 := ⟨zi16⟩
theorem inf17 : (Try.prog.info? 17).map (fun i => (i.zero, i.size, i.bytes)) = some (some (.pointer none), 1, 8) := by kernel_rfl
theorem sz17 : (Try.prog.info? 17).map (·.size) = some 1 := by kernel_rfl
theorem zs17 : (Try.prog.info? 17).bind (·.zero) = some (.pointer none) := by kernel_rfl
theorem zi17 : (Try.prog.info? 17).map (fun i => (i.zero, i.size)) = some (some (.pointer none), 1) := by kernel_rfl
instance isz17 : Sz Try.prog 17 1 := ⟨sz17⟩
instance iin17 : Inf Try.prog 17 (some (.pointer none)) 1 8 := ⟨inf17⟩
instance izs17 : Zs Try.prog 17 (.pointer none) := ⟨zs17⟩
instance izi17 : Zi Try.prog 17 (some (.pointer none)) 1 := ⟨zi17⟩
theorem inf22 : (Try.prog.info? 22).map (fun i => (i.zero, i.size, i.bytes)) = some (some (.slice none 0 0), 1, 24) := by kernel_rfl
theorem sz22 : (Try.prog.info? 22).map (·.size) = some 1 := by kernel_rfl
theorem zs22 : (Try.prog.info? 22).bind (·.zero) = some (.slice none 0 0) := by kernel_rfl
theorem zi22 : (Try.prog.info? 22).map (fun i => (i.zero, i.size)) = some (some (.slice none 0 0), 1) := by kernel_rfl
instance isz22 : Sz Try.prog 22 1 := ⟨sz22⟩
instance iin22 : Inf Try.prog 22 (some (.slice none 0 0)) 1 24 := ⟨inf22⟩
instance izs22 : Zs Try.prog 22 (.slice none 0 0) := ⟨zs22⟩
instance izi22 : Zi Try.prog 22 (some (.slice none 0 0)) 1 := ⟨zi22⟩
theorem inf23 : (Try.prog.info? 23).map (fun i => (i.zero, i.size, i.bytes)) = some (some (.slice none 0 0), 1, 24) := by kernel_rfl
theorem sz23 : (Try.prog.info? 23).map (·.size) = some 1 := by kernel_rfl
theorem zs23 : (Try.prog.info? 23).bind (·.zero) = some (.slice none 0 0) := by kernel_rfl
theorem zi23 : (Try.prog.info? 23).map (fun i => (i.zero, i.size)) = some (some (.slice none 0 0), 1) := by kernel_rfl
instance isz23 : Sz Try.prog 23 1 := ⟨sz23⟩
instance iin23 : Inf Try.prog 23 (some (.slice none 0 0)) 1 24 := ⟨inf23⟩
instance izs23 : Zs Try.prog 23 (.slice none 0 0) := ⟨zs23⟩
instance izi23 : Zi Try.prog 23 (some (.slice none 0 0)) 1 := ⟨zi23⟩
theorem inf24 : (Try.prog.info? 24).map (fun i => (i.zero, i.size, i.bytes)) = some (some (.slice none 0 0), 1, 24) := by kernel_rfl
theorem sz24 : (Try.prog.info? 24).map (·.size) = some 1 := by kernel_rfl
theorem zs24 : (Try.prog.info? 24).bind (·.zero) = some (.slice none 0 0) := by kernel_rfl
theorem zi24 : (Try.prog.info? 24).map (fun i => (i.zero, i.size)) = some (some (.slice none 0 0), 1) := by kernel_rfl
instance isz24 : Sz Try.prog 24 1 := ⟨sz24⟩
instance iin24 : Inf Try.prog 24 (some (.slice none 0 0)) 1 24 := ⟨inf24⟩
instance izs24 : Zs Try.prog 24 (.slice none 0 0) := ⟨zs24⟩
instance izi24 : Zi Try.prog 24 (some (.slice none 0 0)) 1 := ⟨zi24⟩
theorem inf26 : (Try.prog.info? 26).map (fun i => (i.zero, i.size, i.bytes)) = some (some (.agg #[.int .i64 0, .int .i64 0, .int .i64 0, .slice none 0 0, .slice none 0 0, .slice none 0 0]), 6, 96) := by kernel_rfl
theorem sz26 : (Try.prog.info? 26).map (·.size) = some 6 := by kernel_rfl
theorem zs26 : (Try.prog.info? 26).bind (·.zero) = some (.agg #[.int .i64 0, .int .i64 0, .int .i64 0, .slice none 0 0, .slice none 0 0, .slice none 0 0]) := by kernel_rfl
theorem zi26 : (Try.prog.info? 26).map (fun i => (i.zero, i.size)) = some (some (.agg #[.int .i64 0, .int .i64 0, .int .i64 0, .slice none 0 0, .slice none 0 0, .slice none 0 0]), 6) := by kernel_rfl
instance isz26 : Sz Try.prog 26 6 := ⟨sz26⟩
instance iin26 : Inf Try.prog 26 (some (.agg #[.int .i64 0, .int .i64 0, .int .i64 0, .slice none 0 0, .slice none 0 0, .slice none 0 0])) 6 96 := ⟨inf26⟩
instance izs26 : Zs Try.prog 26 (.agg #[.int .i64 0, .int .i64 0, .int .i64 0, .slice none 0 0, .slice none 0 0, .slice none 0 0]) := ⟨zs26⟩
instance izi26 : Zi Try.prog 26 (some (.agg #[.int .i64 0, .int .i64 0, .int .i64 0, .slice none 0 0, .slice none 0 0, .slice none 0 0])) 6 := ⟨zi26⟩
theorem inf29 : (Try.prog.info? 29).map (fun i => (i.zero, i.size, i.bytes)) = some (some (.slice none 0 0), 1, 24) := by kernel_rfl
theorem sz29 : (Try.prog.info? 29).map (·.size) = some 1 := by kernel_rfl
theorem zs29 : (Try.prog.info? 29).bind (·.zero) = some (.slice none 0 0) := by kernel_rfl
theorem zi29 : (Try.prog.info? 29).map (fun i => (i.zero, i.size)) = some (some (.slice none 0 0), 1) := by kernel_rfl
instance isz29 : Sz Try.prog 29 1 := ⟨sz29⟩
instance iin29 : Inf Try.prog 29 (some (.slice none 0 0)) 1 24 := ⟨inf29⟩
instance izs29 : Zs Try.prog 29 (.slice none 0 0) := ⟨zs29⟩
instance izi29 : Zi Try.prog 29 (some (.slice none 0 0)) 1 := ⟨zi29⟩
theorem inf30 : (Try.prog.info? 30).map (fun i => (i.zero, i.size, i.bytes)) = some (some (.slice none 0 0), 1, 24) := by kernel_rfl
theorem sz30 : (Try.prog.info? 30).map (·.size) = some 1 := by kernel_rfl
theorem zs30 : (Try.prog.info? 30).bind (·.zero) = some (.slice none 0 0) := by kernel_rfl
theorem zi30 : (Try.prog.info? 30).map (fun i => (i.zero, i.size)) = some (some (.slice none 0 0), 1) := by kernel_rfl
instance isz30 : Sz Try.prog 30 1 := ⟨sz30⟩
instance iin30 : Inf Try.prog 30 (some (.slice none 0 0)) 1 24 := ⟨inf30⟩
instance izs30 : Zs Try.prog 30 (.slice none 0 0) := ⟨zs30⟩
instance izi30 : Zi Try.prog 30 (some (.slice none 0 0)) 1 := ⟨zi30⟩
theorem inf31 : (Try.prog.info? 31).map (fun i => (i.zero, i.size, i.bytes)) = some (some (.slice none 0 0), 1, 24) := by kernel_rfl
theorem sz31 : (Try.prog.info? 31).map (·.size) = some 1 := by kernel_rfl
theorem zs31 : (Try.prog.info? 31).bind (·.zero) = some (.slice none 0 0) := by kernel_rfl
theorem zi31 : (Try.prog.info? 31).map (fun i => (i.zero, i.size)) = some (some (.slice none 0 0), 1) := by kernel_rfl
instance isz31 : Sz Try.prog 31 1 := ⟨sz31⟩
instance iin31 : Inf Try.prog 31 (some (.slice none 0 0)) 1 24 := ⟨inf31⟩
instance izs31 : Zs Try.prog 31 (.slice none 0 0) := ⟨zs31⟩
instance izi31 : Zi Try.prog 31 (some (.slice none 0 0)) 1 := ⟨zi31⟩
theorem inf33 : (Try.prog.info? 33).map (fun i => (i.zero, i.size, i.bytes)) = some (some (.agg #[.int .i64 0, .int .i64 0, .int .i64 0, .slice none 0 0, .slice none 0 0, .slice none 0 0]), 6, 96) := by kernel_rfl
theorem sz33 : (Try.prog.info? 33).map (·.size) = some 6 := by kernel_rfl
theorem zs33 : (Try.prog.info? 33).bind (·.zero) = some (.agg #[.int .i64 0, .int .i64 0, .int .i64 0, .slice none 0 0, .slice none 0 0, .slice none 0 0]) := by kernel_rfl
theorem zi33 : (Try.prog.info? 33).map (fun i => (i.zero, i.size)) = some (some (.agg #[.int .i64 0, .int .i64 0, .int .i64 0, .slice none 0 0, .slice none 0 0, .slice none 0 0]), 6) := by kernel_rfl
instance isz33 : Sz Try.prog 33 6 := ⟨sz33⟩
instance iin33 : Inf Try.prog 33 (some (.agg #[.int .i64 0, .int .i64 0, .int .i64 0, .slice none 0 0, .slice none 0 0, .slice none 0 0])) 6 96 := ⟨inf33⟩
instance izs33 : Zs Try.prog 33 (.agg #[.int .i64 0, .int .i64 0, .int .i64 0, .slice none 0 0, .slice none 0 0, .slice none 0 0]) := ⟨zs33⟩
instance izi33 : Zi Try.prog 33 (some (.agg #[.int .i64 0, .int .i64 0, .int .i64 0, .slice none 0 0, .slice none 0 0, .slice none 0 0])) 6 := ⟨zi33⟩
theorem inf37 : (Try.prog.info? 37).map (fun i => (i.zero, i.size, i.bytes)) = some (some (.slice none 0 0), 1, 24) := by kernel_rfl
theorem sz37 : (Try.prog.info? 37).map (·.size) = some 1 := by kernel_rfl
theorem zs37 : (Try.prog.info? 37).bind (·.zero) = some (.slice none 0 0) := by kernel_rfl
theorem zi37 : (Try.prog.info? 37).map (fun i => (i.zero, i.size)) = some (some (.slice none 0 0), 1) := by kernel_rfl
instance isz37 : Sz Try.prog 37 1 := ⟨sz37⟩
instance iin37 : Inf Try.prog 37 (some (.slice none 0 0)) 1 24 := ⟨inf37⟩
instance izs37 : Zs Try.prog 37 (.slice none 0 0) := ⟨zs37⟩
instance izi37 : Zi Try.prog 37 (some (.slice none 0 0)) 1 := ⟨zi37⟩
theorem inf47 : (Try.prog.info? 47).map (fun i => (i.zero, i.size, i.bytes)) = some (some (.slice none 0 0), 1, 24) := by kernel_rfl
theorem sz47 : (Try.prog.info? 47).map (·.size) = some 1 := by kernel_rfl
theorem zs47 : (Try.prog.info? 47).bind (·.zero) = some (.slice none 0 0) := by kernel_rfl
theorem zi47 : (Try.prog.info? 47).map (fun i => (i.zero, i.size)) = some (some (.slice none 0 0), 1) := by kernel_rfl
instance isz47 : Sz Try.prog 47 1 := ⟨sz47⟩
instance iin47 : Inf Try.prog 47 (some (.slice none 0 0)) 1 24 := ⟨inf47⟩
instance izs47 : Zs Try.prog 47 (.slice none 0 0) := ⟨zs47⟩
instance izi47 : Zi Try.prog 47 (some (.slice none 0 0)) 1 := ⟨zi47⟩
theorem inf49 : (Try.prog.info? 49).map (fun i => (i.zero, i.size, i.bytes)) = some (some (.agg #[.int .i64 0, .int .i64 0, .int .i64 0, .slice none 0 0, .slice none 0 0, .slice none 0 0, .int .i64 0, .int .i64 0, .slice none 0 0, .int .i64 0]), 10, 144) := by kernel_rfl
theorem sz49 : (Try.prog.info? 49).map (·.size) = some 10 := by kernel_rfl
theorem zs49 : (Try.prog.info? 49).bind (·.zero) = some (.agg #[.int .i64 0, .int .i64 0, .int .i64 0, .slice none 0 0, .slice none 0 0, .slice none 0 0, .int .i64 0, .int .i64 0, .slice none 0 0, .int .i64 0]) := by kernel_rfl
theorem zi49 : (Try.prog.info? 49).map (fun i => (i.zero, i.size)) = some (some (.agg #[.int .i64 0, .int .i64 0, .int .i64 0, .slice none 0 0, .slice none 0 0, .slice none 0 0, .int .i64 0, .int .i64 0, .slice none 0 0, .int .i64 0]), 10) := by kernel_rfl
instance isz49 : Sz Try.prog 49 10 := ⟨sz49⟩
instance iin49 : Inf Try.prog 49 (some (.agg #[.int .i64 0, .int .i64 0, .int .i64 0, .slice none 0 0, .slice none 0 0, .slice none 0 0, .int .i64 0, .int .i64 0, .slice none 0 0, .int .i64 0])) 10 144 := ⟨inf49⟩
instance izs49 : Zs Try.prog 49 (.agg #[.int .i64 0, .int .i64 0, .int .i64 0, .slice none 0 0, .slice none 0 0, .slice none 0 0, .int .i64 0, .int .i64 0, .slice none 0 0, .int .i64 0]) := ⟨zs49⟩
instance izi49 : Zi Try.prog 49 (some (.agg #[.int .i64 0, .int .i64 0, .int .i64 0, .slice none 0 0, .slice none 0 0, .slice none 0 0, .int .i64 0, .int .i64 0, .slice none 0 0, .int .i64 0])) 10 := ⟨zi49⟩
theorem inf52 : (Try.prog.info? 52).map (fun i => (i.zero, i.size, i.bytes)) = some (some (.slice none 0 0), 1, 24) := by kernel_rfl
theorem sz52 : (Try.prog.info? 52).map (·.size) = some 1 := by kernel_rfl
theorem zs52 : (Try.prog.info? 52).bind (·.zero) = some (.slice none 0 0) := by kernel_rfl
theorem zi52 : (Try.prog.info? 52).map (fun i => (i.zero, i.size)) = some (some (.slice none 0 0), 1) := by kernel_rfl
instance isz52 : Sz Try.prog 52 1 := ⟨sz52⟩
instance iin52 : Inf Try.prog 52 (some (.slice none 0 0)) 1 24 := ⟨inf52⟩
instance izs52 : Zs Try.prog 52 (.slice none 0 0) := ⟨zs52⟩
instance izi52 : Zi Try.prog 52 (some (.slice none 0 0)) 1 := ⟨zi52⟩
theorem inf54 : (Try.prog.info? 54).map (fun i => (i.zero, i.size, i.bytes)) = some (some (.agg #[.int .i64 0, .int .i64 0, .int .i64 0, .slice none 0 0, .slice none 0 0, .slice none 0 0, .int .i64 0, .int .i64 0, .slice none 0 0, .int .i64 0]), 10, 144) := by kernel_rfl
theorem sz54 : (Try.prog.info? 54).map (·.size) = some 10 := by kernel_rfl
theorem zs54 : (Try.prog.info? 54).bind (·.zero) = some (.agg #[.int .i64 0, .int .i64 0, .int .i64 0, .slice none 0 0, .slice none 0 0, .slice none 0 0, .int .i64 0, .int .i64 0, .slice none 0 0, .int .i64 0]) := by kernel_rfl
theorem zi54 : (Try.prog.info? 54).map (fun i => (i.zero, i.size)) = some (some (.agg #[.int .i64 0, .int .i64 0, .int .i64 0, .slice none 0 0, .slice none 0 0, .slice none 0 0, .int .i64 0, .int .i64 0, .slice none 0 0, .int .i64 0]), 10) := by kernel_rfl
instance isz54 : Sz Try.prog 54 10 := ⟨sz54⟩
instance iin54 : Inf Try.prog 54 (some (.agg #[.int .i64 0, .int .i64 0, .int .i64 0, .slice none 0 0, .slice none 0 0, .slice none 0 0, .int .i64 0, .int .i64 0, .slice none 0 0, .int .i64 0])) 10 144 := ⟨inf54⟩
instance izs54 : Zs Try.prog 54 (.agg #[.int .i64 0, .int .i64 0, .int .i64 0, .slice none 0 0, .slice none 0 0, .slice none 0 0, .int .i64 0, .int .i64 0, .slice none 0 0, .int .i64 0]) := ⟨zs54⟩
instance izi54 : Zi Try.prog 54 (some (.agg #[.int .i64 0, .int .i64 0, .int .i64 0, .slice none 0 0, .slice none 0 0, .slice none 0 0, .int .i64 0, .int .i64 0, .slice none 0 0, .int .i64 0])) 10 := ⟨zi54⟩
theorem inf62 : (Try.prog.info? 62).map (fun i => (i.zero, i.size, i.bytes)) = some (some (.slice none 0 0), 1, 24) := by kernel_rfl
theorem sz62 : (Try.prog.info? 62).map (·.size) = some 1 := by kernel_rfl
theorem zs62 : (Try.prog.info? 62).bind (·.zero) = some (.slice none 0 0) := by kernel_rfl
theorem zi62 : (Try.prog.info? 62).map (fun i => (i.zero, i.size)) = some (some (.slice none 0 0), 1) := by kernel_rfl
instance isz62 : Sz Try.prog 62 1 := ⟨sz62⟩
instance iin62 : Inf Try.prog 62 (some (.slice none 0 0)) 1 24 := ⟨inf62⟩
instance izs62 : Zs Try.prog 62 (.slice none 0 0) := ⟨zs62⟩
instance izi62 : Zi Try.prog 62 (some (.slice none 0 0)) 1 := ⟨zi62⟩
theorem inf65 : (Try.prog.info? 65).map (fun i => (i.zero, i.size, i.bytes)) = some (some (.agg #[.int .i64 0, .string ByteArray.empty, .string ByteArray.empty, .int .i64 0, .slice none 0 0]), 5, 72) := by kernel_rfl
theorem sz65 : (Try.prog.info? 65).map (·.size) = some 5 := by kernel_rfl
theorem zs65 : (Try.prog.info? 65).bind (·.zero) = some (.agg #[.int .i64 0, .string ByteArray.empty, .string ByteArray.empty, .int .i64 0, .slice none 0 0]) := by kernel_rfl
theorem zi65 : (Try.prog.info? 65).map (fun i => (i.zero, i.size)) = some (some (.agg #[.int .i64 0, .string ByteArray.empty, .string ByteArray.empty, .int .i64 0, .slice none 0 0]), 5) := by kernel_rfl
instance isz65 : Sz Try.prog 65 5 := ⟨sz65⟩
instance iin65 : Inf Try.prog 65 (some (.agg #[.int .i64 0, .string ByteArray.empty, .string ByteArray.empty, .int .i64 0, .slice none 0 0])) 5 72 := ⟨inf65⟩
instance izs65 : Zs Try.prog 65 (.agg #[.int .i64 0, .string ByteArray.empty, .string ByteArray.empty, .int .i64 0, .slice none 0 0]) := ⟨zs65⟩
instance izi65 : Zi Try.prog 65 (some (.agg #[.int .i64 0, .string ByteArray.empty, .string ByteArray.empty, .int .i64 0, .slice none 0 0])) 5 := ⟨zi65⟩
theorem inf72 : (Try.prog.info? 72).map (fun i => (i.zero, i.size, i.bytes)) = some (some (.slice none 0 0), 1, 24) := by kernel_rfl
theorem sz72 : (Try.prog.info? 72).map (·.size) = some 1 := by kernel_rfl
theorem zs72 : (Try.prog.info? 72).bind (·.zero) = some (.slice none 0 0) := by kernel_rfl
theorem zi72 : (Try.prog.info? 72).map (fun i => (i.zero, i.size)) = some (some (.slice none 0 0), 1) := by kernel_rfl
instance isz72 : Sz Try.prog 72 1 := ⟨sz72⟩
instance iin72 : Inf Try.prog 72 (some (.slice none 0 0)) 1 24 := ⟨inf72⟩
instance izs72 : Zs Try.prog 72 (.slice none 0 0) := ⟨zs72⟩
instance izi72 : Zi Try.prog 72 (some (.slice none 0 0)) 1 := ⟨zi72⟩
theorem inf78 : (Try.prog.info? 78).map (fun i => (i.zero, i.size, i.bytes)) = some (some (.agg #[.string ByteArray.empty, .int .i64 0]), 2, 24) := by kernel_rfl
theorem sz78 : (Try.prog.info? 78).map (·.size) = some 2 := by kernel_rfl
theorem zs78 : (Try.prog.info? 78).bind (·.zero) = some (.agg #[.string ByteArray.empty, .int .i64 0]) := by kernel_rfl
theorem zi78 : (Try.prog.info? 78).map (fun i => (i.zero, i.size)) = some (some (.agg #[.string ByteArray.empty, .int .i64 0]), 2) := by kernel_rfl
instance isz78 : Sz Try.prog 78 2 := ⟨sz78⟩
instance iin78 : Inf Try.prog 78 (some (.agg #[.string ByteArray.empty, .int .i64 0])) 2 24 := ⟨inf78⟩
instance izs78 : Zs Try.prog 78 (.agg #[.string ByteArray.empty, .int .i64 0]) := ⟨zs78⟩
instance izi78 : Zi Try.prog 78 (some (.agg #[.string ByteArray.empty, .int .i64 0])) 2 := ⟨zi78⟩
theorem inf86 : (Try.prog.info? 86).map (fun i => (i.zero, i.size, i.bytes)) = some (some (.agg #[.int .i64 0, .slice none 0 0, .slice none 0 0]), 3, 56) := by kernel_rfl
theorem sz86 : (Try.prog.info? 86).map (·.size) = some 3 := by kernel_rfl
theorem zs86 : (Try.prog.info? 86).bind (·.zero) = some (.agg #[.int .i64 0, .slice none 0 0, .slice none 0 0]) := by kernel_rfl
theorem zi86 : (Try.prog.info? 86).map (fun i => (i.zero, i.size)) = some (some (.agg #[.int .i64 0, .slice none 0 0, .slice none 0 0]), 3) := by kernel_rfl
instance isz86 : Sz Try.prog 86 3 := ⟨sz86⟩
instance iin86 : Inf Try.prog 86 (some (.agg #[.int .i64 0, .slice none 0 0, .slice none 0 0])) 3 56 := ⟨inf86⟩
instance izs86 : Zs Try.prog 86 (.agg #[.int .i64 0, .slice none 0 0, .slice none 0 0]) := ⟨zs86⟩
instance izi86 : Zi Try.prog 86 (some (.agg #[.int .i64 0, .slice none 0 0, .slice none 0 0])) 3 := ⟨zi86⟩
theorem inf91 : (Try.prog.info? 91).map (fun i => (i.zero, i.size, i.bytes)) = some (some (.agg #[.int .i64 0, .string ByteArray.empty, .string ByteArray.empty, .int .i64 0]), 4, 48) := by kernel_rfl
theorem sz91 : (Try.prog.info? 91).map (·.size) = some 4 := by kernel_rfl
theorem zs91 : (Try.prog.info? 91).bind (·.zero) = some (.agg #[.int .i64 0, .string ByteArray.empty, .string ByteArray.empty, .int .i64 0]) := by kernel_rfl
theorem zi91 : (Try.prog.info? 91).map (fun i => (i.zero, i.size)) = some (some (.agg #[.int .i64 0, .string ByteArray.empty, .string ByteArray.empty, .int .i64 0]), 4) := by kernel_rfl
instance isz91 : Sz Try.prog 91 4 := ⟨sz91⟩
instance iin91 : Inf Try.prog 91 (some (.agg #[.int .i64 0, .string ByteArray.empty, .string ByteArray.empty, .int .i64 0])) 4 48 := ⟨inf91⟩
instance izs91 : Zs Try.prog 91 (.agg #[.int .i64 0, .string ByteArray.empty, .string ByteArray.empty, .int .i64 0]) := ⟨zs91⟩
instance izi91 : Zi Try.prog 91 (some (.agg #[.int .i64 0, .string ByteArray.empty, .string ByteArray.empty, .int .i64 0])) 4 := ⟨zi91⟩
theorem inf99 : (Try.prog.info? 99).map (fun i => (i.zero, i.size, i.bytes)) = some (some (.map none), 1, 8) := by kernel_rfl
theorem sz99 : (Try.prog.info? 99).map (·.size) = some 1 := by kernel_rfl
theorem zs99 : (Try.prog.info? 99).bind (·.zero) = some (.map none) := by kernel_rfl
theorem zi99 : (Try.prog.info? 99).map (fun i => (i.zero, i.size)) = some (some (.map none), 1) := by kernel_rfl
instance isz99 : Sz Try.prog 99 1 := ⟨sz99⟩
instance iin99 : Inf Try.prog 99 (some (.map none)) 1 8 := ⟨inf99⟩
instance izs99 : Zs Try.prog 99 (.map none) := ⟨zs99⟩
instance izi99 : Zi Try.prog 99 (some (.map none)) 1 := ⟨zi99⟩
theorem inf100 : (Try.prog.info? 100).map (fun i => (i.zero, i.size, i.bytes)) = some (some (.map none), 1, 8) := by kernel_rfl
theorem sz100 : (Try.prog.info? 100).map (·.size) = some 1 := by kernel_rfl
theorem zs100 : (Try.prog.info? 100).bind (·.zero) = some (.map none) := by kernel_rfl
theorem zi100 : (Try.prog.info? 100).map (fun i => (i.zero, i.size)) = some (some (.map none), 1) := by kernel_rfl
instance isz100 : Sz Try.prog 100 1 := ⟨sz100⟩
instance iin100 : Inf Try.prog 100 (some (.map none)) 1 8 := ⟨inf100⟩
instance izs100 : Zs Try.prog 100 (.map none) := ⟨zs100⟩
instance izi100 : Zi Try.prog 100 (some (.map none)) 1 := ⟨zi100⟩
theorem inf121 : (Try.prog.info? 121).map (fun i => (i.zero, i.size, i.bytes)) = some (some (.agg #[.int .i64 0, .string ByteArray.empty]), 2, 24) := by kernel_rfl
theorem sz121 : (Try.prog.info? 121).map (·.size) = some 2 := by kernel_rfl
theorem zs121 : (Try.prog.info? 121).bind (·.zero) = some (.agg #[.int .i64 0, .string ByteArray.empty]) := by kernel_rfl
theorem zi121 : (Try.prog.info? 121).map (fun i => (i.zero, i.size)) = some (some (.agg #[.int .i64 0, .string ByteArray.empty]), 2) := by kernel_rfl
instance isz121 : Sz Try.prog 121 2 := ⟨sz121⟩
instance iin121 : Inf Try.prog 121 (some (.agg #[.int .i64 0, .string ByteArray.empty])) 2 24 := ⟨inf121⟩
instance izs121 : Zs Try.prog 121 (.agg #[.int .i64 0, .string ByteArray.empty]) := ⟨zs121⟩
instance izi121 : Zi Try.prog 121 (some (.agg #[.int .i64 0, .string ByteArray.empty])) 2 := ⟨zi121⟩
theorem inf123 : (Try.prog.info? 123).map (fun i => (i.zero, i.size, i.bytes)) = some (some (.pointer none), 1, 8) := by kernel_rfl
theorem sz123 : (Try.prog.info? 123).map (·.size) = some 1 := by kernel_rfl
theorem zs123 : (Try.prog.info? 123).bind (·.zero) = some (.pointer none) := by kernel_rfl
theorem zi123 : (Try.prog.info? 123).map (fun i => (i.zero, i.size)) = some (some (.pointer none), 1) := by kernel_rfl
instance isz123 : Sz Try.prog 123 1 := ⟨sz123⟩
instance iin123 : Inf Try.prog 123 (some (.pointer none)) 1 8 := ⟨inf123⟩
instance izs123 : Zs Try.prog 123 (.pointer none) := ⟨zs123⟩
instance izi123 : Zi Try.prog 123 (some (.pointer none)) 1 := ⟨zi123⟩
theorem inf127 : (Try.prog.info? 127).map (fun i => (i.zero, i.size, i.bytes)) = some (some (.agg #[.slice none 0 0, .int .i64 0, .int .i64 0]), 3, 40) := by kernel_rfl
theorem sz127 : (Try.prog.info? 127).map (·.size) = some 3 := by kernel_rfl
theorem zs127 : (Try.prog.info? 127).bind (·.zero) = some (.agg #[.slice none 0 0, .int .i64 0, .int .i64 0]) := by kernel_rfl
theorem zi127 : (Try.prog.info? 127).map (fun i => (i.zero, i.size)) = some (some (.agg #[.slice none 0 0, .int .i64 0, .int .i64 0]), 3) := by kernel_rfl
instance isz127 : Sz Try.prog 127 3 := ⟨sz127⟩
instance iin127 : Inf Try.prog 127 (some (.agg #[.slice none 0 0, .int .i64 0, .int .i64 0])) 3 40 := ⟨inf127⟩
instance izs127 : Zs Try.prog 127 (.agg #[.slice none 0 0, .int .i64 0, .int .i64 0]) := ⟨zs127⟩
instance izi127 : Zi Try.prog 127 (some (.agg #[.slice none 0 0, .int .i64 0, .int .i64 0])) 3 := ⟨zi127⟩
theorem inf132 : (Try.prog.info? 132).map (fun i => (i.zero, i.size, i.bytes)) = some (some (.pointer none), 1, 8) := by kernel_rfl
theorem sz132 : (Try.prog.info? 132).map (·.size) = some 1 := by kernel_rfl
theorem zs132 : (Try.prog.info? 132).bind (·.zero) = some (.pointer none) := by kernel_rfl
theorem zi132 : (Try.prog.info? 132).map (fun i => (i.zero, i.size)) = some (some (.pointer none), 1) := by kernel_rfl
instance isz132 : Sz Try.prog 132 1 := ⟨sz132⟩
instance iin132 : Inf Try.prog 132 (some (.pointer none)) 1 8 := ⟨inf132⟩
instance izs132 : Zs Try.prog 132 (.pointer none) := ⟨zs132⟩
instance izi132 : Zi Try.prog 132 (some (.pointer none)) 1 := ⟨zi132⟩
theorem inf141 : (Try.prog.info? 141).map (fun i => (i.zero, i.size, i.bytes)) = some (some (.agg #[.int .i64 0, .slice none 0 0, .slice none 0 0]), 3, 56) := by kernel_rfl
theorem sz141 : (Try.prog.info? 141).map (·.size) = some 3 := by kernel_rfl
theorem zs141 : (Try.prog.info? 141).bind (·.zero) = some (.agg #[.int .i64 0, .slice none 0 0, .slice none 0 0]) := by kernel_rfl
theorem zi141 : (Try.prog.info? 141).map (fun i => (i.zero, i.size)) = some (some (.agg #[.int .i64 0, .slice none 0 0, .slice none 0 0]), 3) := by kernel_rfl
instance isz141 : Sz Try.prog 141 3 := ⟨sz141⟩
instance iin141 : Inf Try.prog 141 (some (.agg #[.int .i64 0, .slice none 0 0, .slice none 0 0])) 3 56 := ⟨inf141⟩
instance izs141 : Zs Try.prog 141 (.agg #[.int .i64 0, .slice none 0 0, .slice none 0 0]) := ⟨zs141⟩
instance izi141 : Zi Try.prog 141 (some (.agg #[.int .i64 0, .slice none 0 0, .slice none 0 0])) 3 := ⟨zi141⟩
theorem inf143 : (Try.prog.info? 143).map (fun i => (i.zero, i.size, i.bytes)) = some (some (.agg #[.string ByteArray.empty, .int .i64 0]), 2, 24) := by kernel_rfl
theorem sz143 : (Try.prog.info? 143).map (·.size) = some 2 := by kernel_rfl
theorem zs143 : (Try.prog.info? 143).bind (·.zero) = some (.agg #[.string ByteArray.empty, .int .i64 0]) := by kernel_rfl
theorem zi143 : (Try.prog.info? 143).map (fun i => (i.zero, i.size)) = some (some (.agg #[.string ByteArray.empty, .int .i64 0]), 2) := by kernel_rfl
instance isz143 : Sz Try.prog 143 2 := ⟨sz143⟩
instance iin143 : Inf Try.prog 143 (some (.agg #[.string ByteArray.empty, .int .i64 0])) 2 24 := ⟨inf143⟩
instance izs143 : Zs Try.prog 143 (.agg #[.string ByteArray.empty, .int .i64 0]) := ⟨zs143⟩
instance izi143 : Zi Try.prog 143 (some (.agg #[.string ByteArray.empty, .int .i64 0])) 2 := ⟨zi143⟩
theorem inf145 : (Try.prog.info? 145).map (fun i => (i.zero, i.size, i.bytes)) = some (some (.agg #[.int .i64 0, .string ByteArray.empty, .string ByteArray.empty, .int .i64 0]), 4, 48) := by kernel_rfl
theorem sz145 : (Try.prog.info? 145).map (·.size) = some 4 := by kernel_rfl
theorem zs145 : (Try.prog.info? 145).bind (·.zero) = some (.agg #[.int .i64 0, .string ByteArray.empty, .string ByteArray.empty, .int .i64 0]) := by kernel_rfl
theorem zi145 : (Try.prog.info? 145).map (fun i => (i.zero, i.size)) = some (some (.agg #[.int .i64 0, .string ByteArray.empty, .string ByteArray.empty, .int .i64 0]), 4) := by kernel_rfl
instance isz145 : Sz Try.prog 145 4 := ⟨sz145⟩
instance iin145 : Inf Try.prog 145 (some (.agg #[.int .i64 0, .string ByteArray.empty, .string ByteArray.empty, .int .i64 0])) 4 48 := ⟨inf145⟩
instance izs145 : Zs Try.prog 145 (.agg #[.int .i64 0, .string ByteArray.empty, .string ByteArray.empty, .int .i64 0]) := ⟨zs145⟩
instance izi145 : Zi Try.prog 145 (some (.agg #[.int .i64 0, .string ByteArray.empty, .string ByteArray.empty, .int .i64 0])) 4 := ⟨zi145⟩
theorem inf152 : (Try.prog.info? 152).map (fun i => (i.zero, i.size, i.bytes)) = some (some (.map none), 1, 8) := by kernel_rfl
theorem sz152 : (Try.prog.info? 152).map (·.size) = some 1 := by kernel_rfl
theorem zs152 : (Try.prog.info? 152).bind (·.zero) = some (.map none) := by kernel_rfl
theorem zi152 : (Try.prog.info? 152).map (fun i => (i.zero, i.size)) = some (some (.map none), 1) := by kernel_rfl
instance isz152 : Sz Try.prog 152 1 := ⟨sz152⟩
instance iin152 : Inf Try.prog 152 (some (.map none)) 1 8 := ⟨inf152⟩
instance izs152 : Zs Try.prog 152 (.map none) := ⟨zs152⟩
instance izi152 : Zi Try.prog 152 (some (.map none)) 1 := ⟨zi152⟩
theorem inf156 : (Try.prog.info? 156).map (fun i => (i.zero, i.size, i.bytes)) = some (some (.agg #[.int .i64 0, .string ByteArray.empty]), 2, 24) := by kernel_rfl
theorem sz156 : (Try.prog.info? 156).map (·.size) = some 2 := by kernel_rfl
theorem zs156 : (Try.prog.info? 156).bind (·.zero) = some (.agg #[.int .i64 0, .string ByteArray.empty]) := by kernel_rfl
theorem zi156 : (Try.prog.info? 156).map (fun i => (i.zero, i.size)) = some (some (.agg #[.int .i64 0, .string ByteArray.empty]), 2) := by kernel_rfl
instance isz156 : Sz Try.prog 156 2 := ⟨sz156⟩
instance iin156 : Inf Try.prog 156 (some (.agg #[.int .i64 0, .string ByteArray.empty])) 2 24 := ⟨inf156⟩
instance izs156 : Zs Try.prog 156 (.agg #[.int .i64 0, .string ByteArray.empty]) := ⟨zs156⟩
instance izi156 : Zi Try.prog 156 (some (.agg #[.int .i64 0, .string ByteArray.empty])) 2 := ⟨zi156⟩
theorem inf166 : (Try.prog.info? 166).map (fun i => (i.zero, i.size, i.bytes)) = some (some (.pointer none), 1, 8) := by kernel_rfl
theorem sz166 : (Try.prog.info? 166).map (·.size) = some 1 := by kernel_rfl
theorem zs166 : (Try.prog.info? 166).bind (·.zero) = some (.pointer none) := by kernel_rfl
theorem zi166 : (Try.prog.info? 166).map (fun i => (i.zero, i.size)) = some (some (.pointer none), 1) := by kernel_rfl
instance isz166 : Sz Try.prog 166 1 := ⟨sz166⟩
instance iin166 : Inf Try.prog 166 (some (.pointer none)) 1 8 := ⟨inf166⟩
instance izs166 : Zs Try.prog 166 (.pointer none) := ⟨zs166⟩
instance izi166 : Zi Try.prog 166 (some (.pointer none)) 1 := ⟨zi166⟩
theorem inf173 : (Try.prog.info? 173).map (fun i => (i.zero, i.size, i.bytes)) = some (some (.slice none 0 0), 1, 24) := by kernel_rfl
theorem sz173 : (Try.prog.info? 173).map (·.size) = some 1 := by kernel_rfl
theorem zs173 : (Try.prog.info? 173).bind (·.zero) = some (.slice none 0 0) := by kernel_rfl
theorem zi173 : (Try.prog.info? 173).map (fun i => (i.zero, i.size)) = some (some (.slice none 0 0), 1) := by kernel_rfl
instance isz173 : Sz Try.prog 173 1 := ⟨sz173⟩
instance iin173 : Inf Try.prog 173 (some (.slice none 0 0)) 1 24 := ⟨inf173⟩
instance izs173 : Zs Try.prog 173 (.slice none 0 0) := ⟨zs173⟩
instance izi173 : Zi Try.prog 173 (some (.slice none 0 0)) 1 := ⟨zi173⟩
theorem inf174 : (Try.prog.info? 174).map (fun i => (i.zero, i.size, i.bytes)) = some (some (.int .u64 0), 1, 8) := by kernel_rfl
theorem sz174 : (Try.prog.info? 174).map (·.size) = some 1 := by kernel_rfl
theorem zs174 : (Try.prog.info? 174).bind (·.zero) = some (.int .u64 0) := by kernel_rfl
theorem zi174 : (Try.prog.info? 174).map (fun i => (i.zero, i.size)) = some (some (.int .u64 0), 1) := by kernel_rfl
instance isz174 : Sz Try.prog 174 1 := ⟨sz174⟩
instance iin174 : Inf Try.prog 174 (some (.int .u64 0)) 1 8 := ⟨inf174⟩
instance izs174 : Zs Try.prog 174 (.int .u64 0) := ⟨zs174⟩
instance izi174 : Zi Try.prog 174 (some (.int .u64 0)) 1 := ⟨zi174⟩
theorem inf188 : (Try.prog.info? 188).map (fun i => (i.zero, i.size, i.bytes)) = some (some (.int .u32 0), 1, 4) := by kernel_rfl
theorem sz188 : (Try.prog.info? 188).map (·.size) = some 1 := by kernel_rfl
theorem zs188 : (Try.prog.info? 188).bind (·.zero) = some (.int .u32 0) := by kernel_rfl
theorem zi188 : (Try.prog.info? 188).map (fun i => (i.zero, i.size)) = some (some (.int .u32 0), 1) := by kernel_rfl
instance isz188 : Sz Try.prog 188 1 := ⟨sz188⟩
instance iin188 : Inf Try.prog 188 (some (.int .u32 0)) 1 4 := ⟨inf188⟩
instance izs188 : Zs Try.prog 188 (.int .u32 0) := ⟨zs188⟩
instance izi188 : Zi Try.prog 188 (some (.int .u32 0)) 1 := ⟨zi188⟩
theorem inf191 : (Try.prog.info? 191).map (fun i => (i.zero, i.size, i.bytes)) = some (some (.pointer none), 1, 8) := by kernel_rfl
theorem sz191 : (Try.prog.info? 191).map (·.size) = some 1 := by kernel_rfl
theorem zs191 : (Try.prog.info? 191).bind (·.zero) = some (.pointer none) := by kernel_rfl
theorem zi191 : (Try.prog.info? 191).map (fun i => (i.zero, i.size)) = some (some (.pointer none), 1) := by kernel_rfl
instance isz191 : Sz Try.prog 191 1 := ⟨sz191⟩
instance iin191 : Inf Try.prog 191 (some (.pointer none)) 1 8 := ⟨inf191⟩
instance izs191 : Zs Try.prog 191 (.pointer none) := ⟨zs191⟩
instance izi191 : Zi Try.prog 191 (some (.pointer none)) 1 := ⟨zi191⟩
theorem inf194 : (Try.prog.info? 194).map (fun i => (i.zero, i.size, i.bytes)) = some (some (.int .u64 0), 1, 8) := by kernel_rfl
theorem sz194 : (Try.prog.info? 194).map (·.size) = some 1 := by kernel_rfl
theorem zs194 : (Try.prog.info? 194).bind (·.zero) = some (.int .u64 0) := by kernel_rfl
theorem zi194 : (Try.prog.info? 194).map (fun i => (i.zero, i.size)) = some (some (.int .u64 0), 1) := by kernel_rfl
instance isz194 : Sz Try.prog 194 1 := ⟨sz194⟩
instance iin194 : Inf Try.prog 194 (some (.int .u64 0)) 1 8 := ⟨inf194⟩
instance izs194 : Zs Try.prog 194 (.int .u64 0) := ⟨zs194⟩
instance izi194 : Zi Try.prog 194 (some (.int .u64 0)) 1 := ⟨zi194⟩
theorem inf206 : (Try.prog.info? 206).map (fun i => (i.zero, i.size, i.bytes)) = some (some (.pointer none), 1, 8) := by kernel_rfl
theorem sz206 : (Try.prog.info? 206).map (·.size) = some 1 := by kernel_rfl
theorem zs206 : (Try.prog.info? 206).bind (·.zero) = some (.pointer none) := by kernel_rfl
theorem zi206 : (Try.prog.info? 206).map (fun i => (i.zero, i.size)) = some (some (.pointer none), 1) := by kernel_rfl
instance isz206 : Sz Try.prog 206 1 := ⟨sz206⟩
instance iin206 : Inf Try.prog 206 (some (.pointer none)) 1 8 := ⟨inf206⟩
instance izs206 : Zs Try.prog 206 (.pointer none) := ⟨zs206⟩
instance izi206 : Zi Try.prog 206 (some (.pointer none)) 1 := ⟨zi206⟩
theorem inf208 : (Try.prog.info? 208).map (fun i => (i.zero, i.size, i.bytes)) = some (some (.pointer none), 1, 8) := by kernel_rfl
theorem sz208 : (Try.prog.info? 208).map (·.size) = some 1 := by kernel_rfl
theorem zs208 : (Try.prog.info? 208).bind (·.zero) = some (.pointer none) := by kernel_rfl
theorem zi208 : (Try.prog.info? 208).map (fun i => (i.zero, i.size)) = some (some (.pointer none), 1) := by kernel_rfl
instance isz208 : Sz Try.prog 208 1 := ⟨sz208⟩
instance iin208 : Inf Try.prog 208 (some (.pointer none)) 1 8 := ⟨inf208⟩
instance izs208 : Zs Try.prog 208 (.pointer none) := ⟨zs208⟩
instance izi208 : Zi Try.prog 208 (some (.pointer none)) 1 := ⟨zi208⟩
theorem inf220 : (Try.prog.info? 220).map (fun i => (i.zero, i.size, i.bytes)) = some (some (.pointer none), 1, 8) := by kernel_rfl
theorem sz220 : (Try.prog.info? 220).map (·.size) = some 1 := by kernel_rfl
theorem zs220 : (Try.prog.info? 220).bind (·.zero) = some (.pointer none) := by kernel_rfl
theorem zi220 : (Try.prog.info? 220).map (fun i => (i.zero, i.size)) = some (some (.pointer none), 1) := by kernel_rfl
instance isz220 : Sz Try.prog 220 1 := ⟨sz220⟩
instance iin220 : Inf Try.prog 220 (some (.pointer none)) 1 8 := ⟨inf220⟩
instance izs220 : Zs Try.prog 220 (.pointer none) := ⟨zs220⟩
instance izi220 : Zi Try.prog 220 (some (.pointer none)) 1 := ⟨zi220⟩
instance ius3 : Us Try.prog 3 (descOf Try.underlying3) := ⟨Try.underlying3⟩
instance ius4 : Us Try.prog 4 (descOf Try.underlying4) := ⟨Try.underlying4⟩
instance ius5 : Us Try.prog 5 (descOf Try.underlying5) := ⟨Try.underlying5⟩
instance ius9 : Us Try.prog 9 (descOf Try.underlying9) := ⟨Try.underlying9⟩
instance ius22 : Us Try.prog 22 (descOf Try.underlying22) := ⟨Try.underlying22⟩
instance ius23 : Us Try.prog 23 (descOf Try.underlying23) := ⟨Try.underlying23⟩
instance ius24 : Us Try.prog 24 (descOf Try.underlying24) := ⟨Try.underlying24⟩
instance ius26 : Us Try.prog 26 (descOf Try.underlying26) := ⟨Try.underlying26⟩
instance ius29 : Us Try.prog 29 (descOf Try.underlying29) := ⟨Try.underlying29⟩
instance ius30 : Us Try.prog 30 (descOf Try.underlying30) := ⟨Try.underlying30⟩
instance ius31 : Us Try.prog 31 (descOf Try.underlying31) := ⟨Try.underlying31⟩
instance ius33 : Us Try.prog 33 (descOf Try.underlying33) := ⟨Try.underlying33⟩
instance ius37 : Us Try.prog 37 (descOf Try.underlying37) := ⟨Try.underlying37⟩
instance ius47 : Us Try.prog 47 (descOf Try.underlying47) := ⟨Try.underlying47⟩
instance ius49 : Us Try.prog 49 (descOf Try.underlying49) := ⟨Try.underlying49⟩
instance ius52 : Us Try.prog 52 (descOf Try.underlying52) := ⟨Try.underlying52⟩
instance ius54 : Us Try.prog 54 (descOf Try.underlying54) := ⟨Try.underlying54⟩
instance ius62 : Us Try.prog 62 (descOf Try.underlying62) := ⟨Try.underlying62⟩
instance ius65 : Us Try.prog 65 (descOf Try.underlying65) := ⟨Try.underlying65⟩
instance ius72 : Us Try.prog 72 (descOf Try.underlying72) := ⟨Try.underlying72⟩
instance ius78 : Us Try.prog 78 (descOf Try.underlying78) := ⟨Try.underlying78⟩
instance ius86 : Us Try.prog 86 (descOf Try.underlying86) := ⟨Try.underlying86⟩
instance ius91 : Us Try.prog 91 (descOf Try.underlying91) := ⟨Try.underlying91⟩
instance ius121 : Us Try.prog 121 (descOf Try.underlying121) := ⟨Try.underlying121⟩
instance ius127 : Us Try.prog 127 (descOf Try.underlying127) := ⟨Try.underlying127⟩
instance ius141 : Us Try.prog 141 (descOf Try.underlying141) := ⟨Try.underlying141⟩
instance ius143 : Us Try.prog 143 (descOf Try.underlying143) := ⟨Try.underlying143⟩
instance ius145 : Us Try.prog 145 (descOf Try.underlying145) := ⟨Try.underlying145⟩
instance ius156 : Us Try.prog 156 (descOf Try.underlying156) := ⟨Try.underlying156⟩
instance ius173 : Us Try.prog 173 (descOf Try.underlying173) := ⟨Try.underlying173⟩
instance ius174 : Us Try.prog 174 (descOf Try.underlying174) := ⟨Try.underlying174⟩
instance ius188 : Us Try.prog 188 (descOf Try.underlying188) := ⟨Try.underlying188⟩
theorem fl3 : flat Try.prog 3 = true := by unfold flat; rw [Try.underlying3]
theorem fl4 : flat Try.prog 4 = true := by unfold flat; rw [Try.underlying4]
theorem fl5 : flat Try.prog 5 = true := by unfold flat; rw [Try.underlying5]
theorem fl9 : flat Try.prog 9 = true := by unfold flat; rw [Try.underlying9]
theorem fl22 : flat Try.prog 22 = true := by unfold flat; rw [Try.underlying22]
theorem fl23 : flat Try.prog 23 = true := by unfold flat; rw [Try.underlying23]
theorem fl24 : flat Try.prog 24 = true := by unfold flat; rw [Try.underlying24]
theorem fl29 : flat Try.prog 29 = true := by unfold flat; rw [Try.underlying29]
theorem fl30 : flat Try.prog 30 = true := by unfold flat; rw [Try.underlying30]
theorem fl31 : flat Try.prog 31 = true := by unfold flat; rw [Try.underlying31]
theorem fl37 : flat Try.prog 37 = true := by unfold flat; rw [Try.underlying37]
theorem fl47 : flat Try.prog 47 = true := by unfold flat; rw [Try.underlying47]
theorem fl52 : flat Try.prog 52 = true := by unfold flat; rw [Try.underlying52]
theorem fl62 : flat Try.prog 62 = true := by unfold flat; rw [Try.underlying62]
theorem fl72 : flat Try.prog 72 = true := by unfold flat; rw [Try.underlying72]
theorem fl99 : flat Try.prog 99 = true := by unfold flat; rw [Try.underlying99]
theorem fl100 : flat Try.prog 100 = true := by unfold flat; rw [Try.underlying100]
theorem fl123 : flat Try.prog 123 = true := by unfold flat; rw [Try.underlying123]
theorem fl132 : flat Try.prog 132 = true := by unfold flat; rw [Try.underlying132]
theorem fl152 : flat Try.prog 152 = true := by unfold flat; rw [Try.underlying152]
theorem fl166 : flat Try.prog 166 = true := by unfold flat; rw [Try.underlying166]
theorem fl173 : flat Try.prog 173 = true := by unfold flat; rw [Try.underlying173]
theorem fl174 : flat Try.prog 174 = true := by unfold flat; rw [Try.underlying174]
theorem fl188 : flat Try.prog 188 = true := by unfold flat; rw [Try.underlying188]
instance ifl3 : Fl Try.prog 3 := ⟨fl3⟩
instance ifl4 : Fl Try.prog 4 := ⟨fl4⟩
instance ifl5 : Fl Try.prog 5 := ⟨fl5⟩
instance ifl9 : Fl Try.prog 9 := ⟨fl9⟩
instance ifl22 : Fl Try.prog 22 := ⟨fl22⟩
instance ifl23 : Fl Try.prog 23 := ⟨fl23⟩
instance ifl24 : Fl Try.prog 24 := ⟨fl24⟩
instance ifl29 : Fl Try.prog 29 := ⟨fl29⟩
instance ifl30 : Fl Try.prog 30 := ⟨fl30⟩
instance ifl31 : Fl Try.prog 31 := ⟨fl31⟩
instance ifl37 : Fl Try.prog 37 := ⟨fl37⟩
instance ifl47 : Fl Try.prog 47 := ⟨fl47⟩
instance ifl52 : Fl Try.prog 52 := ⟨fl52⟩
instance ifl62 : Fl Try.prog 62 := ⟨fl62⟩
instance ifl72 : Fl Try.prog 72 := ⟨fl72⟩
instance ifl99 : Fl Try.prog 99 := ⟨fl99⟩
instance ifl100 : Fl Try.prog 100 := ⟨fl100⟩
instance ifl123 : Fl Try.prog 123 := ⟨fl123⟩
instance ifl132 : Fl Try.prog 132 := ⟨fl132⟩
instance ifl152 : Fl Try.prog 152 := ⟨fl152⟩
instance ifl166 : Fl Try.prog 166 := ⟨fl166⟩
instance ifl173 : Fl Try.prog 173 := ⟨fl173⟩
instance ifl174 : Fl Try.prog 174 := ⟨fl174⟩
instance ifl188 : Fl Try.prog 188 := ⟨fl188⟩
theorem mixed : Try.prog.follows .mixedOrders = true := by kernel_rfl
theorem en3 : Enters Try.prog 3 := enters_of Try.func3 (by kernel_rfl) rfl
theorem en4 : Enters Try.prog 4 := enters_of Try.func4 (by kernel_rfl) rfl
theorem en5 : Enters Try.prog 5 := enters_of Try.func5 (by kernel_rfl) rfl
theorem en6 : Enters Try.prog 6 := enters_of Try.func6 (by kernel_rfl) rfl
theorem en7 : Enters Try.prog 7 := enters_of Try.func7 (by kernel_rfl) rfl
theorem en8 : Enters Try.prog 8 := enters_of Try.func8 (by kernel_rfl) rfl
theorem en9 : Enters Try.prog 9 := enters_of Try.func9 (by kernel_rfl) rfl
theorem en10 : Enters Try.prog 10 := enters_of Try.func10 (by kernel_rfl) rfl
theorem en11 : Enters Try.prog 11 := enters_of Try.func11 (by kernel_rfl) rfl
theorem en12 : Enters Try.prog 12 := enters_of Try.func12 (by kernel_rfl) rfl
theorem en13 : Enters Try.prog 13 := enters_of Try.func13 (by kernel_rfl) rfl
theorem en14 : Enters Try.prog 14 := enters_of Try.func14 (by kernel_rfl) rfl
theorem en15 : Enters Try.prog 15 := enters_of Try.func15 (by kernel_rfl) rfl
theorem en16 : Enters Try.prog 16 := enters_of Try.func16 (by kernel_rfl) rfl
theorem en17 : Enters Try.prog 17 := enters_of Try.func17 (by kernel_rfl) rfl
theorem en18 : Enters Try.prog 18 := enters_of Try.func18 (by kernel_rfl) rfl
theorem en19 : Enters Try.prog 19 := enters_of Try.func19 (by kernel_rfl) rfl
theorem en20 : Enters Try.prog 20 := enters_of Try.func20 (by kernel_rfl) rfl
theorem en21 : Enters Try.prog 21 := enters_of Try.func21 (by kernel_rfl) rfl
theorem en22 : Enters Try.prog 22 := enters_of Try.func22 (by kernel_rfl) rfl
theorem en23 : Enters Try.prog 23 := enters_of Try.func23 (by kernel_rfl) rfl
theorem en24 : Enters Try.prog 24 := enters_of Try.func24 (by kernel_rfl) rfl
theorem en25 : Enters Try.prog 25 := enters_of Try.func25 (by kernel_rfl) rfl
theorem en26 : Enters Try.prog 26 := enters_of Try.func26 (by kernel_rfl) rfl
theorem en27 : Enters Try.prog 27 := enters_of Try.func27 (by kernel_rfl) rfl
theorem en28 : Enters Try.prog 28 := enters_of Try.func28 (by kernel_rfl) rfl
theorem en29 : Enters Try.prog 29 := enters_of Try.func29 (by kernel_rfl) rfl
theorem en30 : Enters Try.prog 30 := enters_of Try.func30 (by kernel_rfl) rfl
theorem en31 : Enters Try.prog 31 := enters_of Try.func31 (by kernel_rfl) rfl
theorem en32 : Enters Try.prog 32 := enters_of Try.func32 (by kernel_rfl) rfl
theorem en33 : Enters Try.prog 33 := enters_of Try.func33 (by kernel_rfl) rfl
theorem en34 : Enters Try.prog 34 := enters_of Try.func34 (by kernel_rfl) rfl
theorem en35 : Enters Try.prog 35 := enters_of Try.func35 (by kernel_rfl) rfl
theorem en36 : Enters Try.prog 36 := enters_of Try.func36 (by kernel_rfl) rfl
theorem en37 : Enters Try.prog 37 := enters_of Try.func37 (by kernel_rfl) rfl
theorem en38 : Enters Try.prog 38 := enters_of Try.func38 (by kernel_rfl) rfl
theorem en39 : Enters Try.prog 39 := enters_of Try.func39 (by kernel_rfl) rfl
theorem en40 : Enters Try.prog 40 := enters_of Try.func40 (by kernel_rfl) rfl
theorem en41 : Enters Try.prog 41 := enters_of Try.func41 (by kernel_rfl) rfl
theorem en42 : Enters Try.prog 42 := enters_of Try.func42 (by kernel_rfl) rfl
theorem en43 : Enters Try.prog 43 := enters_of Try.func43 (by kernel_rfl) rfl
theorem en44 : Enters Try.prog 44 := enters_of Try.func44 (by kernel_rfl) rfl
theorem en45 : Enters Try.prog 45 := enters_of Try.func45 (by kernel_rfl) rfl
theorem en46 : Enters Try.prog 46 := enters_of Try.func46 (by kernel_rfl) rfl
theorem en47 : Enters Try.prog 47 := enters_of Try.func47 (by kernel_rfl) rfl
theorem en48 : Enters Try.prog 48 := enters_of Try.func48 (by kernel_rfl) rfl
theorem en49 : Enters Try.prog 49 := enters_of Try.func49 (by kernel_rfl) rfl
theorem en50 : Enters Try.prog 50 := enters_of Try.func50 (by kernel_rfl) rfl
theorem en51 : Enters Try.prog 51 := enters_of Try.func51 (by kernel_rfl) rfl
theorem en52 : Enters Try.prog 52 := enters_of Try.func52 (by kernel_rfl) rfl
theorem en53 : Enters Try.prog 53 := enters_of Try.func53 (by kernel_rfl) rfl
theorem en54 : Enters Try.prog 54 := enters_of Try.func54 (by kernel_rfl) rfl
theorem en55 : Enters Try.prog 55 := enters_of Try.func55 (by kernel_rfl) rfl
theorem en56 : Enters Try.prog 56 := enters_of Try.func56 (by kernel_rfl) rfl
theorem en57 : Enters Try.prog 57 := enters_of Try.func57 (by kernel_rfl) rfl
theorem en58 : Enters Try.prog 58 := enters_of Try.func58 (by kernel_rfl) rfl
theorem en59 : Enters Try.prog 59 := enters_of Try.func59 (by kernel_rfl) rfl
theorem en60 : Enters Try.prog 60 := enters_of Try.func60 (by kernel_rfl) rfl
theorem en61 : Enters Try.prog 61 := enters_of Try.func61 (by kernel_rfl) rfl
theorem en62 : Enters Try.prog 62 := enters_of Try.func62 (by kernel_rfl) rfl
theorem en63 : Enters Try.prog 63 := enters_of Try.func63 (by kernel_rfl) rfl
theorem en64 : Enters Try.prog 64 := enters_of Try.func64 (by kernel_rfl) rfl
theorem en65 : Enters Try.prog 65 := enters_of Try.func65 (by kernel_rfl) rfl
theorem en66 : Enters Try.prog 66 := enters_of Try.func66 (by kernel_rfl) rfl
theorem en67 : Enters Try.prog 67 := enters_of Try.func67 (by kernel_rfl) rfl
theorem en68 : Enters Try.prog 68 := enters_of Try.func68 (by kernel_rfl) rfl
theorem en69 : Enters Try.prog 69 := enters_of Try.func69 (by kernel_rfl) rfl
theorem en70 : Enters Try.prog 70 := enters_of Try.func70 (by kernel_rfl) rfl
theorem en71 : Enters Try.prog 71 := enters_of Try.func71 (by kernel_rfl) rfl
theorem en72 : Enters Try.prog 72 := enters_of Try.func72 (by kernel_rfl) rfl
theorem en73 : Enters Try.prog 73 := enters_of Try.func73 (by kernel_rfl) rfl
theorem en74 : Enters Try.prog 74 := enters_of Try.func74 (by kernel_rfl) rfl
theorem en75 : Enters Try.prog 75 := enters_of Try.func75 (by kernel_rfl) rfl
theorem en76 : Enters Try.prog 76 := enters_of Try.func76 (by kernel_rfl) rfl
theorem en77 : Enters Try.prog 77 := enters_of Try.func77 (by kernel_rfl) rfl
theorem en78 : Enters Try.prog 78 := enters_of Try.func78 (by kernel_rfl) rfl
theorem en79 : Enters Try.prog 79 := enters_of Try.func79 (by kernel_rfl) rfl
theorem en80 : Enters Try.prog 80 := enters_of Try.func80 (by kernel_rfl) rfl
theorem en81 : Enters Try.prog 81 := enters_of Try.func81 (by kernel_rfl) rfl
theorem en82 : Enters Try.prog 82 := enters_of Try.func82 (by kernel_rfl) rfl
theorem en83 : Enters Try.prog 83 := enters_of Try.func83 (by kernel_rfl) rfl
theorem en84 : Enters Try.prog 84 := enters_of Try.func84 (by kernel_rfl) rfl
theorem en85 : Enters Try.prog 85 := enters_of Try.func85 (by kernel_rfl) rfl
theorem en86 : Enters Try.prog 86 := enters_of Try.func86 (by kernel_rfl) rfl
theorem en87 : Enters Try.prog 87 := enters_of Try.func87 (by kernel_rfl) rfl
theorem en88 : Enters Try.prog 88 := enters_of Try.func88 (by kernel_rfl) rfl
theorem en89 : Enters Try.prog 89 := enters_of Try.func89 (by kernel_rfl) rfl
theorem en90 : Enters Try.prog 90 := enters_of Try.func90 (by kernel_rfl) rfl
theorem en91 : Enters Try.prog 91 := enters_of Try.func91 (by kernel_rfl) rfl
theorem en92 : Enters Try.prog 92 := enters_of Try.func92 (by kernel_rfl) rfl
theorem en93 : Enters Try.prog 93 := enters_of Try.func93 (by kernel_rfl) rfl
theorem en94 : Enters Try.prog 94 := enters_of Try.func94 (by kernel_rfl) rfl
theorem en95 : Enters Try.prog 95 := enters_of Try.func95 (by kernel_rfl) rfl
theorem en96 : Enters Try.prog 96 := enters_of Try.func96 (by kernel_rfl) rfl
theorem en97 : Enters Try.prog 97 := enters_of Try.func97 (by kernel_rfl) rfl
theorem en98 : Enters Try.prog 98 := enters_of Try.func98 (by kernel_rfl) rfl
theorem en99 : Enters Try.prog 99 := enters_of Try.func99 (by kernel_rfl) rfl
theorem en100 : Enters Try.prog 100 := enters_of Try.func100 (by kernel_rfl) rfl
theorem en101 : Enters Try.prog 101 := enters_of Try.func101 (by kernel_rfl) rfl
theorem en102 : Enters Try.prog 102 := enters_of Try.func102 (by kernel_rfl) rfl
theorem en103 : Enters Try.prog 103 := enters_of Try.func103 (by kernel_rfl) rfl
theorem en104 : Enters Try.prog 104 := enters_of Try.func104 (by kernel_rfl) rfl
theorem en105 : Enters Try.prog 105 := enters_of Try.func105 (by kernel_rfl) rfl
theorem en106 : Enters Try.prog 106 := enters_of Try.func106 (by kernel_rfl) rfl
theorem en107 : Enters Try.prog 107 := enters_of Try.func107 (by kernel_rfl) rfl
theorem en108 : Enters Try.prog 108 := enters_of Try.func108 (by kernel_rfl) rfl
theorem en109 : Enters Try.prog 109 := enters_of Try.func109 (by kernel_rfl) rfl
theorem en110 : Enters Try.prog 110 := enters_of Try.func110 (by kernel_rfl) rfl
theorem en111 : Enters Try.prog 111 := enters_of Try.func111 (by kernel_rfl) rfl
theorem en112 : Enters Try.prog 112 := enters_of Try.func112 (by kernel_rfl) rfl
theorem en113 : Enters Try.prog 113 := enters_of Try.func113 (by kernel_rfl) rfl
theorem en114 : Enters Try.prog 114 := enters_of Try.func114 (by kernel_rfl) rfl
theorem en115 : Enters Try.prog 115 := enters_of Try.func115 (by kernel_rfl) rfl
theorem en116 : Enters Try.prog 116 := enters_of Try.func116 (by kernel_rfl) rfl
theorem en117 : Enters Try.prog 117 := enters_of Try.func117 (by kernel_rfl) rfl
theorem en118 : Enters Try.prog 118 := enters_of Try.func118 (by kernel_rfl) rfl
theorem en119 : Enters Try.prog 119 := enters_of Try.func119 (by kernel_rfl) rfl
theorem en120 : Enters Try.prog 120 := enters_of Try.func120 (by kernel_rfl) rfl
theorem en121 : Enters Try.prog 121 := enters_of Try.func121 (by kernel_rfl) rfl
theorem en122 : Enters Try.prog 122 := enters_of Try.func122 (by kernel_rfl) rfl
theorem en123 : Enters Try.prog 123 := enters_of Try.func123 (by kernel_rfl) rfl
theorem en124 : Enters Try.prog 124 := enters_of Try.func124 (by kernel_rfl) rfl
theorem en125 : Enters Try.prog 125 := enters_of Try.func125 (by kernel_rfl) rfl
theorem en126 : Enters Try.prog 126 := enters_of Try.func126 (by kernel_rfl) rfl
theorem en127 : Enters Try.prog 127 := enters_of Try.func127 (by kernel_rfl) rfl
theorem en128 : Enters Try.prog 128 := enters_of Try.func128 (by kernel_rfl) rfl
theorem en129 : Enters Try.prog 129 := enters_of Try.func129 (by kernel_rfl) rfl
theorem en130 : Enters Try.prog 130 := enters_of Try.func130 (by kernel_rfl) rfl
theorem en131 : Enters Try.prog 131 := enters_of Try.func131 (by kernel_rfl) rfl
theorem en132 : Enters Try.prog 132 := enters_of Try.func132 (by kernel_rfl) rfl
theorem en133 : Enters Try.prog 133 := enters_of Try.func133 (by kernel_rfl) rfl
theorem en134 : Enters Try.prog 134 := enters_of Try.func134 (by kernel_rfl) rfl
theorem en135 : Enters Try.prog 135 := enters_of Try.func135 (by kernel_rfl) rfl
theorem en136 : Enters Try.prog 136 := enters_of Try.func136 (by kernel_rfl) rfl
theorem en137 : Enters Try.prog 137 := enters_of Try.func137 (by kernel_rfl) rfl
theorem en138 : Enters Try.prog 138 := enters_of Try.func138 (by kernel_rfl) rfl
theorem en139 : Enters Try.prog 139 := enters_of Try.func139 (by kernel_rfl) rfl
theorem en140 : Enters Try.prog 140 := enters_of Try.func140 (by kernel_rfl) rfl
theorem en141 : Enters Try.prog 141 := enters_of Try.func141 (by kernel_rfl) rfl
theorem en142 : Enters Try.prog 142 := enters_of Try.func142 (by kernel_rfl) rfl
theorem en143 : Enters Try.prog 143 := enters_of Try.func143 (by kernel_rfl) rfl
theorem en144 : Enters Try.prog 144 := enters_of Try.func144 (by kernel_rfl) rfl
theorem en145 : Enters Try.prog 145 := enters_of Try.func145 (by kernel_rfl) rfl
theorem en146 : Enters Try.prog 146 := enters_of Try.func146 (by kernel_rfl) rfl
theorem en147 : Enters Try.prog 147 := enters_of Try.func147 (by kernel_rfl) rfl
theorem en148 : Enters Try.prog 148 := enters_of Try.func148 (by kernel_rfl) rfl
theorem en149 : Enters Try.prog 149 := enters_of Try.func149 (by kernel_rfl) rfl
theorem en150 : Enters Try.prog 150 := enters_of Try.func150 (by kernel_rfl) rfl
theorem en151 : Enters Try.prog 151 := enters_of Try.func151 (by kernel_rfl) rfl
theorem en155 : Enters Try.prog 155 := enters_of Try.func155 (by kernel_rfl) rfl
theorem en156 : Enters Try.prog 156 := enters_of Try.func156 (by kernel_rfl) rfl
theorem en157 : Enters Try.prog 157 := enters_of Try.func157 (by kernel_rfl) rfl
theorem en167 : Enters Try.prog 167 := enters_of Try.func167 (by kernel_rfl) rfl
theorem en168 : Enters Try.prog 168 := enters_of Try.func168 (by kernel_rfl) rfl
theorem en169 : Enters Try.prog 169 := enters_of Try.func169 (by kernel_rfl) rfl
theorem en170 : Enters Try.prog 170 := enters_of Try.func170 (by kernel_rfl) rfl
theorem en171 : Enters Try.prog 171 := enters_of Try.func171 (by kernel_rfl) rfl
theorem en172 : Enters Try.prog 172 := enters_of Try.func172 (by kernel_rfl) rfl
theorem en173 : Enters Try.prog 173 := enters_of Try.func173 (by kernel_rfl) rfl
theorem en174 : Enters Try.prog 174 := enters_of Try.func174 (by kernel_rfl) rfl
theorem en175 : Enters Try.prog 175 := enters_of Try.func175 (by kernel_rfl) rfl
theorem en176 : Enters Try.prog 176 := enters_of Try.func176 (by kernel_rfl) rfl
theorem en177 : Enters Try.prog 177 := enters_of Try.func177 (by kernel_rfl) rfl
theorem en178 : Enters Try.prog 178 := enters_of Try.func178 (by kernel_rfl) rfl
theorem en179 : Enters Try.prog 179 := enters_of Try.func179 (by kernel_rfl) rfl
theorem en180 : Enters Try.prog 180 := enters_of Try.func180 (by kernel_rfl) rfl
theorem en181 : Enters Try.prog 181 := enters_of Try.func181 (by kernel_rfl) rfl
theorem en182 : Enters Try.prog 182 := enters_of Try.func182 (by kernel_rfl) rfl
end Go.Proofs.Ytmkmphdfpghjbaa
