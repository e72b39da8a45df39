/- One rule for each operation of the walked code that leaves memory as it is. No condition. -/
import Derived.Test.YtggaghghclomkaaGreatEng
namespace Go.Proofs.YtggaghghclomkaaGreat
open Go.RowKit

@[reducible] def S (s : List UInt8) : Value := .string ⟨s.toArray⟩
@[reducible] def I (x : Int) : Value := .int .i64 x
@[reducible] def B8 (b : UInt8) : Value := .int .u8 (b.toNat : Int)

section
variable {P : Program} {C : World → Prop} {n : Nat} {l : Env} {dd : Option Nat} {ty : TypeId} {pos : String} {af : Array Edge} {v : Value} {x y i : Operand}

theorem Jaa (hx : ev l x = some v) : Pu P C n l ⟨dd, .move x, ty, pos, af, none⟩ v := fun a ha w _ => by
  have := ha.eval hx
  simp [execOp, this]
theorem Jab (hx : ev l x = some v) : Pu P C n l ⟨dd, .assign x, ty, pos, af, none⟩ v := fun a ha w _ => by
  have := ha.eval hx
  simp [execOp, this]
theorem Jah {c : Operand} (hc : ev l c = some (.bool true)) (hx : ev l x = some v) : Pu P C n l ⟨dd, .pick c x y, ty, pos, af, none⟩ v := fun a ha w _ => by
  simp [execOp, ha.eval hc, ha.eval hx, asBool]
theorem Jai {c : Operand} (hc : ev l c = some (.bool false)) (hy : ev l y = some v) : Pu P C n l ⟨dd, .pick c x y, ty, pos, af, none⟩ v := fun a ha w _ => by
  simp [execOp, ha.eval hc, ha.eval hy, asBool]

/-! integers -/
variable {k k1 k2 : IntKind} {a b : Int} {t t' : TypeId}
theorem Jad (hx : ev l x = some (.int k a)) (hy : ev l y = some (.int k b)) : Pu P C n l ⟨dd, .binOp .lss t x y t', ty, pos, af, none⟩ (.bool (decide (a < b))) := fun s hs w _ => by
  simp [execOp, hs.eval hx, hs.eval hy, eqGuard, binOp, Op.intCmp]
theorem Jan (hx : ev l x = some (.int k a)) (hy : ev l y = some (.int k b)) : Pu P C n l ⟨dd, .binOp .leq t x y t', ty, pos, af, none⟩ (.bool (decide (a ≤ b))) := fun s hs w _ => by
  simp [execOp, hs.eval hx, hs.eval hy, eqGuard, binOp, Op.intCmp]
theorem Jam (hx : ev l x = some (.int k a)) (hy : ev l y = some (.int k b)) : Pu P C n l ⟨dd, .binOp .gtr t x y t', ty, pos, af, none⟩ (.bool (decide (b < a))) := fun s hs w _ => by
  simp [execOp, hs.eval hx, hs.eval hy, eqGuard, binOp, Op.intCmp]
theorem Jao (hx : ev l x = some (.int k a)) (hy : ev l y = some (.int k b)) : Pu P C n l ⟨dd, .binOp .geq t x y t', ty, pos, af, none⟩ (.bool (decide (b ≤ a))) := fun s hs w _ => by
  simp [execOp, hs.eval hx, hs.eval hy, eqGuard, binOp, Op.intCmp]
theorem Jak (hx : ev l x = some (.int k a)) (hy : ev l y = some (.int k b)) : Pu P C n l ⟨dd, .binOp .eql t x y t', ty, pos, af, none⟩ (.bool (decide (a = b))) := fun s hs w _ => by
  simp only [execOp, hs.eval hx, hs.eval hy, eqGuard_at_int, binOp_eql]; simp; rfl
theorem Jal (hx : ev l x = some (.int k a)) (hy : ev l y = some (.int k b)) : Pu P C n l ⟨dd, .binOp .neq t x y t', ty, pos, af, none⟩ (.bool (!decide (a = b))) := fun s hs w _ => by
  simp only [execOp, hs.eval hx, hs.eval hy, eqGuard_at_int, binOp_neq]; simp; rfl
theorem Pu_addw (hx : ev l x = some (.int k a)) (hy : ev l y = some (.int k b)) : Pu P C n l ⟨dd, .binOp .add t x y t', ty, pos, af, none⟩ (.int k (k.wrap (a + b))) := fun s hs w _ => by
  simp [execOp, hs.eval hx, hs.eval hy, eqGuard, binOp, Op.intArith]
theorem Pu_subw (hx : ev l x = some (.int k a)) (hy : ev l y = some (.int k b)) : Pu P C n l ⟨dd, .binOp .sub t x y t', ty, pos, af, none⟩ (.int k (k.wrap (a - b))) := fun s hs w _ => by
  simp [execOp, hs.eval hx, hs.eval hy, eqGuard, binOp, Op.intArith]
theorem Pu_mulw (hx : ev l x = some (.int k a)) (hy : ev l y = some (.int k b)) : Pu P C n l ⟨dd, .binOp .mul t x y t', ty, pos, af, none⟩ (.int k (k.wrap (a * b))) := fun s hs w _ => by
  simp [execOp, hs.eval hx, hs.eval hy, eqGuard, binOp, Op.intArith]
theorem Jaf (hx : ev l x = some (I a)) (hy : ev l y = some (I b)) (h : -9223372036854775808 ≤ a + b ∧ a + b ≤ 9223372036854775807) : Pu P C n l ⟨dd, .binOp .add t x y t', ty, pos, af, none⟩ (I (a + b)) := by
  have := Pu_addw (P := P) (C := C) (n := n) (dd := dd) (ty := ty) (pos := pos) (af := af) (t := t) (t' := t') hx hy
  rwa [IntWalk.i64_in _ h] at this
theorem Jap (hx : ev l x = some (I a)) (hy : ev l y = some (I b)) (h : -9223372036854775808 ≤ a - b ∧ a - b ≤ 9223372036854775807) : Pu P C n l ⟨dd, .binOp .sub t x y t', ty, pos, af, none⟩ (I (a - b)) := by
  have := Pu_subw (P := P) (C := C) (n := n) (dd := dd) (ty := ty) (pos := pos) (af := af) (t := t) (t' := t') hx hy
  rwa [IntWalk.i64_in _ h] at this
theorem Jbk (hx : ev l x = some (I a)) (hy : ev l y = some (I b)) (h : -9223372036854775808 ≤ a * b ∧ a * b ≤ 9223372036854775807) : Pu P C n l ⟨dd, .binOp .mul t x y t', ty, pos, af, none⟩ (I (a * b)) := by
  have := Pu_mulw (P := P) (C := C) (n := n) (dd := dd) (ty := ty) (pos := pos) (af := af) (t := t) (t' := t') hx hy
  rwa [IntWalk.i64_in _ h] at this
theorem Jbi (hx : ev l x = some (I a)) (hy : ev l y = some (I b)) (h : 0 ≤ a ∧ a ≤ 9223372036854775807 ∧ 1 ≤ b) : Pu P C n l ⟨dd, .binOp .quo t x y t', ty, pos, af, none⟩ (I (a / b)) := fun s hs w _ => by
  have hb : b ≠ 0 := by omega
  have := IntWalk.i64_quo a b h
  simp only [I] at *
  simp [execOp, hs.eval hx, hs.eval hy, eqGuard, binOp, Op.intDiv, hb, this]
theorem Pu_quow (hx : ev l x = some (I a)) (hy : ev l y = some (I b)) (h : b ≠ 0) : Pu P C n l ⟨dd, .binOp .quo t x y t', ty, pos, af, none⟩ (I (IntKind.i64.wrap (a.tdiv b))) := fun s hs w _ => by
  simp only [I] at *
  simp [execOp, hs.eval hx, hs.eval hy, eqGuard, binOp, Op.intDiv, h]
theorem Jbj (hx : ev l x = some (I a)) (hy : ev l y = some (I b)) (h : 0 ≤ a ∧ 1 ≤ b) : Pu P C n l ⟨dd, .binOp .rem t x y t', ty, pos, af, none⟩ (I (a % b)) := fun s hs w _ => by
  have hb : b ≠ 0 := by omega
  have := IntWalk.rem_in a b h.1
  simp only [I] at *
  simp [execOp, hs.eval hx, hs.eval hy, eqGuard, binOp, Op.intDiv, hb, this]
theorem Pu_remw (hx : ev l x = some (I a)) (hy : ev l y = some (I b)) (h : b ≠ 0) : Pu P C n l ⟨dd, .binOp .rem t x y t', ty, pos, af, none⟩ (I (a.tmod b)) := fun s hs w _ => by
  simp only [I] at *
  simp [execOp, hs.eval hx, hs.eval hy, eqGuard, binOp, Op.intDiv, h]
theorem Pu_shr (hx : ev l x = some (.int k a)) (hy : ev l y = some (.int k1 b)) (h : 0 ≤ b) : Pu P C n l ⟨dd, .binOp .shr t x y t', ty, pos, af, none⟩ (.int k (a.fdiv (2 ^ (min b.toNat k.bits)))) := fun s hs w _ => by
  simp [execOp, hs.eval hx, hs.eval hy, eqGuard, binOp, Op.shift, show ¬ b < 0 by omega]
theorem Pu_shl (hx : ev l x = some (.int k a)) (hy : ev l y = some (.int k1 b)) (h : 0 ≤ b) : Pu P C n l ⟨dd, .binOp .shl t x y t', ty, pos, af, none⟩ (.int k (k.wrap (a * 2 ^ (min b.toNat k.bits)))) := fun s hs w _ => by
  simp [execOp, hs.eval hx, hs.eval hy, eqGuard, binOp, Op.shift, show ¬ b < 0 by omega]
def bitv (op : BinOp) (k : IntKind) (a b : Int) : Int :=
  match op with
  | .and => k.wrap ((BitVec.ofInt k.bits a &&& BitVec.ofInt k.bits b).toNat : Int)
  | .or => k.wrap ((BitVec.ofInt k.bits a ||| BitVec.ofInt k.bits b).toNat : Int)
  | _ => k.wrap ((BitVec.ofInt k.bits a ^^^ BitVec.ofInt k.bits b).toNat : Int)
theorem Pu_and (hx : ev l x = some (.int k a)) (hy : ev l y = some (.int k b)) : Pu P C n l ⟨dd, .binOp .and t x y t', ty, pos, af, none⟩ (.int k (bitv .and k a b)) := fun s hs w _ => by
  simp [execOp, hs.eval hx, hs.eval hy, eqGuard, binOp, Op.intBits, bitv]
theorem Pu_or (hx : ev l x = some (.int k a)) (hy : ev l y = some (.int k b)) : Pu P C n l ⟨dd, .binOp .or t x y t', ty, pos, af, none⟩ (.int k (bitv .or k a b)) := fun s hs w _ => by
  simp [execOp, hs.eval hx, hs.eval hy, eqGuard, binOp, Op.intBits, bitv]
theorem Pu_xor (hx : ev l x = some (.int k a)) (hy : ev l y = some (.int k b)) : Pu P C n l ⟨dd, .binOp .xor t x y t', ty, pos, af, none⟩ (.int k (bitv .xor k a b)) := fun s hs w _ => by
  simp [execOp, hs.eval hx, hs.eval hy, eqGuard, binOp, Op.intBits, bitv]
theorem Pu_neg (hx : ev l x = some (.int k a)) : Pu P C n l ⟨dd, .unOp .neg t x, ty, pos, af, none⟩ (.int k (k.wrap (0 - a))) := fun s hs w _ => by
  simp [execOp, hs.eval hx, Op.unary, Op.intArith]
theorem Pu_com (hx : ev l x = some (.int k a)) : Pu P C n l ⟨dd, .unOp .xor t x, ty, pos, af, none⟩ (.int k (bitv .xor k (if k.signed then -1 else k.max) a)) := fun s hs w _ => by
  simp [execOp, hs.eval hx, Op.unary, Op.intBits, bitv]
theorem Jaj {p : Bool} (hx : ev l x = some (.bool p)) : Pu P C n l ⟨dd, .unOp .not t x, ty, pos, af, none⟩ (.bool (!p)) := fun s hs w _ => by
  simp [execOp, hs.eval hx, Op.unary]
theorem Pu_convw (hs : P.underlying t = some (.int k1)) (hd : P.underlying t' = some (.int k2)) (hx : ev l x = some (.int k a)) :
    Pu P C n l ⟨dd, .convert t t' x, ty, pos, af, none⟩ (.int k2 (k2.wrap a)) := fun s h w _ => by
  simp [execOp, h.eval hx, convert, run_underlying hs, run_underlying hd, Conv.intToInt]
theorem Jax (hs : P.underlying t = some (.int k1)) (hd : P.underlying t' = some (.int .i64)) (hx : ev l x = some (.int k a)) (h : -9223372036854775808 ≤ a ∧ a ≤ 9223372036854775807) :
    Pu P C n l ⟨dd, .convert t t' x, ty, pos, af, none⟩ (I a) := by
  have := Pu_convw (P := P) (C := C) (n := n) (dd := dd) (ty := ty) (pos := pos) (af := af) hs hd hx
  rwa [IntWalk.i64_in _ h] at this
theorem wrap8_byte (a : Int) : IntKind.u8.wrap a = ((UInt8.ofNat (a % 256).toNat).toNat : Int) := by
  rw [IntKind.wrap_u8]; simp; omega
theorem Jaw (hs : P.underlying t = some (.int k1)) (hd : P.underlying t' = some (.int .u8)) (hx : ev l x = some (.int k a)) :
    Pu P C n l ⟨dd, .convert t t' x, ty, pos, af, none⟩ (B8 (UInt8.ofNat (a % 256).toNat)) := by
  have := Pu_convw (P := P) (C := C) (n := n) (dd := dd) (ty := ty) (pos := pos) (af := af) hs hd hx
  rwa [wrap8_byte] at this

theorem Jbm (hx : ev l x = some (.int k a)) (hy : ev l y = some (.int k a)) : Pu P C n l ⟨dd, .binOp .neq t x y t', ty, pos, af, none⟩ (.bool false) := by
  have := Jal (P := P) (C := C) (n := n) (dd := dd) (ty := ty) (pos := pos) (af := af) (t := t) (t' := t') hx hy
  simpa using this
/-! bools, tuples, strings -/
theorem equal_bool {p q : Bool} (ht : P.underlying t = some .bool) (w : World) : (Op.equal t (.bool p) (.bool q)).run P w = .ok (p == q) w := by
  have h : ∀ d : Nat, (Op.equalIn (d + 1) t (.bool p) (.bool q)).run P w = .ok (p == q) w := fun d => by
    rw [Op.equalIn, Sem.run_bind, run_underlying ht w]; rfl
  exact h 9999
theorem Jau {p q : Bool} (ht : P.underlying t = some .bool) (hx : ev l x = some (.bool p)) (hy : ev l y = some (.bool q)) : Pu P C n l ⟨dd, .binOp .eql t x y t', ty, pos, af, none⟩ (.bool (p == q)) := fun s hs w _ => by
  have e : (binOp .eql t (.bool p) (.bool q)).run P w = .ok (.bool (p == q)) w := by
    show (do pure (.bool (← Op.equal t (.bool p) (.bool q))) : Sem Value).run P w = _
    rw [Sem.run_bind, equal_bool ht w]; rfl
  simp only [execOp, hs.eval hx, hs.eval hy, eqGuard_at_bool, Sem.run_bind, Sem.run_pure, Result.andThen_ok, e]
theorem Jav {p q : Bool} (ht : P.underlying t = some .bool) (hx : ev l x = some (.bool p)) (hy : ev l y = some (.bool q)) : Pu P C n l ⟨dd, .binOp .neq t x y t', ty, pos, af, none⟩ (.bool (!(p == q))) := fun s hs w _ => by
  have e : (binOp .neq t (.bool p) (.bool q)).run P w = .ok (.bool (!(p == q))) w := by
    show (do pure (.bool (!(← Op.equal t (.bool p) (.bool q)))) : Sem Value).run P w = _
    rw [Sem.run_bind, equal_bool ht w]; rfl
  simp only [execOp, hs.eval hx, hs.eval hy, eqGuard_at_bool, Sem.run_bind, Sem.run_pure, Result.andThen_ok, e]
theorem Jbn {p : Bool} (ht : P.underlying t = some .bool) (hx : ev l x = some (.bool p)) (hy : ev l y = some (.bool p)) : Pu P C n l ⟨dd, .binOp .neq t x y t', ty, pos, af, none⟩ (.bool false) := by
  have := Jav (P := P) (C := C) (n := n) (dd := dd) (ty := ty) (pos := pos) (af := af) (t := t) (t' := t') ht hx hy
  simpa using this
def nthV : List Value → Nat → Option Value
  | [], _ => none
  | u :: _, 0 => some u
  | _ :: r, j + 1 => nthV r j
theorem nthV_eq : ∀ (vs : List Value) (j : Nat), nthV vs j = vs[j]?
  | [], j => by simp [nthV]
  | u :: r, 0 => by simp [nthV]
  | u :: r, j + 1 => by simp [nthV, nthV_eq r j]
theorem Jae {vs : List Value} {j : Nat} (hx : ev l x = some (.tuple vs.toArray)) (hv : nthV vs j = some v) : Pu P C n l ⟨dd, .extract x j, ty, pos, af, none⟩ v := fun s hs w _ => by
  rw [nthV_eq] at hv
  simp [execOp, hs.eval hx, Instr.extract, hv]
variable {s1 s2 : List UInt8}
theorem beq_eq_decide (a b : List UInt8) : (a == b) = decide (a = b) := by by_cases h : a = b <;> simp [h]
theorem S_toList (s : List UInt8) : (ByteArray.mk s.toArray).toList = s := ByteArray.toList_mk s
theorem Jas (hx : ev l x = some (S s1)) (hy : ev l y = some (S s2)) : Pu P C n l ⟨dd, .binOp .eql t x y t', ty, pos, af, none⟩ (.bool (decide (s1 = s2))) := fun s hs w _ => by
  simp only [execOp, hs.eval hx, hs.eval hy, eqGuard_at_string, binOp_string_eql, S_toList, beq_eq_decide]; simp
theorem Jat (hx : ev l x = some (S s1)) (hy : ev l y = some (S s2)) : Pu P C n l ⟨dd, .binOp .neq t x y t', ty, pos, af, none⟩ (.bool (!decide (s1 = s2))) := fun s hs w _ => by
  simp only [execOp, hs.eval hx, hs.eval hy, eqGuard_at_string, binOp_string_neq, S_toList, beq_eq_decide]; simp
theorem Jbo (hx : ev l x = some (S s1)) (hy : ev l y = some (S s1)) : Pu P C n l ⟨dd, .binOp .neq t x y t', ty, pos, af, none⟩ (.bool false) := by
  have := Jat (P := P) (C := C) (n := n) (dd := dd) (ty := ty) (pos := pos) (af := af) (t := t) (t' := t') hx hy
  simpa using this
theorem Jbp (hx : ev l x = some (S s1)) (hy : ev l y = some (S s1)) : Pu P C n l ⟨dd, .binOp .eql t x y t', ty, pos, af, none⟩ (.bool true) := by
  have := Jas (P := P) (C := C) (n := n) (dd := dd) (ty := ty) (pos := pos) (af := af) (t := t) (t' := t') hx hy
  simpa using this
theorem Pu_lsss (hx : ev l x = some (S s1)) (hy : ev l y = some (S s2)) : Pu P C n l ⟨dd, .binOp .lss t x y t', ty, pos, af, none⟩ (.bool (Op.bytesLess s1 s2)) := fun s hs w _ => by
  simp [execOp, hs.eval hx, hs.eval hy, eqGuard_at_string, binOp, Op.stringOp]
theorem Pu_gtrs (hx : ev l x = some (S s1)) (hy : ev l y = some (S s2)) : Pu P C n l ⟨dd, .binOp .gtr t x y t', ty, pos, af, none⟩ (.bool (!(Op.bytesLess s1 s2 || s1 == s2))) := fun s hs w _ => by
  simp [execOp, hs.eval hx, hs.eval hy, eqGuard_at_string, binOp, Op.stringOp]
theorem Pu_geqs (hx : ev l x = some (S s1)) (hy : ev l y = some (S s2)) : Pu P C n l ⟨dd, .binOp .geq t x y t', ty, pos, af, none⟩ (.bool (!(Op.bytesLess s1 s2))) := fun s hs w _ => by
  simp [execOp, hs.eval hx, hs.eval hy, eqGuard_at_string, binOp, Op.stringOp]
theorem Pu_adds (hx : ev l x = some (S s1)) (hy : ev l y = some (S s2)) (h : s1.length + s2.length ≤ 4611686018427387904) : Pu P C n l ⟨dd, .binOp .add t x y t', ty, pos, af, none⟩ (S (s1 ++ s2)) := fun s hs w _ => by
  have e : (ByteArray.mk s1.toArray) ++ (ByteArray.mk s2.toArray) = ByteArray.mk (s1 ++ s2).toArray := by
    apply ByteArray.ext; simp
  have h1 : ¬ ((s1.length + s2.length : Nat) : Int) > IntKind.i64.max := by rw [IntKind.max_i64]; omega
  have h2 : (ByteArray.mk s1.toArray).size = s1.length := by simp [ByteArray.size]
  have h3 : (ByteArray.mk s2.toArray).size = s2.length := by simp [ByteArray.size]
  simp only [execOp, hs.eval hx, hs.eval hy, eqGuard_at_string, binOp_string_add, Op.stringOp, h2, h3, if_neg h1, e]; simp
theorem Jaq (ht : P.underlying t = some .string) (hx : ev l x = some (S s1)) : Pu P C n l ⟨dd, .call { callee := .builtin .len, args := #[x], argTypes := #[t] }, ty, pos, af, none⟩ (I s1.length) := fun s hs w _ => by
  have h2 : (ByteArray.mk s1.toArray).size = s1.length := by simp [ByteArray.size]
  have hl := run_len_string (P := P) t ty (ByteArray.mk s1.toArray) ht (w := w)
  rw [h2] at hl
  simp only [execOp, resolve, invoke, builtin, Sem.run_bind, Sem.run_pure, Result.andThen_ok, List.map_toArray, List.map_cons, List.map_nil, hs.eval hx, hl]; rfl
theorem Jac {e : TypeId} {A : Option Addr} {m c : Nat} (ht : P.underlying t = some (.slice e)) (hx : ev l x = some (.slice A m c)) :
    Pu P C n l ⟨dd, .call { callee := .builtin .len, args := #[x], argTypes := #[t] }, ty, pos, af, none⟩ (I m) := fun s hs w _ => by
  simp [execOp, resolve, invoke, builtin, hs.eval hx, Builtin.len_, run_underlying ht, goInt]
theorem Jay (hx : ev l x = some (I a)) (hy : ev l y = some (I b)) {ats : Array TypeId} : Pu P C n l ⟨dd, .call { callee := .builtin .min, args := #[x, y], argTypes := ats }, ty, pos, af, none⟩ (I (min a b)) := fun s hs w _ => by
  have : (if b < a then b else a) = min a b := by rw [Int.min_def]; split <;> split <;> omega
  simp only [I] at *
  simp only [execOp, resolve, invoke, builtin, Sem.run_bind, Sem.run_pure, Result.andThen_ok, List.map_toArray, List.map_cons, List.map_nil, hs.eval hx, hs.eval hy, Builtin.min_, List.foldlM_cons, List.foldlM_nil, Builtin.min2, this, bind_pure]
theorem Jaz (hx : ev l x = some (I a)) (hy : ev l y = some (I b)) {ats : Array TypeId} : Pu P C n l ⟨dd, .call { callee := .builtin .max, args := #[x, y], argTypes := ats }, ty, pos, af, none⟩ (I (max a b)) := fun s hs w _ => by
  have : (if b > a then b else a) = max a b := by rw [Int.max_def]; split <;> split <;> omega
  simp only [I] at *
  simp only [execOp, resolve, invoke, builtin, Sem.run_bind, Sem.run_pure, Result.andThen_ok, List.map_toArray, List.map_cons, List.map_nil, hs.eval hx, hs.eval hy, Builtin.max_, List.foldlM_cons, List.foldlM_nil, Builtin.max2, this, bind_pure]
def at8 (s : List UInt8) (a : Int) : UInt8 := s.getD a.toNat 0
theorem Jbb (ht : P.underlying t = some .string) (hx : ev l x = some (S s1)) (hi : ev l i = some (.int k a)) (h : 0 ≤ a ∧ a < s1.length) :
    Pu P C n l ⟨dd, .index t x i, ty, pos, af, none⟩ (B8 (at8 s1 a)) := fun s hs w _ => by
  have hlt : a.toNat < s1.length := by omega
  have e : (ByteArray.mk s1.toArray)[a.toNat]? = some (s1.getD a.toNat 0) := by
    have hz : a.toNat < (ByteArray.mk s1.toArray).size := by simpa [ByteArray.size] using hlt
    rw [ByteArray.getElem?_lt' _ _ hz]
    simp [ByteArray.getElem_eq_getElem_data, List.getElem?_eq_getElem hlt]
  simp [execOp, hs.eval hx, hs.eval hi, Instr.index, asIntOf, run_underlying ht, h.1, e, at8]
theorem ext_mk (s : List UInt8) (p q : Nat) : (ByteArray.mk s.toArray).extract p q = ByteArray.mk ((s.take q).drop p).toArray := by
  rw [ByteArray.extract_mk, List.drop_take]
theorem Jbf {h0 : Operand} (ht : P.underlying t = some .string) (hx : ev l x = some (S s1)) (hl : ev l i = some (I a)) (hh : ev l h0 = some (I b)) (h : 0 ≤ a ∧ a ≤ b ∧ b ≤ s1.length) :
    Pu P C n l ⟨dd, .slice t x (some i) (some h0) none, ty, pos, af, none⟩ (S ((s1.take b.toNat).drop a.toNat)) := fun s hs w _ => by
  have h2 : (ByteArray.mk s1.toArray).size = s1.length := by simp [ByteArray.size]
  have e := ext_mk s1 a.toNat b.toNat
  have h3 : a.toNat ≤ b.toNat := by omega
  simp only [I] at *
  simp [execOp, hs.eval hx, hs.eval hl, hs.eval hh, Instr.sliceAt, Instr.slice, Instr.sliceBounds, Instr.sliceBound, asIntOf, run_underlying ht, h2, show 0 ≤ b by omega, h.1, h.2.2, e, show a ≤ max b 0 by omega]
theorem Jbg (ht : P.underlying t = some .string) (hx : ev l x = some (S s1)) (hl : ev l i = some (I a)) (h : 0 ≤ a ∧ a ≤ s1.length) :
    Pu P C n l ⟨dd, .slice t x (some i) none none, ty, pos, af, none⟩ (S (s1.drop a.toNat)) := fun s hs w _ => by
  have h2 : (ByteArray.mk s1.toArray).size = s1.length := by simp [ByteArray.size]
  have e := ext_mk s1 a.toNat s1.length
  rw [List.take_length] at e
  simp only [I] at *
  simp [execOp, hs.eval hx, hs.eval hl, Instr.sliceAt, Instr.slice, Instr.sliceBounds, Instr.sliceBound, asIntOf, run_underlying ht, h2, h.1, h.2, e]
theorem Jbh {h0 : Operand} (ht : P.underlying t = some .string) (hx : ev l x = some (S s1)) (hh : ev l h0 = some (I b)) (h : 0 ≤ b ∧ b ≤ s1.length) :
    Pu P C n l ⟨dd, .slice t x none (some h0) none, ty, pos, af, none⟩ (S (s1.take b.toNat)) := fun s hs w _ => by
  have h2 : (ByteArray.mk s1.toArray).size = s1.length := by simp [ByteArray.size]
  have e := ext_mk s1 0 b.toNat
  rw [List.drop_zero] at e
  simp only [I] at *
  simp [execOp, hs.eval hx, hs.eval hh, Instr.sliceAt, Instr.slice, Instr.sliceBounds, Instr.sliceBound, asIntOf, run_underlying ht, h2, h.1, h.2, e]
end
end Go.Proofs.YtggaghghclomkaaGreat
