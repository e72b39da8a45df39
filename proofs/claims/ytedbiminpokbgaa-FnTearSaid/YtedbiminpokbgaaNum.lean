/- Contracts: numbers in bytes, checksums, digits. -/
import Derived.Test.YtedbiminpokbgaaNumL
import Derived.Test.YtedbiminpokbgaaPure
import Derived.Test.YtedbiminpokbgaaAny
import Derived.Lib.Bytealg
namespace Go.Proofs.Ytedbiminpokbgaa
open Go.RowKit
attribute [local irreducible] TL TC TN TX TR TQ TA Pu Ret

section
variable {P : Program} {C : World → Prop} {n : Nat} {l : Env} {dd : Option Nat} {ty : TypeId} {pos : String} {af : Array Edge} {v : Value}
/-- A call of a function that the model carries out itself. -/
theorem Pu_extern {f : FuncId} {xs : List Operand} {ats : Array TypeId} {vs : List Value} (hx : evs l xs = some vs) (hr : ∀ w, (callFunc f vs.toArray).run P w = .ok (.value v) w) :
    Pu P C n l ⟨dd, .call { callee := .value (.func f), args := xs.toArray, argTypes := ats }, ty, pos, af, none⟩ v := by
  unfold Pu
  intro a ha w _
  have hm : xs.toArray.map a.eval = vs.toArray := by rw [List.map_toArray, ha.evals hx]
  have hm' : #[] ++ xs.toArray.map a.eval ++ #[] = vs.toArray := by simpa using hm
  unfold execOp
  simp only [resolve, Act.eval, Deferred.ofValue, Sem.run_bind, Sem.run_pure, Result.andThen_ok, invoke]
  show (callFunc f (#[] ++ xs.toArray.map (fun x => a.eval x) ++ #[])).run P w = _
  rw [show (fun x => a.eval x) = a.eval from rfl, hm', hr w]
end
theorem shr_pow {n : Int} (k : Nat) (hk : k < 4) : n.fdiv (2 ^ (min (8 * (k : Int)).toNat IntKind.i64.bits)) = n / 256 ^ k := by
  rw [Int.fdiv_eq_ediv_of_nonneg _ (by exact Int.pow_nonneg (by omega))]
  congr 1
  match k, hk with
  | 0, _ | 1, _ | 2, _ | 3, _ => decide
theorem pb_rem (x : Int) : UInt8.ofNat (x % 256 % 256).toNat = pb x := by unfold pb; rw [Int.emod_emod_of_dvd _ (Int.dvd_refl 256)]
theorem pPut_no {b : List UInt8} {n size : Int} (h : ¬ (1 ≤ size ∧ size ≤ 4 ∧ 0 ≤ n ∧ n < 256 ^ size.toNat ∧ (b.length : Int) + size ≤ 65536)) : pPut b n size = ([], false) := by unfold pPut; rw [if_neg h]
theorem pPut_yes {b : List UInt8} {n size : Int} (h : 1 ≤ size ∧ size ≤ 4 ∧ 0 ≤ n ∧ n < 256 ^ size.toNat ∧ (b.length : Int) + size ≤ 65536) : pPut b n size = (b ++ putR n size.toNat, true) := by unfold pPut; rw [if_pos h]
theorem in_t {n lo hi : Int} (w : World) (h : lo ≤ n ∧ n ≤ hi) : Ret Try.prog 60 #[I n, I lo, I hi] w fun v w' => v = .bool true ∧ w = w' := (in_c n lo hi w).mono fun v w' ⟨h1, h2⟩ => ⟨by rw [h1]; simp [inB, h], h2⟩
theorem in_f {n lo hi : Int} (w : World) (h : ¬ (lo ≤ n ∧ n ≤ hi)) : Ret Try.prog 60 #[I n, I lo, I hi] w fun v w' => v = .bool false ∧ w = w' := (in_c n lo hi w).mono fun v w' ⟨h1, h2⟩ => ⟨by rw [h1]; unfold inB; rw [decide_eq_false h], h2⟩
theorem shl_pow : ∀ (k : Nat), k ≤ 4 → IntKind.i64.wrap (1 * 2 ^ min (8 * (k : Int)).toNat IntKind.i64.bits) = 256 ^ k
  | 0, _ => by decide
  | 1, _ => by decide
  | 2, _ => by decide
  | 3, _ => by decide
  | 4, _ => by decide
  | k + 5, h => by omega
theorem pGet_no {b : List UInt8} {a size : Int} (h : ¬ (1 ≤ size ∧ size ≤ 4 ∧ 0 ≤ a ∧ a ≤ b.length - size)) : pGet b a size = (0, false) := by unfold pGet; rw [if_neg h]
theorem pGet_yes {b : List UInt8} {a size : Int} (h : 1 ≤ size ∧ size ≤ 4 ∧ 0 ≤ a ∧ a ≤ b.length - size) : pGet b a size = (getF b a.toNat size.toNat, true) := by unfold pGet; rw [if_pos h]
theorem pow3 : ∀ k : Nat, k ≤ 3 → (256 : Int) ^ k ≤ 16777216
  | 0, _ => by decide
  | 1, _ => by decide
  | 2, _ => by decide
  | 3, _ => by decide
  | k + 4, h => by omega
theorem getF_bound (b : List UInt8) (a : Nat) {k : Nat} (hk : k < 4) : 0 ≤ getF b a k ∧ getF b a k < 16777216 := by
  have h := getF_lt b a k
  refine ⟨getF_nn b a k, ?_⟩
  have := pow3 k (by omega)
  omega
theorem bit_or8 (m : Int) (x : UInt8) (h0 : 0 ≤ m) (h1 : m < 16777216) : bitv .or .i64 (IntKind.i64.wrap (m * 2 ^ min (8 : Int).toNat IntKind.i64.bits)) (x.toNat : Int) = m * 256 + x.toNat := by
  have hx := x.toNat_lt
  obtain ⟨a, rfl⟩ := Int.eq_ofNat_of_zero_le h0
  have e1 : IntKind.i64.wrap ((a : Int) * 2 ^ min (8 : Int).toNat IntKind.i64.bits) = ((a * 256 : Nat) : Int) := by
    rw [show min (8 : Int).toNat IntKind.i64.bits = 8 from by decide, IntWalk.i64_in _ (by omega)]; omega
  rw [e1]
  have e3 : a * 256 ||| x.toNat = a * 256 + x.toNat := by
    have := Nat.shiftLeft_add_eq_or_of_lt (i := 8) (b := x.toNat) (by omega) a
    rw [Nat.shiftLeft_eq] at this
    exact this.symm
  have e2 : (BitVec.ofInt 64 ((a * 256 : Nat) : Int) ||| BitVec.ofInt 64 (x.toNat : Int)).toNat = a * 256 + x.toNat := by
    rw [BitVec.ofInt_natCast, BitVec.ofInt_natCast, BitVec.toNat_or, BitVec.toNat_ofNat, BitVec.toNat_ofNat, Nat.mod_eq_of_lt (by omega), Nat.mod_eq_of_lt (by omega), e3]
  show IntKind.i64.wrap (((BitVec.ofInt 64 ((a * 256 : Nat) : Int) ||| BitVec.ofInt 64 (x.toNat : Int)).toNat : Nat) : Int) = _
  rw [e2, IntWalk.i64_in _ (by omega)]; omega
end Go.Proofs.Ytedbiminpokbgaa
