/- Contracts of the functions that only compute: ranges, runes, names, entries. -/
import Derived.Test.YtohbamaomaadiaaDoorTy
namespace Go.Proofs.YtohbamaomaadiaaDoor
open Go.RowKit
attribute [local irreducible] TL TC TN TX TR TQ Pu Ret

def inB (n lo hi : Int) : Bool := decide (lo ≤ n ∧ n ≤ hi)
def pRuneOk (r : Int) : Bool := decide (0 ≤ r ∧ r ≤ 1114111 ∧ (r < 55296 ∨ 57343 < r))
def pPrintable (r : Int) : Bool := decide (32 ≤ r ∧ r ≤ 1114111 ∧ (r < 55296 ∨ 57343 < r) ∧ (r < 127 ∨ 159 < r))
def pClass (r : Int) : Int := if r = 9 ∨ r = 10 ∨ r = 32 then 0 else if (97 ≤ r ∧ r ≤ 122) ∨ (65 ≤ r ∧ r ≤ 90) ∨ (48 ≤ r ∧ r ≤ 57) ∨ r = 95 ∨ (159 < r ∧ pPrintable r = true) then 1 else 2
def okByte (b : UInt8) : Bool := decide (97 ≤ (b.toNat : Int) ∧ (b.toNat : Int) ≤ 122)
def pName (s : List UInt8) : Bool := decide (1 ≤ s.length ∧ s.length ≤ 12) && s.all okByte
def pEntry (num : Int) (text : List UInt8) : Bool := decide (1 ≤ num ∧ num ≤ 1000000000 ∧ 1 ≤ text.length ∧ text.length ≤ 1000)
theorem boolv {a b : Bool} (h : a = true ↔ b = true) : Value.bool a = Value.bool b := by rw [Bool.eq_iff_iff.2 h]
theorem okTake {s : List UInt8} {k : Nat} (h : k < s.length) : (s.take (k + 1)).all okByte = ((s.take k).all okByte && okByte (at8 s k)) := by
  rw [List.take_succ_eq_append_getElem h, List.all_append]
  simp only [at8, Int.toNat_natCast, List.getD_eq_getElem?_getD, List.getElem?_eq_getElem h, Option.getD_some, List.all_cons, List.all_nil, Bool.and_true]
theorem okBad {s : List UInt8} {k : Nat} (h : k < s.length) (hb : okByte (at8 s k) = false) : s.all okByte = false := by
  rw [List.all_eq_false]
  refine ⟨s[k], List.getElem_mem h, ?_⟩
  simpa [at8, List.getD_eq_getElem?_getD, List.getElem?_eq_getElem h] using hb

theorem in_c (n lo hi : Int) (w : World) : Ret Tryd.prog 33 #[I n, I lo, I hi] w fun v w' => v = .bool (inB n lo hi) ∧ w = w' := by
  refine Ret_enter Tryd.func33 rfl rfl rfl ?_
  repeat' (first | apply TL_nil | apply TN_then | apply TC_seq | apply TC_region | apply TC_ret | apply TR_then | apply TR_block | apply TN_block | apply TC_block | apply TC_skip | apply TC_exit | apply TX_then | apply TX_hit | (refine TX_miss rfl ?_) | (refine TC_condT rfl ?_) | (refine TC_condF rfl ?_) | (apply TL_pu; (first | exact Pu_move rfl | exact Pu_assign rfl | exact Pu_len Us.h rfl | exact Pu_lss rfl rfl | exact Pu_extract rfl rfl | exact Pu_add rfl rfl (by omega) | exact Pu_indexAddr1 Us.h Sz.h rfl rfl (by omega) | exact Pu_pickT rfl rfl | exact Pu_pickF rfl rfl | exact Pu_not rfl | exact Pu_eql rfl rfl | exact Pu_neq rfl rfl | exact Pu_gtr rfl rfl | exact Pu_leq rfl rfl | exact Pu_geq rfl rfl | exact Pu_sub rfl rfl (by omega) | exact Pu_lens Us.h rfl | exact Pu_indexAddr Us.h Sz.h rfl rfl (by omega) | exact Pu_eqls rfl rfl | exact Pu_neqs rfl rfl | exact Pu_eqlb Us.h rfl rfl | exact Pu_neqb Us.h rfl rfl | exact Pu_conv8 Us.h Us.h rfl | exact Pu_conv Us.h Us.h rfl (by omega) | exact Pu_min rfl rfl | exact Pu_max rfl rfl | exact Pu_nilCheck rfl | exact Pu_indexs Us.h rfl rfl (by omega) | exact Pu_slice Us.h Sz.h rfl rfl rfl (by omega) | exact Pu_sliceFrom Us.h Sz.h rfl rfl (by omega) | exact Pu_sliceTo Us.h Sz.h rfl rfl (by omega) | exact Pu_slices Us.h rfl rfl rfl (by omega) | exact Pu_slicesfrom Us.h rfl rfl (by omega) | exact Pu_sliceto Us.h rfl rfl (by omega) | exact Pu_quo rfl rfl (by omega) | exact Pu_rem rfl rfl (by omega) | exact Pu_mul rfl rfl (by omega) | (apply Pu_fieldAddr2; exact Us.h; exact rfl; exact Sz.h; exact rfl)); exact rfl) | refine TL_want rfl rfl rfl ?_ | refine TL_pass rfl rfl rfl rfl rfl ?_ | refine TL_pass_undef rfl rfl rfl rfl ?_ | (refine TL_gsplitD rfl rfl (fun hb => ?_) (fun hb => ?_) <;> (try (exfalso; omega))) | (refine TL_gsplitN rfl rfl (fun hb => ?_) (fun hb => ?_) <;> (try (exfalso; omega))) | refine TL_gsplit rfl rfl (fun hb => ?_) (fun hb => ?_) | (refine TC_condD rfl (fun hb => ?_) (fun hb => ?_) <;> (try (exfalso; omega))) | (refine TC_condN rfl (fun hb => ?_) (fun hb => ?_) <;> (try (exfalso; omega))) | refine TC_cond rfl (fun hb => ?_) (fun hb => ?_))
  all_goals exact TR_of (res1 rfl rfl) ⟨boolv (by simp [inB]; omega), rfl⟩
end Go.Proofs.YtohbamaomaadiaaDoor
