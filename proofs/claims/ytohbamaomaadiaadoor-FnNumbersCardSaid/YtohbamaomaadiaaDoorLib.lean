/- Contracts of the small helpers. -/
import Derived.Test.YtohbamaomaadiaaDoorTy
namespace Go.Proofs.YtohbamaomaadiaaDoor
open Go.RowKit
attribute [local irreducible] TL TC TN TX TR TQ Pu Ret

theorem u8s_get (s : List UInt8) {k : Nat} (h : k < s.length) : (u8s s).getD k undef = B8 (s.getD k 0) := by
  simp [u8s, List.getD_eq_getElem?_getD, List.getElem?_eq_getElem h]

theorem copyBytes_c {A : Option Addr} {c lo hi : Nat} {s : List UInt8} {w : World} (hr : Rd w lo hi 1 A s.length (u8s s)) (hl : s.length ≤ 1099511627776) :
    Ret Tryd.prog 35 #[.slice A s.length c] w fun v w' => ∃ A' c', v = .slice A' s.length c' ∧ Ext w w' ∧ Own w' w.heap.size w'.heap.size 5 1 A' s.length c' (u8s s) := by
  refine Ret_enter Tryd.func35 rfl rfl rfl ?_
  repeat' (first | apply TL_nil | apply TN_then | apply TC_seq | apply TC_region | apply TC_ret | apply TR_then | apply TR_block | apply TN_block | apply TC_block | apply TC_skip | apply TC_exit | apply TX_then | apply TX_hit | (refine TX_miss rfl ?_) | (refine TC_condT rfl ?_) | (refine TC_condF rfl ?_) | (apply TL_pu; (first | exact Pu_move rfl | exact Pu_assign rfl | exact Pu_len Us.h rfl | exact Pu_lss rfl rfl | exact Pu_extract rfl rfl | exact Pu_add rfl rfl (by omega) | exact Pu_indexAddr1 Us.h Sz.h rfl rfl (by omega) | exact Pu_pickT rfl rfl | exact Pu_pickF rfl rfl | exact Pu_not rfl | exact Pu_eql rfl rfl | exact Pu_neq rfl rfl | exact Pu_gtr rfl rfl | exact Pu_leq rfl rfl | exact Pu_geq rfl rfl | exact Pu_sub rfl rfl (by omega) | exact Pu_lens Us.h rfl | exact Pu_indexAddr Us.h Sz.h rfl rfl (by omega) | exact Pu_eqls rfl rfl | exact Pu_neqs rfl rfl | exact Pu_eqlb Us.h rfl rfl | exact Pu_neqb Us.h rfl rfl | exact Pu_conv8 Us.h Us.h rfl | exact Pu_conv Us.h Us.h rfl (by omega) | exact Pu_min rfl rfl | exact Pu_max rfl rfl | exact Pu_nilCheck rfl | exact Pu_indexs Us.h rfl rfl (by omega) | exact Pu_slice Us.h Sz.h rfl rfl rfl (by omega) | exact Pu_sliceFrom Us.h Sz.h rfl rfl (by omega) | exact Pu_sliceTo Us.h Sz.h rfl rfl (by omega) | exact Pu_slices Us.h rfl rfl rfl (by omega) | exact Pu_slicesfrom Us.h rfl rfl (by omega) | exact Pu_sliceto Us.h rfl rfl (by omega) | exact Pu_quo rfl rfl (by omega) | exact Pu_rem rfl rfl (by omega) | exact Pu_mul rfl rfl (by omega) | (apply Pu_fieldAddr2; exact Us.h; exact rfl; exact Sz.h; exact rfl)); exact rfl) | refine TL_want rfl rfl rfl ?_ | refine TL_pass rfl rfl rfl rfl rfl ?_ | refine TL_pass_undef rfl rfl rfl rfl ?_)
  refine TL_append Us.h Inf.h rfl rfl rfl rfl (Own.nil w w.heap.size w.heap.size 5 1 (Nat.le_refl _)) hr (u8s_one s) (Nat.le_refl _) (by omega) (by omega) rfl ?_
  intro w1 hi1 A1 c1 hch h1 h2 h3 hown
  have hz := hch.size
  repeat' (first | apply TL_nil | apply TN_then | apply TC_seq | apply TC_region | apply TC_ret | apply TR_then | apply TR_block | apply TN_block | apply TC_block | apply TC_skip | apply TC_exit | apply TX_then | apply TX_hit | (refine TX_miss rfl ?_) | (refine TC_condT rfl ?_) | (refine TC_condF rfl ?_) | (apply TL_pu; (first | exact Pu_move rfl | exact Pu_assign rfl | exact Pu_len Us.h rfl | exact Pu_lss rfl rfl | exact Pu_extract rfl rfl | exact Pu_add rfl rfl (by omega) | exact Pu_indexAddr1 Us.h Sz.h rfl rfl (by omega) | exact Pu_pickT rfl rfl | exact Pu_pickF rfl rfl | exact Pu_not rfl | exact Pu_eql rfl rfl | exact Pu_neq rfl rfl | exact Pu_gtr rfl rfl | exact Pu_leq rfl rfl | exact Pu_geq rfl rfl | exact Pu_sub rfl rfl (by omega) | exact Pu_lens Us.h rfl | exact Pu_indexAddr Us.h Sz.h rfl rfl (by omega) | exact Pu_eqls rfl rfl | exact Pu_neqs rfl rfl | exact Pu_eqlb Us.h rfl rfl | exact Pu_neqb Us.h rfl rfl | exact Pu_conv8 Us.h Us.h rfl | exact Pu_conv Us.h Us.h rfl (by omega) | exact Pu_min rfl rfl | exact Pu_max rfl rfl | exact Pu_nilCheck rfl | exact Pu_indexs Us.h rfl rfl (by omega) | exact Pu_slice Us.h Sz.h rfl rfl rfl (by omega) | exact Pu_sliceFrom Us.h Sz.h rfl rfl (by omega) | exact Pu_sliceTo Us.h Sz.h rfl rfl (by omega) | exact Pu_slices Us.h rfl rfl rfl (by omega) | exact Pu_slicesfrom Us.h rfl rfl (by omega) | exact Pu_sliceto Us.h rfl rfl (by omega) | exact Pu_quo rfl rfl (by omega) | exact Pu_rem rfl rfl (by omega) | exact Pu_mul rfl rfl (by omega) | (apply Pu_fieldAddr2; exact Us.h; exact rfl; exact Sz.h; exact rfl)); exact rfl) | refine TL_want rfl rfl rfl ?_ | refine TL_pass rfl rfl rfl rfl rfl ?_ | refine TL_pass_undef rfl rfl rfl rfl ?_)
  refine TR_of (res1 rfl rfl) ⟨A1, c1, by rw [Nat.zero_add], hch.mono (fun k hk => by simp only [Iv] at hk; omega), ?_⟩
  rw [Nat.zero_add, List.nil_append] at hown
  exact hown.wide (Nat.le_refl _) (by omega) (Nat.le_refl _)



/-- The marks of bytes: k, k + 1, .. -/
def mk8 (k : Int) (n : Nat) : List UInt8 := (List.range n).map fun (i : Nat) => UInt8.ofNat ((k + (i : Int)) % 256).toNat
@[simp] theorem mk8_length (k : Int) (n : Nat) : (mk8 k n).length = n := by simp [mk8]
theorem mk8_get (k : Int) (n i : Nat) (h : i < n) : (mk8 k n).getD i 0 = UInt8.ofNat ((k + i) % 256).toNat := by
  simp [mk8, List.getD_eq_getElem?_getD, h]
end Go.Proofs.YtohbamaomaadiaaDoor
