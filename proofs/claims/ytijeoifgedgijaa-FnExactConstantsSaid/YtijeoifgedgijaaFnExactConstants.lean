/- FnExactConstants: the law answers true for every input and leaves its arguments as they were. Conditions: none but those of the given row. -/
import Derived.Test.YtijeoifgedgijaaRows
import Derived.Test.YtijeoifgedgijaaArg
import Derived.Test.YtijeoifgedgijaaTy
namespace Go.Proofs.Ytijeoifgedgijaa.FnExactConstantsP
open Go.RowKit Go.ChangeShapes Go.WideShapes Go.ChangeAt Go.Deep
open Go.ChangeMaps (open_string shut_string)
section
attribute [local irreducible] TL TC TN TX TR TQ Pu Ret
theorem law_c (W : World) : Ret Try.prog 3 #[] W fun v w' => v = .bool true ∧ Ext W w' := by
  refine Ret_enter Try.func3 rfl rfl rfl ?_
  repeat' (first | refine TL_nil ?_ | refine TN_then ?_ | refine TC_seq ?_ | refine TC_region ?_ | refine TC_ret ?_ | refine TR_then ?_ | refine TR_block ?_ | refine TN_block ?_ | refine TC_block ?_ | refine TC_skip ?_ | refine TC_exit ?_ | refine TX_then ?_ | refine TX_hit ?_ | refine TX_miss rfl ?_ | refine TC_condT rfl ?_ | refine TC_condF rfl ?_ | refine TL_want rfl rfl rfl ?_ | refine TL_pass rfl rfl rfl rfl rfl ?_ | refine TL_pass_undef rfl rfl rfl rfl ?_ | refine TL_pu (Pu_move rfl) rfl ?_ | refine TL_pu (Pu_assign rfl) rfl ?_ | refine TL_pu (Pu_len (by fail) rfl) rfl ?_ | refine TL_pu (Pu_lens Try.underlying9 rfl) rfl ?_ | refine TL_pu (Pu_lss rfl rfl) rfl ?_ | refine TL_pu (Pu_extract rfl rfl) rfl ?_ | refine TL_pu (Pu_add rfl rfl (by omega)) rfl ?_ | refine TL_pu (Pu_fieldAddr (by first | exact Try.underlying25 | exact Try.underlying28) rfl rfl (by first | exact sz2 | exact sz3 | exact sz4 | exact sz5 | exact sz9 | exact sz15 | exact sz16 | exact sz17 | exact sz25 | exact sz28 | exact sz41 | exact sz45) rfl) rfl ?_ | refine TL_pu (Pu_eql rfl rfl) rfl ?_ | refine TL_pu (Pu_neq rfl rfl) rfl ?_ | refine TL_pu (Pu_gtr rfl rfl) rfl ?_ | refine TL_pu (Pu_leq rfl rfl) rfl ?_ | refine TL_pu (Pu_geq rfl rfl) rfl ?_ | refine TL_pu (Pu_not rfl) rfl ?_ | refine TL_pu (Pu_pickT rfl rfl) rfl ?_ | refine TL_pu (Pu_pickF rfl rfl) rfl ?_ | refine TL_pu (Pu_sub rfl rfl (by omega)) rfl ?_ | refine TL_pu (Pu_eqls rfl rfl) rfl ?_ | refine TL_pu (Pu_neqs rfl rfl) rfl ?_ | refine TL_pu (Pu_eqlb Try.underlying4 rfl rfl) rfl ?_ | refine TL_pu (Pu_neqb Try.underlying4 rfl rfl) rfl ?_ | refine TL_pu (Pu_conv8 Try.underlying3 Try.underlying5 rfl) rfl ?_ | refine TL_pu (Pu_conv (by first | exact Try.underlying3 | exact Try.underlying5 | exact Try.underlying41) Try.underlying3 rfl (by omega)) rfl ?_ | refine TL_pu (Pu_min rfl rfl) rfl ?_ | refine TL_pu (Pu_max rfl rfl) rfl ?_ | refine TL_pu (Pu_nilCheck rfl) rfl ?_ | refine TL_pu (Pu_indexs Try.underlying9 rfl rfl (by omega)) rfl ?_ | refine TL_pu (Pu_indexAddr1 (by fail) (by first | exact sz2 | exact sz3 | exact sz4 | exact sz5 | exact sz9 | exact sz15 | exact sz16 | exact sz17 | exact sz25 | exact sz28 | exact sz41 | exact sz45) rfl rfl (by omega)) rfl ?_ | refine TL_pu (Pu_indexAddr (by fail) (by first | exact sz2 | exact sz3 | exact sz4 | exact sz5 | exact sz9 | exact sz15 | exact sz16 | exact sz17 | exact sz25 | exact sz28 | exact sz41 | exact sz45) rfl rfl (by omega)) rfl ?_ | refine TL_pu (Pu_slice (by fail) (by first | exact sz2 | exact sz3 | exact sz4 | exact sz5 | exact sz9 | exact sz15 | exact sz16 | exact sz17 | exact sz25 | exact sz28 | exact sz41 | exact sz45) rfl rfl rfl (by omega)) rfl ?_ | refine TL_pu (Pu_sliceFrom (by fail) (by first | exact sz2 | exact sz3 | exact sz4 | exact sz5 | exact sz9 | exact sz15 | exact sz16 | exact sz17 | exact sz25 | exact sz28 | exact sz41 | exact sz45) rfl rfl (by omega)) rfl ?_ | refine TL_pu (Pu_sliceTo (by fail) (by first | exact sz2 | exact sz3 | exact sz4 | exact sz5 | exact sz9 | exact sz15 | exact sz16 | exact sz17 | exact sz25 | exact sz28 | exact sz41 | exact sz45) rfl rfl (by omega)) rfl ?_ | refine TL_pu (Pu_slices Try.underlying9 rfl rfl rfl (by omega)) rfl ?_ | refine TL_pu (Pu_slicesfrom Try.underlying9 rfl rfl (by omega)) rfl ?_ | refine TL_pu (Pu_sliceto Try.underlying9 rfl rfl (by omega)) rfl ?_ | refine TL_pu (Pu_quo rfl rfl (by omega)) rfl ?_ | refine TL_pu (Pu_rem rfl rfl (by omega)) rfl ?_ | refine TL_pu (Pu_mul rfl rfl (by omega)) rfl ?_)
  exact TR_of (res1 rfl rfl) ⟨rfl, Ch.refl _ _⟩
end
theorem own : ownKnob Try.prog.godebug = none := by kernel_rfl
theorem laidOut : laidOutB Try.prog = true := by kernel_rfl
set_option maxRecDepth 100000 in
theorem lifted (os : Os) (started : os.Started) (H : Type) (enc : TypeId × Value → H) :
    ReturnsInHanded {} Try.checked os 3 .any (Rows.fnExactConstantsSpec.pre6 enc Try.prog Try.f3 Rows.fnExactConstantsRow.domain false) (Rows.fnExactConstantsSpec.post enc Try.prog Try.f3 false true false false) := by
  refine returnsInHanded_of_change (C := Try.checked) own started (by kernel_rfl) Try.func3
    (ChangeSpec.witness6 (enc := enc) (C := Try.checked) false ⟨#[], #[], []⟩ 8 (by kernel_rfl) (by kernel_rfl) (by kernel_rfl) (by kernel_rfl)) ?_
  intro W base args ds gs before hval0 hW hcnd _
  have hval : ∀ (j : Nat) t v, Try.f3.params[j]? = some t → args[j]? = some v → Value.okWide Try.prog W .any base t v := hval0
  have hW' := hW
  obtain ⟨p, q, hA0, hV, rfl, hfz, hnd⟩ := hW
  have hA : DataW.TrodAll enc Try.prog W 0 (fun _ => true) true Try.f3.params.toList args.toList ds p := hA0
  rw [Try.params3] at hA hval
  obtain ⟨hargs, rfl, rfl⟩ := trodAll_none hA
  have hargs : args = #[] := by cases args; simp_all
  subst hargs
  obtain ⟨rfl, rfl⟩ := trodVars_none hV
  clear hA0 hval0
  have hc := law_c W
  have hc : Calls Try.prog 3 _ W _ := hc
  refine hc.mono fun e W' ⟨v, he, hv, hx⟩ => ?_
  subst hv
  subst he
  have bel := Ch.below hx
  exact ⟨_, rfl, _, _, _, [], _, [], hW', trodAll_mk1 (shut_bool Try.underlying4 _), trodAll_mk0, rfl, bel.frame _, fun h => by cases h⟩
theorem over : Rows.fnExactConstantsRow.holds Try.pinned (OpenSpec.ofChange Rows.fnExactConstantsSpec) :=
  OpenClaim.holds_of_wide 3 Try.f3 rfl rfl rfl rfl rfl rfl rfl ⟨rfl, rfl, rfl, rfl, rfl⟩ rfl rfl rfl rfl rfl (by kernel_rfl) Try.func3 (by kernel_rfl)
    (of_decide_eq_true (by kernel_rfl)) (by unfold Func.isWrapper; first | (rw [if_pos (by decide +kernel)]; kernel_rfl) | (rw [if_neg (by decide +kernel)]; exact ⟨rfl, rfl⟩))
    (fun os started H enc _ => lifted os started H enc)
theorem proved : Rows.FnExactConstantsSaid := over
#print axioms proved
end Go.Proofs.Ytijeoifgedgijaa.FnExactConstantsP
