/- FnExactTextNum: the law answers true for every input and leaves its arguments as they were. The listed variables read as the row says, tied to the program's text. Conditions: none but those of the given row. -/
import Derived.Test.YtohbamaomaadiaaDoorRows
import Derived.Test.YtohbamaomaadiaaDoorCards
import Derived.Test.YtohbamaomaadiaaDoorTie
import Derived.Test.YtohbamaomaadiaaDoorArg
import Derived.Test.YtohbamaomaadiaaDoorLaidD
namespace Go.Proofs.YtohbamaomaadiaaDoor.FnExactTextNumP
open Go.RowKit Go.ChangeShapes Go.WideShapes Go.ChangeAt Go.Deep
open Go.ChangeMaps (open_string shut_string)
section
attribute [local irreducible] TL TC TN TX TR TQ Pu Ret
set_option maxHeartbeats 1000000 in
theorem law_c (s : List UInt8) (W : World) (Tb : Tab W) (I0 : IfC W 0) (I1 : IfC W 1) (b0 : s.length ≤ 9223372036854775807) : Ret Tryd.prog 4 #[S s] W fun v w' => v = .bool true ∧ Ext W w' := by
  refine Ret_enter Tryd.func4 rfl rfl rfl ?_
  repeat' (first | apply TL_nil | apply TN_then | apply TC_seq | apply TC_region | apply TC_ret | apply TR_then | apply TR_block | apply TN_block | apply TC_block | apply TC_skip | apply TC_exit | apply TX_then | apply TX_hit | (refine TX_miss rfl ?_) | (refine TC_condT rfl ?_) | (refine TC_condF rfl ?_) | (apply TL_pu; (first | exact Pu_move rfl | exact Pu_assign rfl | exact Pu_len Us.h rfl | exact Pu_lss rfl rfl | exact Pu_extract rfl rfl | exact Pu_add rfl rfl (by omega) | exact Pu_indexAddr1 Us.h Sz.h rfl rfl (by omega) | exact Pu_pickT rfl rfl | exact Pu_pickF rfl rfl | exact Pu_not rfl | exact Pu_eql rfl rfl | exact Pu_neq rfl rfl | exact Pu_gtr rfl rfl | exact Pu_leq rfl rfl | exact Pu_geq rfl rfl | exact Pu_sub rfl rfl (by omega) | exact Pu_lens Us.h rfl | exact Pu_indexAddr Us.h Sz.h rfl rfl (by omega) | exact Pu_eqls rfl rfl | exact Pu_neqs rfl rfl | exact Pu_eqlb Us.h rfl rfl | exact Pu_neqb Us.h rfl rfl | exact Pu_conv8 Us.h Us.h rfl | exact Pu_conv Us.h Us.h rfl (by omega) | exact Pu_min rfl rfl | exact Pu_max rfl rfl | exact Pu_nilCheck rfl | exact Pu_indexs Us.h rfl rfl (by omega) | exact Pu_slice Us.h Sz.h rfl rfl rfl (by omega) | exact Pu_sliceFrom Us.h Sz.h rfl rfl (by omega) | exact Pu_sliceTo Us.h Sz.h rfl rfl (by omega) | exact Pu_slices Us.h rfl rfl rfl (by omega) | exact Pu_slicesfrom Us.h rfl rfl (by omega) | exact Pu_sliceto Us.h rfl rfl (by omega) | exact Pu_quo rfl rfl (by omega) | exact Pu_rem rfl rfl (by omega) | exact Pu_mul rfl rfl (by omega) | (apply Pu_fieldAddr2; exact Us.h; exact rfl; exact Sz.h; exact rfl)); exact rfl) | refine TL_want rfl rfl rfl ?_ | refine TL_pass rfl rfl rfl rfl rfl ?_ | refine TL_pass_undef rfl rfl rfl rfl ?_)
  refine TC_condD rfl (fun hb => ?_) (fun hb => ?_)
  · repeat' (first | apply TL_nil | apply TN_then | apply TC_seq | apply TC_region | apply TC_ret | apply TR_then | apply TR_block | apply TN_block | apply TC_block | apply TC_skip | apply TC_exit | apply TX_then | apply TX_hit | (refine TX_miss rfl ?_) | (refine TC_condT rfl ?_) | (refine TC_condF rfl ?_) | (apply TL_pu; (first | exact Pu_move rfl | exact Pu_assign rfl | exact Pu_len Us.h rfl | exact Pu_lss rfl rfl | exact Pu_extract rfl rfl | exact Pu_add rfl rfl (by omega) | exact Pu_indexAddr1 Us.h Sz.h rfl rfl (by omega) | exact Pu_pickT rfl rfl | exact Pu_pickF rfl rfl | exact Pu_not rfl | exact Pu_eql rfl rfl | exact Pu_neq rfl rfl | exact Pu_gtr rfl rfl | exact Pu_leq rfl rfl | exact Pu_geq rfl rfl | exact Pu_sub rfl rfl (by omega) | exact Pu_lens Us.h rfl | exact Pu_indexAddr Us.h Sz.h rfl rfl (by omega) | exact Pu_eqls rfl rfl | exact Pu_neqs rfl rfl | exact Pu_eqlb Us.h rfl rfl | exact Pu_neqb Us.h rfl rfl | exact Pu_conv8 Us.h Us.h rfl | exact Pu_conv Us.h Us.h rfl (by omega) | exact Pu_min rfl rfl | exact Pu_max rfl rfl | exact Pu_nilCheck rfl | exact Pu_indexs Us.h rfl rfl (by omega) | exact Pu_slice Us.h Sz.h rfl rfl rfl (by omega) | exact Pu_sliceFrom Us.h Sz.h rfl rfl (by omega) | exact Pu_sliceTo Us.h Sz.h rfl rfl (by omega) | exact Pu_slices Us.h rfl rfl rfl (by omega) | exact Pu_slicesfrom Us.h rfl rfl (by omega) | exact Pu_sliceto Us.h rfl rfl (by omega) | exact Pu_quo rfl rfl (by omega) | exact Pu_rem rfl rfl (by omega) | exact Pu_mul rfl rfl (by omega) | (apply Pu_fieldAddr2; exact Us.h; exact rfl; exact Sz.h; exact rfl)); exact rfl) | refine TL_want rfl rfl rfl ?_ | refine TL_pass rfl rfl rfl rfl rfl ?_ | refine TL_pass_undef rfl rfl rfl rfl ?_)
    exact TR_of (res1 rfl rfl) ⟨rfl, Ch.refl _ _⟩
  repeat' (first | apply TL_nil | apply TN_then | apply TC_seq | apply TC_region | apply TC_ret | apply TR_then | apply TR_block | apply TN_block | apply TC_block | apply TC_skip | apply TC_exit | apply TX_then | apply TX_hit | (refine TX_miss rfl ?_) | (refine TC_condT rfl ?_) | (refine TC_condF rfl ?_) | (apply TL_pu; (first | exact Pu_neq_same rfl rfl | exact Pu_neqb_same Us.h rfl rfl | exact Pu_neqs_same rfl rfl | exact Pu_eqls_same rfl rfl | exact Pu_move rfl | exact Pu_assign rfl | exact Pu_len Us.h rfl | exact Pu_lss rfl rfl | exact Pu_extract rfl rfl | exact Pu_add rfl rfl (by omega) | exact Pu_indexAddr1 Us.h Sz.h rfl rfl (by omega) | exact Pu_pickT rfl rfl | exact Pu_pickF rfl rfl | exact Pu_not rfl | exact Pu_eql rfl rfl | exact Pu_neq rfl rfl | exact Pu_gtr rfl rfl | exact Pu_leq rfl rfl | exact Pu_geq rfl rfl | exact Pu_sub rfl rfl (by omega) | exact Pu_lens Us.h rfl | exact Pu_indexAddr Us.h Sz.h rfl rfl (by omega) | exact Pu_eqls rfl rfl | exact Pu_neqs rfl rfl | exact Pu_eqlb Us.h rfl rfl | exact Pu_neqb Us.h rfl rfl | exact Pu_conv8 Us.h Us.h rfl | exact Pu_conv Us.h Us.h rfl (by omega) | exact Pu_min rfl rfl | exact Pu_max rfl rfl | exact Pu_nilCheck rfl | exact Pu_indexs Us.h rfl rfl (by omega) | exact Pu_slice Us.h Sz.h rfl rfl rfl (by omega) | exact Pu_sliceFrom Us.h Sz.h rfl rfl (by omega) | exact Pu_sliceTo Us.h Sz.h rfl rfl (by omega) | exact Pu_slices Us.h rfl rfl rfl (by omega) | exact Pu_slicesfrom Us.h rfl rfl (by omega) | exact Pu_sliceto Us.h rfl rfl (by omega) | exact Pu_quo rfl rfl (by omega) | exact Pu_rem rfl rfl (by omega) | exact Pu_mul rfl rfl (by omega) | (apply Pu_fieldAddr2; exact Us.h; exact rfl; exact Sz.h; exact rfl)); exact rfl) | refine TL_want rfl rfl rfl ?_ | refine TL_pass rfl rfl rfl rfl rfl ?_ | refine TL_pass_undef rfl rfl rfl rfl ?_ | (refine TL_gsplitD rfl rfl (fun hb => ?_) (fun hb => ?_) <;> (try (exfalso; omega))) | (refine TL_gsplitN rfl rfl (fun hb => ?_) (fun hb => ?_) <;> (try (exfalso; omega))) | refine TL_gsplit rfl rfl (fun hb => ?_) (fun hb => ?_) | (refine TC_condD rfl (fun hb => ?_) (fun hb => ?_) <;> (try (exfalso; omega))) | (refine TC_condN rfl (fun hb => ?_) (fun hb => ?_) <;> (try (exfalso; omega))) | refine TC_cond rfl (fun hb => ?_) (fun hb => ?_))
  refine TL_call rfl en10 (specTextNum_c (by omega)) rfl rfl ?_
  rintro _ w2 ⟨rfl, e2⟩
  repeat' (first | apply TL_nil | apply TN_then | apply TC_seq | apply TC_region | apply TC_ret | apply TR_then | apply TR_block | apply TN_block | apply TC_block | apply TC_skip | apply TC_exit | apply TX_then | apply TX_hit | (refine TX_miss rfl ?_) | (refine TC_condT rfl ?_) | (refine TC_condF rfl ?_) | (apply TL_pu; (first | exact Pu_neq_same rfl rfl | exact Pu_neqb_same Us.h rfl rfl | exact Pu_neqs_same rfl rfl | exact Pu_eqls_same rfl rfl | exact Pu_move rfl | exact Pu_assign rfl | exact Pu_len Us.h rfl | exact Pu_lss rfl rfl | exact Pu_extract rfl rfl | exact Pu_add rfl rfl (by omega) | exact Pu_indexAddr1 Us.h Sz.h rfl rfl (by omega) | exact Pu_pickT rfl rfl | exact Pu_pickF rfl rfl | exact Pu_not rfl | exact Pu_eql rfl rfl | exact Pu_neq rfl rfl | exact Pu_gtr rfl rfl | exact Pu_leq rfl rfl | exact Pu_geq rfl rfl | exact Pu_sub rfl rfl (by omega) | exact Pu_lens Us.h rfl | exact Pu_indexAddr Us.h Sz.h rfl rfl (by omega) | exact Pu_eqls rfl rfl | exact Pu_neqs rfl rfl | exact Pu_eqlb Us.h rfl rfl | exact Pu_neqb Us.h rfl rfl | exact Pu_conv8 Us.h Us.h rfl | exact Pu_conv Us.h Us.h rfl (by omega) | exact Pu_min rfl rfl | exact Pu_max rfl rfl | exact Pu_nilCheck rfl | exact Pu_indexs Us.h rfl rfl (by omega) | exact Pu_slice Us.h Sz.h rfl rfl rfl (by omega) | exact Pu_sliceFrom Us.h Sz.h rfl rfl (by omega) | exact Pu_sliceTo Us.h Sz.h rfl rfl (by omega) | exact Pu_slices Us.h rfl rfl rfl (by omega) | exact Pu_slicesfrom Us.h rfl rfl (by omega) | exact Pu_sliceto Us.h rfl rfl (by omega) | exact Pu_quo rfl rfl (by omega) | exact Pu_rem rfl rfl (by omega) | exact Pu_mul rfl rfl (by omega) | (apply Pu_fieldAddr2; exact Us.h; exact rfl; exact Sz.h; exact rfl)); exact rfl) | refine TL_want rfl rfl rfl ?_ | refine TL_pass rfl rfl rfl rfl rfl ?_ | refine TL_pass_undef rfl rfl rfl rfl ?_ | (refine TL_gsplitD rfl rfl (fun hb => ?_) (fun hb => ?_) <;> (try (exfalso; omega))) | (refine TL_gsplitN rfl rfl (fun hb => ?_) (fun hb => ?_) <;> (try (exfalso; omega))) | refine TL_gsplit rfl rfl (fun hb => ?_) (fun hb => ?_) | (refine TC_condD rfl (fun hb => ?_) (fun hb => ?_) <;> (try (exfalso; omega))) | (refine TC_condN rfl (fun hb => ?_) (fun hb => ?_) <;> (try (exfalso; omega))) | refine TC_cond rfl (fun hb => ?_) (fun hb => ?_))
  refine TL_call rfl en11 (implTextNum_c (by omega) (Tb.ext e2) (I0.ext e2) (I1.ext e2)) rfl rfl ?_
  rintro _ w3 ⟨rfl, e3⟩
  repeat' (first | apply TL_nil | apply TN_then | apply TC_seq | apply TC_region | apply TC_ret | apply TR_then | apply TR_block | apply TN_block | apply TC_block | apply TC_skip | apply TC_exit | apply TX_then | apply TX_hit | (refine TX_miss rfl ?_) | (refine TC_condT rfl ?_) | (refine TC_condF rfl ?_) | (apply TL_pu; (first | exact Pu_neq_same rfl rfl | exact Pu_neqb_same Us.h rfl rfl | exact Pu_neqs_same rfl rfl | exact Pu_eqls_same rfl rfl | exact Pu_move rfl | exact Pu_assign rfl | exact Pu_len Us.h rfl | exact Pu_lss rfl rfl | exact Pu_extract rfl rfl | exact Pu_add rfl rfl (by omega) | exact Pu_indexAddr1 Us.h Sz.h rfl rfl (by omega) | exact Pu_pickT rfl rfl | exact Pu_pickF rfl rfl | exact Pu_not rfl | exact Pu_eql rfl rfl | exact Pu_neq rfl rfl | exact Pu_gtr rfl rfl | exact Pu_leq rfl rfl | exact Pu_geq rfl rfl | exact Pu_sub rfl rfl (by omega) | exact Pu_lens Us.h rfl | exact Pu_indexAddr Us.h Sz.h rfl rfl (by omega) | exact Pu_eqls rfl rfl | exact Pu_neqs rfl rfl | exact Pu_eqlb Us.h rfl rfl | exact Pu_neqb Us.h rfl rfl | exact Pu_conv8 Us.h Us.h rfl | exact Pu_conv Us.h Us.h rfl (by omega) | exact Pu_min rfl rfl | exact Pu_max rfl rfl | exact Pu_nilCheck rfl | exact Pu_indexs Us.h rfl rfl (by omega) | exact Pu_slice Us.h Sz.h rfl rfl rfl (by omega) | exact Pu_sliceFrom Us.h Sz.h rfl rfl (by omega) | exact Pu_sliceTo Us.h Sz.h rfl rfl (by omega) | exact Pu_slices Us.h rfl rfl rfl (by omega) | exact Pu_slicesfrom Us.h rfl rfl (by omega) | exact Pu_sliceto Us.h rfl rfl (by omega) | exact Pu_quo rfl rfl (by omega) | exact Pu_rem rfl rfl (by omega) | exact Pu_mul rfl rfl (by omega) | (apply Pu_fieldAddr2; exact Us.h; exact rfl; exact Sz.h; exact rfl)); exact rfl) | refine TL_want rfl rfl rfl ?_ | refine TL_pass rfl rfl rfl rfl rfl ?_ | refine TL_pass_undef rfl rfl rfl rfl ?_ | (refine TL_gsplitD rfl rfl (fun hb => ?_) (fun hb => ?_) <;> (try (exfalso; omega))) | (refine TL_gsplitN rfl rfl (fun hb => ?_) (fun hb => ?_) <;> (try (exfalso; omega))) | refine TL_gsplit rfl rfl (fun hb => ?_) (fun hb => ?_) | (refine TC_condD rfl (fun hb => ?_) (fun hb => ?_) <;> (try (exfalso; omega))) | (refine TC_condN rfl (fun hb => ?_) (fun hb => ?_) <;> (try (exfalso; omega))) | refine TC_cond rfl (fun hb => ?_) (fun hb => ?_))
  exact TR_of (res1 rfl rfl) ⟨rfl, e2.ext e3⟩
end
theorem own : ownKnob Tryd.prog.godebug = none := by kernel_rfl
def LL : List (String × DataW Unit) := [("math/bits.deBruijn32tab", Rows.laid_math_bits_deBruijn32tab), ("math/bits.deBruijn64tab", Rows.laid_math_bits_deBruijn64tab), ("internal/strconv.uint64pow10", Rows.laid_internal_strconv_uint64pow10), ("strconv.ErrRange", Rows.laid_strconv_ErrRange), ("strconv.ErrSyntax", Rows.laid_strconv_ErrSyntax)]
theorem laidOut : laidOutB Tryd.prog = true := by kernel_rfl
set_option maxRecDepth 100000 in
theorem lifted (os : Os) (started : os.Started) (H : Type) (enc : TypeId × Value → H) :
    ReturnsInHanded {} Tryd.checked os 4 .any (fun w args => (Rows.fnExactTextNumSpec.pre enc Tryd.prog Tryd.f4 [] false w args ∧ laidMetH Tryd.prog LL w) ∧ sizedMet enc Tryd.prog Tryd.f4 (OpenSpec.ofChange Rows.fnExactTextNumSpec) false w args)
      (Rows.fnExactTextNumSpec.post enc Tryd.prog Tryd.f4 false true false false) := by
  refine change_and_shaped (C := Tryd.checked) (X := fun w _ => laidMetH Tryd.prog LL w) (fun _ _ _ hh h => h.of_heap hh) own started (by kernel_rfl) Tryd.func4
    (ChangeSpec.witness_shaped (enc := enc) (C := Tryd.checked) (os := os) (X := fun w _ => laidMetH Tryd.prog LL w) false (World.laidAll Tryd.prog os LL) #[.string ByteArray.empty] 8 (World.laidAll_os _ _ _)
      (World.shaped_of_ZipB (by kernel_rfl) (by kernel_rfl)) (by kernel_rfl) (by kernel_rfl) (by kernel_rfl)
      (by rw [MakeChecks.laidMetH_plain _ _ _ (by kernel_rfl)]; exact laidMet_laidAll _ (by kernel_rfl) (by kernel_rfl))) ?_
  intro W base args ds gs before hval0 hW hcnd _ hL0 hSh
  have hL := hL0
  rw [MakeChecks.laidMetH_plain _ _ _ (by kernel_rfl)] at hL
  have hval : ∀ (j : Nat) t v, Tryd.f4.params[j]? = some t → args[j]? = some v → Value.okWide Tryd.prog W .any base t v := hval0
  have hW' := hW
  obtain ⟨p, q, hA0, hV, rfl, hfz, hnd⟩ := hW
  have hA : DataW.TrodAll enc Tryd.prog W 0 (fun _ => true) true Tryd.f4.params.toList args.toList ds p := hA0
  rw [Tryd.params4] at hA hval
  obtain ⟨v0, vs0, d0, ds0, p0, q0, hargs, rfl, rfl, h0, r0⟩ := trodAll_cons hA
  obtain ⟨rfl, rfl, rfl⟩ := trodAll_nil r0
  obtain rfl : args = #[v0] := by cases args; simp_all
  obtain ⟨rfl, rfl⟩ := trodVars_none hV
  have k0 := h0
  have lt0 : ∀ x ∈ p0, x.block < W.heap.size := by obtain ⟨m, hm⟩ := k0; exact DataW.trod_lt m _ _ _ hm
  obtain ⟨s0, rfl, _, _, w0⟩ := open_string Tryd.underlying9 (hval 0 9 v0 rfl rfl) h0
  obtain ⟨s, e0, l0⟩ := S_of s0
  have b0 : s.length ≤ 9223372036854775807 := by rw [l0]; simpa [maxLen] using w0
  clear hA0 hval0
  have Tb : Tab W := tab_of (by exact hL.tail.tail)
  have I0 : IfC W 0 := syn_of (by exact hL.tail.tail.tail.tail)
  have I1 : IfC W 1 := ran_of (by exact hL.tail.tail.tail)
  have hc := law_c s W Tb I0 I1 b0
  have hc : Calls Tryd.prog 4 _ W _ := hc
  rw [← e0] at hc
  refine hc.mono fun e W' ⟨v, he, hv, hx⟩ => ?_
  subst hv
  subst he
  have bel := Ch.below hx
  exact ⟨_, rfl, _, _, _, [], _, [], hW', trodAll_mk1 (shut_bool Tryd.underlying4 _), (trodAll_cons_mk (Below.trod laidOut (by kernel_rfl) (of_decide_eq_true (by kernel_rfl)) k0 bel lt0) trodAll_mk0), rfl, bel.frame _, fun h => by cases h⟩
theorem over : Rows.fnExactTextNumRow.holds Tryd.pinned (OpenSpec.ofChange Rows.fnExactTextNumSpec) :=
  OpenClaim.holds_of_wide 4 Tryd.f4 rfl rfl rfl rfl rfl rfl rfl ⟨rfl, rfl, rfl, rfl, rfl⟩ rfl rfl rfl rfl rfl (by kernel_rfl) Tryd.func4 (by kernel_rfl)
    (of_decide_eq_true (by kernel_rfl)) (by unfold Func.isWrapper; first | (rw [if_pos (by decide +kernel)]; kernel_rfl) | (rw [if_neg (by decide +kernel)]; exact ⟨rfl, rfl⟩))
    (fun os started H enc _ => lifted os started H enc)
theorem proved : Rows.FnExactTextNumCardSaid :=
  Claim7.holds_tied_plain_at .later [] [.data, .data, .data, .sentinel, .sentinel] true (true, "3132faf27c5797e5772888af1a59f094d40e0b92a554423583ece59468791c45") true over (fun _ h => by cases h) (by kernel_rfl) (fun _ h => by cases h) fnExactTextNum_row_tie rfl ⟨rfl, rfl⟩ (by kernel_rfl) rfl
    (fun f fn hf hfn => by
      obtain rfl : f = 4 := Option.some.inj ((show Tryd.prog.funcNamed "loop.example/g00600/laws.FnExactTextNum" = some 4 by kernel_rfl).symm.trans hf) |>.symm
      obtain rfl : fn = Tryd.f4 := (Option.some.inj (Tryd.func4.symm.trans hfn)).symm
      exact ⟨by kernel_rfl, fun j t ht => by
        rw [Tryd.params4] at ht
        have hm : t ∈ [9] := by simpa using Array.mem_of_getElem? ht
        simp only [List.mem_cons, List.mem_nil_iff, or_false] at hm
        subst hm
        exact (show Tryd.prog.wantsStandIn 9 = false by kernel_rfl)⟩)
    (by kernel_rfl)
#print axioms proved
end Go.Proofs.YtohbamaomaadiaaDoor.FnExactTextNumP
