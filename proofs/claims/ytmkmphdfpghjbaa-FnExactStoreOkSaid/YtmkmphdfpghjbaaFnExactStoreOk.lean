/- FnExactStoreOk: the law answers true for every input and leaves its arguments as they were. Conditions: none but those of the given row. -/
import Derived.Test.YtmkmphdfpghjbaaRows
import Derived.Test.YtmkmphdfpghjbaaArgSt
import Derived.Test.YtmkmphdfpghjbaaStoK
namespace Go.Proofs.Ytmkmphdfpghjbaa.FnExactStoreOkP
open Go.RowKit Go.ChangeShapes Go.WideShapes Go.ChangeAt Go.Deep
open Go.ChangeMaps (open_string shut_string)
section
attribute [local irreducible] TL TC TN TX TR TQ TA Pu Ret
set_option maxHeartbeats 2000000 in
theorem law_c (s : StoreP) {sn sk st sl : Value} (W : World) (hp : RSt W 0 W.heap.size s sn sk st sl) (hf : s.fits) : Ret Try.prog 7 #[.agg (stoC s sn sk st sl).toArray] W fun v' w' => v' = .bool true ∧ Ext W w' := by
  refine Ret_enter Try.func7 rfl rfl rfl ?_
  repeat' (first | apply Jbq | apply Jbr | apply Jbs | apply Jbt | apply Jbu | apply Jbv | apply Jbw | apply Jbx | apply Jby | apply Jbz | apply Jca | apply Jcb | apply Jcc | (refine Jcd rfl ?_) | (refine Jce rfl ?_) | (refine Jcf rfl ?_) | (apply Jcg; (first | exact Jaa rfl | exact Jab rfl | exact Jad rfl rfl | exact Jaj rfl | exact Jal rfl rfl | exact Jat rfl rfl | exact Jav Us.h rfl rfl); exact rfl) | refine Jch rfl rfl rfl ?_ | refine Jci rfl rfl rfl rfl rfl ?_ | refine Jcj rfl rfl rfl rfl ?_)
  refine TL_box (cs := stoC s sn sk st sl) rfl rfl ?_
  intro w1 g E hg hz hbk
  have hgW : W.heap.size ≤ g := by omega
  clear hg hz
  repeat' (first | apply Jbq | apply Jbr | apply Jbs | apply Jbt | apply Jbu | apply Jbv | apply Jbw | apply Jbx | apply Jby | apply Jbz | apply Jca | apply Jcb | apply Jcc | (refine Jcd rfl ?_) | (refine Jce rfl ?_) | (refine Jcf rfl ?_) | (apply Jcg; (first | exact Jaa rfl | exact Jab rfl | exact Jad rfl rfl | exact Jaj rfl | exact Jal rfl rfl | exact Jat rfl rfl | exact Jav Us.h rfl rfl); exact rfl) | refine Jch rfl rfl rfl ?_ | refine Jci rfl rfl rfl rfl rfl ?_ | refine Jcj rfl rfl rfl rfl ?_ | refine Jcg (Pu_loadAgg (cs := stoC s sn sk st sl) Us.h rfl Sz.h rfl (fun _ e j u hu => by rw [e, add0, hbk.cell]; exact hu)) rfl ?_)
  refine TL_call rfl en31 (szStore_c (hp.ext E) hf (by omega) (by omega)) rfl rfl ?_
  rintro _ w2 ⟨hv, e2⟩
  replace hbk := hbk.ext e2
  replace E := E.ext e2
  rcases hv with rfl | ⟨rfl, hd⟩
  · repeat' (first | apply Jbq | apply Jbr | apply Jbs | apply Jbt | apply Jbu | apply Jbv | apply Jbw | apply Jbx | apply Jby | apply Jbz | apply Jca | apply Jcb | apply Jcc | (refine Jcd rfl ?_) | (refine Jce rfl ?_) | (refine Jcf rfl ?_) | (apply Jcg; (first | exact Jbm rfl rfl | exact Jbn Us.h rfl rfl | exact Jbo rfl rfl | exact Jaa rfl | exact Jab rfl | exact Jad rfl rfl | exact Jaj rfl | exact Jal rfl rfl | exact Jat rfl rfl | exact Jav Us.h rfl rfl); exact rfl) | refine Jch rfl rfl rfl ?_ | refine Jci rfl rfl rfl rfl rfl ?_ | refine Jcj rfl rfl rfl rfl ?_ | (refine Jcs rfl rfl (fun hb => ?_) (fun hb => ?_) <;> (try (exfalso; omega))) | (refine Jct rfl rfl (fun hb => ?_) (fun hb => ?_) <;> (try (exfalso; omega))) | refine Jcr rfl rfl (fun hb => ?_) (fun hb => ?_) | (refine Jcx rfl (fun hb => ?_) (fun hb => ?_) <;> (try (exfalso; omega))) | (refine Jcy rfl (fun hb => ?_) (fun hb => ?_) <;> (try (exfalso; omega))) | refine Jcz rfl (fun hb => ?_) (fun hb => ?_))
    exact TR_of (res1 rfl rfl) ⟨rfl, E⟩
  repeat' (first | apply Jbq | apply Jbr | apply Jbs | apply Jbt | apply Jbu | apply Jbv | apply Jbw | apply Jbx | apply Jby | apply Jbz | apply Jca | apply Jcb | apply Jcc | (refine Jcd rfl ?_) | (refine Jce rfl ?_) | (refine Jcf rfl ?_) | (apply Jcg; (first | exact Jbm rfl rfl | exact Jbn Us.h rfl rfl | exact Jbo rfl rfl | exact Jaa rfl | exact Jab rfl | exact Jad rfl rfl | exact Jaj rfl | exact Jal rfl rfl | exact Jat rfl rfl | exact Jav Us.h rfl rfl); exact rfl) | refine Jch rfl rfl rfl ?_ | refine Jci rfl rfl rfl rfl rfl ?_ | refine Jcj rfl rfl rfl rfl ?_ | refine Jcg (Pu_loadAgg (cs := stoC s sn sk st sl) Us.h rfl Sz.h rfl (fun _ e j u hu => by rw [e, add0, hbk.cell]; exact hu)) rfl ?_ | (refine Jcs rfl rfl (fun hb => ?_) (fun hb => ?_) <;> (try (exfalso; omega))) | (refine Jct rfl rfl (fun hb => ?_) (fun hb => ?_) <;> (try (exfalso; omega))) | refine Jcr rfl rfl (fun hb => ?_) (fun hb => ?_) | (refine Jcx rfl (fun hb => ?_) (fun hb => ?_) <;> (try (exfalso; omega))) | (refine Jcy rfl (fun hb => ?_) (fun hb => ?_) <;> (try (exfalso; omega))) | refine Jcz rfl (fun hb => ?_) (fun hb => ?_))
  refine TL_call rfl en33 (toStore_c (hp.ext E) hd) rfl rfl ?_
  rintro _ w3 ⟨sn1, sk1, st1, sl1, rfl, e3, ho1⟩
  replace hbk := hbk.ext e3
  replace E := E.ext e3
  repeat' (first | apply Jbq | apply Jbr | apply Jbs | apply Jbt | apply Jbu | apply Jbv | apply Jbw | apply Jbx | apply Jby | apply Jbz | apply Jca | apply Jcb | apply Jcc | (refine Jcd rfl ?_) | (refine Jce rfl ?_) | (refine Jcf rfl ?_) | (apply Jcg; (first | exact Jaa rfl | exact Jab rfl | exact Jad rfl rfl | exact Jaj rfl | exact Jal rfl rfl | exact Jat rfl rfl | exact Jav Us.h rfl rfl); exact rfl) | refine Jch rfl rfl rfl ?_ | refine Jci rfl rfl rfl rfl rfl ?_ | refine Jcj rfl rfl rfl rfl ?_)
  refine TL_call rfl en32 (specStoreOk_c ho1 hf hd) rfl rfl ?_
  rintro _ w4 ⟨rfl, e4⟩
  clear ho1
  replace hbk := hbk.ext e4
  replace E := E.ext e4
  repeat' (first | apply Jbq | apply Jbr | apply Jbs | apply Jbt | apply Jbu | apply Jbv | apply Jbw | apply Jbx | apply Jby | apply Jbz | apply Jca | apply Jcb | apply Jcc | (refine Jcd rfl ?_) | (refine Jce rfl ?_) | (refine Jcf rfl ?_) | (apply Jcg; (first | exact Jbm rfl rfl | exact Jbn Us.h rfl rfl | exact Jbo rfl rfl | exact Jaa rfl | exact Jab rfl | exact Jad rfl rfl | exact Jaj rfl | exact Jal rfl rfl | exact Jat rfl rfl | exact Jav Us.h rfl rfl); exact rfl) | refine Jch rfl rfl rfl ?_ | refine Jci rfl rfl rfl rfl rfl ?_ | refine Jcj rfl rfl rfl rfl ?_ | refine Jcg (Pu_loadAgg (cs := stoC s sn sk st sl) Us.h rfl Sz.h rfl (fun _ e j u hu => by rw [e, add0, hbk.cell]; exact hu)) rfl ?_ | (refine Jcs rfl rfl (fun hb => ?_) (fun hb => ?_) <;> (try (exfalso; omega))) | (refine Jct rfl rfl (fun hb => ?_) (fun hb => ?_) <;> (try (exfalso; omega))) | refine Jcr rfl rfl (fun hb => ?_) (fun hb => ?_) | (refine Jcx rfl (fun hb => ?_) (fun hb => ?_) <;> (try (exfalso; omega))) | (refine Jcy rfl (fun hb => ?_) (fun hb => ?_) <;> (try (exfalso; omega))) | refine Jcz rfl (fun hb => ?_) (fun hb => ?_))
  refine TL_call rfl en33 (toStore_c (hp.ext E) hd) rfl rfl ?_
  rintro _ w5 ⟨sn2, sk2, st2, sl2, rfl, e5, ho2⟩
  replace hbk := hbk.ext e5
  replace E := E.ext e5
  have hone := ho2.one
  repeat' (first | apply Jbq | apply Jbr | apply Jbs | apply Jbt | apply Jbu | apply Jbv | apply Jbw | apply Jbx | apply Jby | apply Jbz | apply Jca | apply Jcb | apply Jcc | (refine Jcd rfl ?_) | (refine Jce rfl ?_) | (refine Jcf rfl ?_) | (apply Jcg; (first | exact Jaa rfl | exact Jab rfl | exact Jad rfl rfl | exact Jaj rfl | exact Jal rfl rfl | exact Jat rfl rfl | exact Jav Us.h rfl rfl); exact rfl) | refine Jch rfl rfl rfl ?_ | refine Jci rfl rfl rfl rfl rfl ?_ | refine Jcj rfl rfl rfl rfl ?_)
  refine TL_alloc Zs.h rfl rfl ?_
  have hgl := hbk.lt
  intro w6 g6 e6 hg6 hz6 hb6
  replace hbk := hbk.ext e6
  replace ho2 := ho2.ext e6
  replace E := E.ext e6
  have hs5 := e5.size
  have hsz := E.size
  repeat' (first | apply Jbq | apply Jbr | apply Jbs | apply Jbt | apply Jbu | apply Jbv | apply Jbw | apply Jbx | apply Jby | apply Jbz | apply Jca | apply Jcb | apply Jcc | (refine Jcd rfl ?_) | (refine Jce rfl ?_) | (refine Jcf rfl ?_) | (apply Jcg; (first | exact Jaa rfl | exact Jab rfl | exact Jad rfl rfl | exact Jaj rfl | exact Jal rfl rfl | exact Jat rfl rfl | exact Jav Us.h rfl rfl); exact rfl) | refine Jch rfl rfl rfl ?_ | refine Jci rfl rfl rfl rfl rfl ?_ | refine Jcj rfl rfl rfl rfl ?_)
  refine TL_storeAgg rfl rfl Sz.h hone hb6 rfl ?_
  clear hb6
  intro w7 c7 hz7 hb6
  replace hbk := hbk.ch c7 (by simp only [Iv]; omega)
  replace ho2 := ho2.ch c7 (by intro k _ _; simp only [Iv]; omega)
  replace E : Ext W w7 := Ext.then_iv E c7 (by omega)
  repeat' (first | apply Jbq | apply Jbr | apply Jbs | apply Jbt | apply Jbu | apply Jbv | apply Jbw | apply Jbx | apply Jby | apply Jbz | apply Jca | apply Jcb | apply Jcc | (refine Jcd rfl ?_) | (refine Jce rfl ?_) | (refine Jcf rfl ?_) | (apply Jcg; (first | exact Jaa rfl | exact Jab rfl | exact Jad rfl rfl | exact Jaj rfl | exact Jal rfl rfl | exact Jat rfl rfl | exact Jav Us.h rfl rfl); exact rfl) | refine Jch rfl rfl rfl ?_ | refine Jci rfl rfl rfl rfl rfl ?_ | refine Jcj rfl rfl rfl rfl ?_ | refine Jcg (Pu_loadAgg (cs := stoC s sn2 sk2 st2 sl2) Us.h rfl Sz.h rfl (fun _ e j u hu => by rw [e, add0, hb6.cell]; exact hu)) rfl ?_)
  refine TL_call rfl en34 (implStoreOk_c ho2 hf hd) rfl rfl ?_
  rintro _ w8 ⟨rfl, e8⟩
  replace hbk := hbk.ext e8
  replace hb6 := hb6.ext e8
  replace ho2 := ho2.ext e8
  replace E := E.ext e8
  repeat' (first | apply Jbq | apply Jbr | apply Jbs | apply Jbt | apply Jbu | apply Jbv | apply Jbw | apply Jbx | apply Jby | apply Jbz | apply Jca | apply Jcb | apply Jcc | (refine Jcd rfl ?_) | (refine Jce rfl ?_) | (refine Jcf rfl ?_) | (apply Jcg; (first | exact Jbm rfl rfl | exact Jbn Us.h rfl rfl | exact Jbo rfl rfl | exact Jaa rfl | exact Jab rfl | exact Jad rfl rfl | exact Jaj rfl | exact Jal rfl rfl | exact Jat rfl rfl | exact Jav Us.h rfl rfl); exact rfl) | refine Jch rfl rfl rfl ?_ | refine Jci rfl rfl rfl rfl rfl ?_ | refine Jcj rfl rfl rfl rfl ?_ | (refine Jcs rfl rfl (fun hb => ?_) (fun hb => ?_) <;> (try (exfalso; omega))) | (refine Jct rfl rfl (fun hb => ?_) (fun hb => ?_) <;> (try (exfalso; omega))) | refine Jcr rfl rfl (fun hb => ?_) (fun hb => ?_) | (refine Jcx rfl (fun hb => ?_) (fun hb => ?_) <;> (try (exfalso; omega))) | (refine Jcy rfl (fun hb => ?_) (fun hb => ?_) <;> (try (exfalso; omega))) | refine Jcz rfl (fun hb => ?_) (fun hb => ?_))
  have hA : ∀ w', Ext w8 w' → ∀ j u, (stoC s sn sk st sl)[j]? = some u → w'.cell? ((⟨g, 0, none⟩ : Addr).add j) = some u := fun w' e j u hu => by rw [add0]; exact e.cell ((hbk.cell j).trans hu)
  have hB : ∀ w', Ext w8 w' → ∀ j u, (stoC s sn2 sk2 st2 sl2)[j]? = some u → w'.cell? ((⟨g6, 0, none⟩ : Addr).add j) = some u := fun w' e j u hu => by rw [add0]; exact e.cell ((hb6.cell j).trans hu)
  refine TC_any mixed rfl ?_
  intro w9 hE hz9
  (refine Jco 0 rfl (by kernel_rfl) (by kernel_rfl) (by kernel_rfl) (fun _ _ _ h => h) hE (by (first | exact Pu_loadAgg (cs := stoC s sn2 sk2 st2 sl2) Us.h rfl Sz.h rfl hB | exact Pu_loadAgg (cs := stoC s sn sk st sl) Us.h rfl Sz.h rfl hA | (first | exact Jaa rfl | exact Jab rfl | exact Jad rfl rfl | exact Jaj rfl | exact Jal rfl rfl | exact Jat rfl rfl | exact Jav Us.h rfl rfl))) rfl ?_; refine Jco 1 rfl (by kernel_rfl) (by kernel_rfl) (by kernel_rfl) (fun _ _ _ h => h) hE (by (first | exact Pu_loadAgg (cs := stoC s sn2 sk2 st2 sl2) Us.h rfl Sz.h rfl hB | exact Pu_loadAgg (cs := stoC s sn sk st sl) Us.h rfl Sz.h rfl hA | (first | exact Jaa rfl | exact Jab rfl | exact Jad rfl rfl | exact Jaj rfl | exact Jal rfl rfl | exact Jat rfl rfl | exact Jav Us.h rfl rfl))) rfl ?_)
  refine TA_one 2 (by kernel_rfl) rfl ?_
  refine TL_call rfl en33 (toStore_c (hp.ext (E.ext hE)) hd) rfl rfl ?_
  rintro _ w10 ⟨sn3, sk3, st3, sl3, rfl, e10, ho3⟩
  replace hE := hE.ext e10
  refine Jbq (TN_any hE ?_)
  refine TA_one 3 (by kernel_rfl) rfl ?_
  refine TL_call rfl en35 (eqStore_c (ho2.ext hE) ho3 hd) rfl rfl ?_
  rintro _ w11 ⟨rfl, e11⟩
  replace hE := hE.ext e11
  refine Jbq (TN_any hE ?_)
  (refine Jco 4 rfl (by kernel_rfl) (by kernel_rfl) (by kernel_rfl) (fun _ _ _ h => h) hE (by (first | exact Jaa rfl | exact Jab rfl | exact Jad rfl rfl | exact Jaj rfl | exact Jal rfl rfl | exact Jat rfl rfl | exact Jav Us.h rfl rfl)) rfl ?_)
  refine TA_done (by kernel_rfl) ?_
  repeat' (first | apply Jbq | apply Jbr | apply Jbs | apply Jbt | apply Jbu | apply Jbv | apply Jbw | apply Jbx | apply Jby | apply Jbz | apply Jca | apply Jcb | apply Jcc | (refine Jcd rfl ?_) | (refine Jce rfl ?_) | (refine Jcf rfl ?_) | (apply Jcg; (first | exact Jbm rfl rfl | exact Jbn Us.h rfl rfl | exact Jbo rfl rfl | exact Jaa rfl | exact Jab rfl | exact Jad rfl rfl | exact Jaj rfl | exact Jal rfl rfl | exact Jat rfl rfl | exact Jav Us.h rfl rfl); exact rfl) | refine Jch rfl rfl rfl ?_ | refine Jci rfl rfl rfl rfl rfl ?_ | refine Jcj rfl rfl rfl rfl ?_ | (refine Jcs rfl rfl (fun hb => ?_) (fun hb => ?_) <;> (try (exfalso; omega))) | (refine Jct rfl rfl (fun hb => ?_) (fun hb => ?_) <;> (try (exfalso; omega))) | refine Jcr rfl rfl (fun hb => ?_) (fun hb => ?_) | (refine Jcx rfl (fun hb => ?_) (fun hb => ?_) <;> (try (exfalso; omega))) | (refine Jcy rfl (fun hb => ?_) (fun hb => ?_) <;> (try (exfalso; omega))) | refine Jcz rfl (fun hb => ?_) (fun hb => ?_))
  exact TR_of (res1 rfl rfl) ⟨rfl, E.ext hE⟩
end
theorem own : ownKnob Try.prog.godebug = none := by kernel_rfl
theorem laidOut : laidOutB Try.prog = true := by kernel_rfl
set_option maxRecDepth 100000 in
theorem lifted (os : Os) (started : os.Started) (H : Type) (enc : TypeId × Value → H) :
    ReturnsInHanded {} Try.checked os 7 .any (Rows.fnExactStoreOkSpec.pre6 enc Try.prog Try.f7 Rows.fnExactStoreOkRow.domain false) (Rows.fnExactStoreOkSpec.post enc Try.prog Try.f7 false true false false) := by
  refine returnsInHanded_of_change (C := Try.checked) own started (by kernel_rfl) Try.func7
    (ChangeSpec.witness6 (enc := enc) (C := Try.checked) false ⟨#[], #[.agg #[.int .i64 0, .int .i64 0, .int .i64 0, .slice none 0 0, .slice none 0 0, .slice none 0 0, .int .i64 0, .int .i64 0, .slice none 0 0, .int .i64 0]], []⟩ 8 (by kernel_rfl) (by kernel_rfl) (by kernel_rfl) (by kernel_rfl)) ?_
  intro W base args ds gs before hval0 hW hcnd _
  have hval : ∀ (j : Nat) t v, Try.f7.params[j]? = some t → args[j]? = some v → Value.okWide Try.prog W .any base t v := hval0
  have hW' := hW
  obtain ⟨p, q, hA0, hV, rfl, hfz, hnd⟩ := hW
  have hA : DataW.TrodAll enc Try.prog W 0 (fun _ => true) true Try.f7.params.toList args.toList ds p := hA0
  rw [Try.params7] at hA hval
  obtain ⟨v0, vs0, d0, ds0, p0, q0, hargs, rfl, rfl, h0, r0⟩ := trodAll_cons hA
  obtain ⟨rfl, rfl, rfl⟩ := trodAll_nil r0
  obtain rfl : args = #[v0] := by cases args; simp_all
  obtain ⟨rfl, rfl⟩ := trodVars_none hV
  have k0 := h0
  have lt0 : ∀ x ∈ p0, x.block < W.heap.size := by obtain ⟨m, hm⟩ := k0; exact DataW.trod_lt m _ _ _ hm
  obtain ⟨cs0, rfl, hz0⟩ := okWide_struct Try.underlying49 (hval 0 49 v0 rfl rfl)
  obtain ⟨fuel0, hf0⟩ := h0
  obtain ⟨s, sn0, sk0, st0, sl0, e0, f0, R0⟩ := cell_store Try.underlying49 (by kernel_rfl) rfl rfl rfl rfl rfl Try.underlying3 Try.underlying3 Try.underlying47 Try.underlying3 (by kernel_rfl) (by kernel_rfl) (by kernel_rfl) (by kernel_rfl) (by kernel_rfl) (by kernel_rfl) (fun n cs x h => cell_disk Try.underlying26 (by kernel_rfl) rfl rfl rfl rfl rfl rfl Try.underlying3 Try.underlying3 Try.underlying3 Try.underlying22 Try.underlying23 Try.underlying24 (by kernel_rfl) (by kernel_rfl) (by kernel_rfl) (by kernel_rfl) (by kernel_rfl) (by kernel_rfl) (by kernel_rfl) (by kernel_rfl) (by kernel_rfl) (fun n cs x h => cell_node Try.underlying141 (by kernel_rfl) rfl rfl rfl Try.underlying3 Try.underlying37 Try.underlying37 Try.underlying5 (by kernel_rfl) (by kernel_rfl) (by kernel_rfl) (by kernel_rfl) h) (fun n cs x h => cell_link Try.underlying143 (by kernel_rfl) rfl rfl Try.underlying9 Try.underlying3 (by kernel_rfl) (by kernel_rfl) h) (fun n cs x h => cell_turn Try.underlying145 (by kernel_rfl) rfl rfl rfl rfl Try.underlying3 Try.underlying9 Try.underlying9 Try.underlying3 (by kernel_rfl) (by kernel_rfl) (by kernel_rfl) (by kernel_rfl) h) h) (fun n cs x h => cell_entry Try.underlying156 (by kernel_rfl) rfl rfl Try.underlying3 Try.underlying9 (by kernel_rfl) (by kernel_rfl) h) hf0
  have e0 : Value.agg cs0 = Value.agg (stoC s sn0 sk0 st0 sl0).toArray := by rw [← e0]; simp [Value.cells]
  clear hA0 hval0
  have hc := law_c s W R0 f0
  have hc : Calls Try.prog 7 _ W _ := hc
  rw [← e0] at hc
  refine hc.mono fun e W' ⟨v, he, hv, hx⟩ => ?_
  subst hv
  subst he
  have bel := Ch.below hx
  exact ⟨_, rfl, _, _, _, [], _, [], hW', trodAll_mk1 (shut_bool Try.underlying4 _), (trodAll_cons_mk (Below.trod laidOut (by kernel_rfl) (of_decide_eq_true (by kernel_rfl)) k0 bel lt0) trodAll_mk0), rfl, bel.frame _, fun h => by cases h⟩
theorem over : Rows.fnExactStoreOkRow.holds Try.pinned (OpenSpec.ofChange Rows.fnExactStoreOkSpec) :=
  OpenClaim.holds_of_wide 7 Try.f7 rfl rfl rfl rfl rfl rfl rfl ⟨rfl, rfl, rfl, rfl, rfl⟩ rfl rfl rfl rfl rfl (by kernel_rfl) Try.func7 (by kernel_rfl)
    (of_decide_eq_true (by kernel_rfl)) (by unfold Func.isWrapper; first | (rw [if_pos (by decide +kernel)]; kernel_rfl) | (rw [if_neg (by decide +kernel)]; exact ⟨rfl, rfl⟩))
    (fun os started H enc _ => lifted os started H enc)
theorem proved : Rows.FnExactStoreOkSaid := over
#print axioms proved
end Go.Proofs.Ytmkmphdfpghjbaa.FnExactStoreOkP
