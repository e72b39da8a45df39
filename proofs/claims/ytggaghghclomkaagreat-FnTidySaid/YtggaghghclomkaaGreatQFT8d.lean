/- Texts of this proof laid together, in the order in which they build; what each proves stands ahead of it. No condition but those told there. -/
import Derived.Test.YtggaghghclomkaaGreatQFT8c

/- Contracts: the reference's directories. -/
namespace Go.Proofs.YtggaghghclomkaaGreat
open Go.RowKit
section
variable {P : Program} {C : World → Prop} {n : Nat} {l : Env} {dd : Option Nat} {x y : Operand} {t t' ty : TypeId} {pos : String} {af : Array Edge} {a b : List UInt8}
theorem bb_not (a b : List UInt8) : (!(bytesBefore a b || a == b)) = bytesBefore b a := by
  by_cases h : a = b
  · subst h; simp [bb_irrefl]
  · rcases bb_total h with h1 | h1
    · rw [h1, bb_asymm h1]; rfl
    · rw [h1, bb_asymm h1]; simp [h]
theorem Pu_gtrb (hx : ev l x = some (S a)) (hy : ev l y = some (S b)) : Pu P C n l ⟨dd, .binOp .gtr t x y t', ty, pos, af, none⟩ (.bool (bytesBefore b a)) := fun s hs w _ => by
  have h := bb_not a b
  simp only [execOp, hs.eval hx, hs.eval hy, eqGuard_at_string, binOp, Op.stringOp, less_before, S_toList]
  rw [h]
  simp
theorem Pu_geqb (hx : ev l x = some (S a)) (hy : ev l y = some (S b)) : Pu P C n l ⟨dd, .binOp .geq t x y t', ty, pos, af, none⟩ (.bool (!bytesBefore a b)) := fun s hs w _ => by
  simp only [execOp, hs.eval hx, hs.eval hy, eqGuard_at_string, binOp, Op.stringOp, less_before, S_toList]
  simp
end
theorem dHas_succ {L : List LkD} {s : List UInt8} {k : Nat} (h : k < L.length) : dHas (L.take (k + 1)) s = (dHas (L.take k) s || L[k].name == s) := by
  unfold dHas
  rw [List.take_succ_eq_append_getElem h, List.any_append]
  simp
theorem dFind_hit {L : List LkD} {s : List UInt8} {k : Nat} (h : k < L.length) (hn : dHas (L.take k) s = false) (he : L[k].name = s) : dFind L s = L[k].id := by
  unfold dFind
  have h1 : L.find? (fun x => x.name == s) = some L[k] := by
    have h0 : L.find? (fun x => x.name == s) = (L.take k ++ L[k] :: L.drop (k + 1)).find? (fun x => x.name == s) := by rw [List.getElem_cons_drop, List.take_append_drop]
    rw [h0, List.find?_append]
    have h2 : (L.take k).find? (fun x => x.name == s) = none := by
      rw [List.find?_eq_none]
      intro x hx
      have := dHas_none hn x hx
      simpa using this
    rw [h2, Option.none_or, List.find?_cons, he, beq_self_eq_true]
  rw [h1]
theorem dLess_hit {L : List LkD} {s : List UInt8} {k : Nat} (h : k < L.length) (he : L[k].name = s) : dLess (L.take (k + 1)) s = dLess (L.take k) s := by
  unfold dLess
  rw [List.take_succ_eq_append_getElem h, List.filter_append]
  simp [he]
theorem dLess_miss {L : List LkD} {s : List UInt8} {k : Nat} (h : k < L.length) (he : ¬ L[k].name = s) : dLess (L.take (k + 1)) s = dLess (L.take k) s ++ [L[k]] := by
  unfold dLess
  rw [List.take_succ_eq_append_getElem h, List.filter_append]
  simp [he]
attribute [local irreducible] TL TC TN TX TR TQ TA Pu Ret
set_option maxHeartbeats 1000000 in
theorem l03Find_c {w : World} {lo hi : Nat} {v : Value} {L : List LkD} {s : List UInt8} (h : RK w lo hi v L) (hl : L.length ≤ 1048576) :
    Ret Tryz.prog 85 #[v, S s] w fun v' w' => v' = I (dFind L s) ∧ Ext w w' := by
  obtain ⟨A, c, rfl, hc, hr⟩ := h.row
  refine Ret_enter Tryz.func85 rfl rfl rfl ?_
  repeat' (first | apply Jbq | apply Jbr | apply Jbs | apply Jbt | apply Jby | (apply Jcg; (first | exact Jaa rfl | exact Jab rfl | exact Jac Us.h rfl); exact rfl))
  refine TC_loop (ι := Nat) (fun k => [(1, S s), (7, .slice A L.length c), (8, I L.length), (9, I k)]) (fun k w' => k ≤ L.length ∧ dHas (L.take k) s = false ∧ Ext w w') (fun k => L.length - k) 0 (subEnv_cons rfl (subEnv_cons rfl (subEnv_cons rfl (subEnv_cons rfl (subEnv_nil _))))) ⟨Nat.zero_le _, rfl, Ch.refl _ _⟩ ?_
  intro k w2 ⟨hk, hn, e2⟩
  repeat' (first | apply Jbq | apply Jbr | apply Jbs | apply Jbt | (apply Jcg; exact Jad rfl rfl; exact rfl))
  refine Jcx rfl (fun hlt0 => ?_) (fun hge => ?_)
  · have hlt : k < L.length := by omega
    obtain ⟨ad, rfl, hcell⟩ := Rd.elem LkC_len (hr.ext e2) hlt
    repeat' (first | apply Jbq | apply Jbr | apply Jbs | apply Jbt | apply Jby | apply Jbz | (apply Jcg; (first | exact Jaa rfl | exact Jar Us.h Sz.h rfl rfl (by omega) | exact Jas rfl rfl | (apply Jbl; exact Us.h; exact rfl; exact Sz.h; exact rfl)); exact rfl) | refine Jcg (Pu_loadAgg (cs := LkC L[k]) Us.h rfl Sz.h rfl (fun _ e j u hu => by rw [e]; exact hcell j u hu)) rfl ?_ | (refine TL_alloc Zs.h rfl rfl ?_; intro w3 g3 e3 hg3 hz3 hb3) | (refine TL_storeAgg rfl rfl Sz.h rfl hb3 rfl ?_; intro w4 c4 hz4 hb4) | refine Jcg (Pu_load Fl.h rfl (fun _ e => by rw [e]; exact hb4.ld rfl)) rfl ?_)
    have E4 : Ext w w4 := Ext.then_iv (e2.ext e3) c4 (by have := e2.size; omega)
    refine Jcx rfl (fun he => ?_) (fun he => ?_)
    · repeat' (first | apply Jbq | apply Jbr | apply Jbs | apply Jbt | apply Jbu | apply Jbv | apply Jbw | (apply Jcg; (first | exact Jab rfl | (apply Jbl; exact Us.h; exact rfl; exact Sz.h; exact rfl)); exact rfl) | refine Jcg (Pu_load Fl.h rfl (fun _ e => by rw [e]; exact hb4.ld rfl)) rfl ?_)
      exact TR_of (res1 rfl rfl) ⟨by rw [dFind_hit hlt hn he], E4⟩
    · repeat' (first | apply Jbq | apply Jbr | apply Jbt | apply Jbx | apply Jbz | (apply Jcg; (first | exact Jaa rfl | exact Jaf rfl rfl (by omega)); exact rfl))
      exact TN_round (k + 1) (subEnv_cons rfl (subEnv_cons rfl (subEnv_cons rfl (subEnv_cons rfl (subEnv_nil _))))) ⟨hlt, by rw [dHas_succ hlt, hn]; simp [he], E4⟩ (by omega)
  · obtain rfl : k = L.length := by omega
    rw [List.take_length] at hn
    repeat' (first | apply Jbq | apply Jbr | apply Jbs | apply Jbt | apply Jbu | apply Jca | apply Jcb | apply Jcc | (apply Jcg; exact Jab rfl; exact rfl))
    exact TR_of (res1 rfl rfl) ⟨by rw [dFind_none hn], e2⟩
set_option maxHeartbeats 1000000 in
theorem l03Less_c {w : World} {lo hi : Nat} {v : Value} {L : List LkD} {s : List UInt8} (h : RK w lo hi v L) (hl : L.length ≤ 1048576) :
    Ret Tryz.prog 170 #[v, S s] w fun v' w' => Ext w w' ∧ RowO LkC 162 2 w' w.heap.size w'.heap.size v' (dLess L s) := by
  obtain ⟨A, c, rfl, hc, hr⟩ := h.row
  refine Ret_enter Tryz.func170 rfl rfl rfl ?_
  repeat' (first | apply Jbq | apply Jbr | apply Jbs | apply Jbt | apply Jby | (apply Jcg; (first | exact Jaa rfl | exact Jab rfl | exact Jac Us.h rfl); exact rfl) | (refine TL_buildSlice0 Us.h Sz.h rfl ?_; intro w1 g1 e1 hg1 hz1 hown1))
  refine TC_loop (ι := Nat × Value) (fun x => [(1, S s), (5, x.2), (9, .slice A L.length c), (10, I L.length), (11, I x.1)]) (fun x w' => x.1 ≤ L.length ∧ Ext w w' ∧ RowO LkC 162 2 w' w.heap.size w'.heap.size x.2 (dLess (L.take x.1) s)) (fun x => L.length - x.1) (0, _) (subEnv_cons rfl (subEnv_cons rfl (subEnv_cons rfl (subEnv_cons rfl (subEnv_cons rfl (subEnv_nil _)))))) ⟨Nat.zero_le _, e1, RowO.new (l := []) rfl hown1 hg1 hz1⟩ ?_
  rintro ⟨k, vo⟩ w2 ⟨hk, e2, ho2⟩
  simp only at hk ho2
  show TC _ _ _ _ [(1, S s), (5, vo), (9, .slice A L.length c), (10, I L.length), (11, I (k : Int))] w2
  repeat' (first | apply Jbq | apply Jbr | apply Jbs | apply Jbt | (apply Jcg; exact Jad rfl rfl; exact rfl))
  refine Jcx rfl (fun hlt0 => ?_) (fun hge => ?_)
  · have hlt : k < L.length := by omega
    obtain ⟨ad, rfl, hcell⟩ := Rd.elem LkC_len (hr.ext e2) hlt
    repeat' (first | apply Jbq | apply Jbr | apply Jbs | apply Jbt | apply Jby | apply Jbz | (apply Jcg; (first | exact Jaa rfl | exact Jar Us.h Sz.h rfl rfl (by omega) | exact Jat rfl rfl | (apply Jbl; exact Us.h; exact rfl; exact Sz.h; exact rfl)); exact rfl) | refine Jcg (Pu_loadAgg (cs := LkC L[k]) Us.h rfl Sz.h rfl (fun _ e j u hu => by rw [e]; exact hcell j u hu)) rfl ?_ | (refine TL_alloc Zs.h rfl rfl ?_; intro w3 g3 e3 hg3 hz3 hb3) | (refine TL_storeAgg rfl rfl Sz.h rfl hb3 rfl ?_; intro w4 c4 hz4 hb4) | refine Jcg (Pu_load Fl.h rfl (fun _ e => by rw [e]; exact hb4.ld rfl)) rfl ?_)
    have E4 : Ext w2 w4 := Ext.then_iv e3 c4 (by omega)
    refine Jcy rfl (fun he => ?_) (fun he => ?_)
    · repeat' (first | apply Jbt | (apply Jcg; exact Jaa rfl; exact rfl) | refine Jcg (Pu_loadAgg (cs := LkC L[k]) Us.h rfl Sz.h rfl (fun _ e j u hu => by rw [e, add0, hb4.cell]; exact hu)) rfl ?_)
      refine TL_buildSlice Us.h Zi.h rfl rfl rfl rfl (fillK _) rfl rfl ?_
      intro w5 g5 e5 hg5 hz5 hown5
      skip
      have hs := (e2.ext (E4.ext e5)).size
      have hdl := dLess_length (L.take k) s
      rw [List.length_take] at hdl
      refine TL_appendRow Us.h Inf.h rfl rfl rfl LkC_one rfl rfl (ho2.ext (E4.ext e5)) (lk_own hown5 rfl hg5 hz5).rd hs (by simp only [List.length_cons, List.length_nil]; omega) rfl ?_
      intro w6 v6 c6 ho6
      repeat' (first | apply Jbq | apply Jbr | apply Jbt | apply Jbx | (apply Jcg; (first | exact Jaa rfl | exact Jab rfl | exact Jaf rfl rfl (by omega)); exact rfl))
      refine TN_round (k + 1, v6) (subEnv_cons rfl (subEnv_cons rfl (subEnv_cons rfl (subEnv_cons rfl (subEnv_cons rfl (subEnv_nil _)))))) ⟨hlt, Ext.then_iv (e2.ext (E4.ext e5)) c6 (Nat.le_refl _), ?_⟩ (by simp only; omega)
      rw [dLess_miss hlt he]
      exact ho6
    · repeat' (first | apply Jbq | apply Jbr | apply Jbt | apply Jbx | apply Jbz | (apply Jcg; (first | exact Jaa rfl | exact Jaf rfl rfl (by omega)); exact rfl))
      refine TN_round (k + 1, vo) (subEnv_cons rfl (subEnv_cons rfl (subEnv_cons rfl (subEnv_cons rfl (subEnv_cons rfl (subEnv_nil _)))))) ⟨hlt, e2.ext E4, ?_⟩ (by simp only; omega)
      rw [dLess_hit hlt he]
      exact (ho2.ext E4).wide (Nat.le_refl _) E4.size (Nat.le_refl _)
  · obtain rfl : k = L.length := by omega
    rw [List.take_length] at ho2
    repeat' (first | apply Jbq | apply Jbr | apply Jbs | apply Jbt | apply Jbu | apply Jca | apply Jcb | apply Jcc | (apply Jcg; (first | exact Jaa rfl | exact Jab rfl); exact rfl))
    exact TR_of (res1 rfl rfl) ⟨e2, ho2⟩
set_option maxHeartbeats 2000000 in
theorem l03With_c {w : World} {lo hi : Nat} {v : Value} {L : List LkD} {s : List UInt8} {i : Int} (h : RK w lo hi v L) (hl : L.length ≤ 1048576) :
    Ret Tryz.prog 169 #[v, S s, I i] w fun v' w' => Ext w w' ∧ RowO LkC 162 2 w' w.heap.size w'.heap.size v' (dIns ⟨s, i⟩ L) := by
  obtain ⟨A, c, rfl, hc, hr⟩ := h.row
  refine Ret_enter Tryz.func169 rfl rfl rfl ?_
  repeat' (first | apply Jbq | apply Jbr | apply Jbs | apply Jbt | apply Jby | (apply Jcg; (first | exact Jaa rfl | exact Jab rfl | exact Jac Us.h rfl); exact rfl) | (refine TL_buildSlice0 Us.h Sz.h rfl ?_; intro w1 g1 e1 hg1 hz1 hown1))
  refine TC_loop (ι := Nat × Value × Bool × List LkD) (fun x => [(1, S s), (2, I i), (7, x.2.1), (8, .bool x.2.2.1), (12, .slice A L.length c), (13, I L.length), (14, I x.1)])
    (fun x w' => x.1 ≤ L.length ∧ x.2.2.2.length ≤ 2 * x.1 ∧ dIns ⟨s, i⟩ L = x.2.2.2 ++ (if x.2.2.1 then L.drop x.1 else dIns ⟨s, i⟩ (L.drop x.1)) ∧ Ext w w' ∧ RowO LkC 162 2 w' w.heap.size w'.heap.size x.2.1 x.2.2.2) (fun x => L.length - x.1) (0, _, false, []) (subEnv_cons rfl (subEnv_cons rfl (subEnv_cons rfl (subEnv_cons rfl (subEnv_cons rfl (subEnv_cons rfl (subEnv_cons rfl (subEnv_nil _)))))))) ⟨Nat.zero_le _, by simp, by simp, e1, RowO.new (l := []) rfl hown1 hg1 hz1⟩ ?_
  rintro ⟨k, vo, dn, out⟩ w2 ⟨hk, hol, heq, e2, ho2⟩
  simp only at hk hol heq ho2
  show TC _ _ _ _ [(1, S s), (2, I i), (7, vo), (8, .bool dn), (12, .slice A L.length c), (13, I L.length), (14, I (k : Int))] w2
  repeat' (first | apply Jbq | apply Jbr | apply Jbs | apply Jbt | (apply Jcg; exact Jad rfl rfl; exact rfl))
  refine Jcx rfl (fun hlt0 => ?_) (fun hge => ?_)
  · have hlt : k < L.length := by omega
    obtain ⟨ad, rfl, hcell⟩ := Rd.elem LkC_len (hr.ext e2) hlt
    have hdr : L.drop k = L[k] :: L.drop (k + 1) := List.drop_eq_getElem_cons hlt
    rw [hdr] at heq
    repeat' (first | apply Jbq | apply Jbr | apply Jbs | apply Jbt | apply Jby | apply Jbz | (apply Jcg; (first | exact Jaa rfl | exact Jaj rfl | exact Jar Us.h Sz.h rfl rfl (by omega)); exact rfl) | refine Jcg (Pu_loadAgg (cs := LkC L[k]) Us.h rfl Sz.h rfl (fun _ e j u hu => by rw [e]; exact hcell j u hu)) rfl ?_ | (refine TL_alloc Zs.h rfl rfl ?_; intro w3 g3 e3 hg3 hz3 hb3) | (refine TL_storeAgg rfl rfl Sz.h rfl hb3 rfl ?_; intro w4 c4 hz4 hb4))
    have E4 : Ext w2 w4 := Ext.then_iv e3 c4 (by omega)
    cases dn with
    | true =>
      simp only [if_true] at heq
      repeat' (first | apply Jbq | apply Jbr | apply Jbt | apply Jbz | (refine Jcf rfl ?_) | (apply Jcg; (first | exact Jaa rfl | exact Jai rfl rfl); exact rfl) | refine Jci rfl rfl rfl rfl rfl ?_ | refine Jcg (Pu_loadAgg (cs := LkC L[k]) Us.h rfl Sz.h rfl (fun _ e j u hu => by rw [e, add0, hb4.cell]; exact hu)) rfl ?_)
      refine TL_buildSlice Us.h Zi.h rfl rfl rfl rfl (fillK _) rfl rfl ?_
      intro w5 g5 e5 hg5 hz5 hown5
      skip
      refine TL_appendRow Us.h Inf.h rfl rfl rfl LkC_one rfl rfl (ho2.ext (E4.ext e5)) (lk_own hown5 rfl hg5 hz5).rd (e2.ext (E4.ext e5)).size (by simp only [List.length_cons, List.length_nil]; omega) rfl ?_
      intro w6 v6 c6 ho6
      repeat' (first | apply Jbq | apply Jbr | apply Jbt | apply Jbx | (apply Jcg; (first | exact Jaa rfl | exact Jab rfl | exact Jaf rfl rfl (by omega)); exact rfl))
      exact TN_round (k + 1, v6, true, out ++ [L[k]]) (subEnv_cons rfl (subEnv_cons rfl (subEnv_cons rfl (subEnv_cons rfl (subEnv_cons rfl (subEnv_cons rfl (subEnv_cons rfl (subEnv_nil _)))))))) ⟨hlt, by simp only [List.length_append, List.length_cons, List.length_nil]; omega, by rw [heq]; simp, Ext.then_iv (e2.ext (E4.ext e5)) c6 (Nat.le_refl _), ho6⟩ (by simp only; omega)
    | false =>
      simp only [Bool.false_eq_true, if_false] at heq
      rw [dIns] at heq
      repeat' (first | apply Jbq | apply Jbr | (apply Jcg; (first | exact Jaa rfl | exact Jah rfl rfl | (apply Jbl; exact Us.h; exact rfl; exact Sz.h; exact rfl)); exact rfl) | refine Jch rfl rfl rfl ?_ | refine Jcg (Pu_load Fl.h rfl (fun _ e => by rw [e]; exact hb4.ld rfl)) rfl ?_ | refine Jcg (Pu_gtrb rfl rfl) rfl ?_)
      refine Jcz rfl (fun hb => ?_) (fun hb => ?_)
      · rw [if_pos hb] at heq
        repeat' (first | apply Jbs | apply Jbt | (apply Jcg; exact Jaa rfl; exact rfl) | refine Jcg (Pu_build (cs := LkC ⟨s, i⟩) rfl (by kernel_rfl)) rfl ?_)
        refine TL_buildSlice Us.h Zi.h rfl rfl rfl rfl (fillK ⟨s, i⟩) rfl rfl ?_
        intro w5 g5 e5 hg5 hz5 hown5
        skip
        refine TL_appendRow Us.h Inf.h rfl rfl rfl LkC_one rfl rfl (ho2.ext (E4.ext e5)) (lk_own hown5 rfl hg5 hz5).rd (e2.ext (E4.ext e5)).size (by simp only [List.length_cons, List.length_nil]; omega) rfl ?_
        intro w6 v6 c6 ho6
        have hb6 := (hb4.ext e5).ch c6 (by simp only [Iv]; omega)
        have E6 : Ext w w6 := Ext.then_iv (e2.ext (E4.ext e5)) c6 (Nat.le_refl _)
        repeat' (first | apply Jbq | apply Jbr | apply Jbt | (apply Jcg; (first | exact Jaa rfl | exact Jab rfl); exact rfl) | refine Jcg (Pu_loadAgg (cs := LkC L[k]) Us.h rfl Sz.h rfl (fun _ e j u hu => by rw [e, add0, hb6.cell]; exact hu)) rfl ?_)
        refine TL_buildSlice Us.h Zi.h rfl rfl rfl rfl (fillK _) rfl rfl ?_
        intro w7 g7 e7 hg7 hz7 hown7
        skip
        refine TL_appendRow Us.h Inf.h rfl rfl rfl LkC_one rfl rfl (ho6.ext e7) (lk_own hown7 rfl hg7 hz7).rd (E6.ext e7).size (by simp only [List.length_append, List.length_cons, List.length_nil]; omega) rfl ?_
        intro w8 v8 c8 ho8
        repeat' (first | apply Jbq | apply Jbr | apply Jbt | apply Jbx | (apply Jcg; (first | exact Jaa rfl | exact Jab rfl | exact Jaf rfl rfl (by omega)); exact rfl))
        exact TN_round (k + 1, v8, true, out ++ [⟨s, i⟩] ++ [L[k]]) (subEnv_cons rfl (subEnv_cons rfl (subEnv_cons rfl (subEnv_cons rfl (subEnv_cons rfl (subEnv_cons rfl (subEnv_cons rfl (subEnv_nil _)))))))) ⟨hlt, by simp only [List.length_append, List.length_cons, List.length_nil]; omega, by rw [heq]; simp, Ext.then_iv (E6.ext e7) c8 (Nat.le_refl _), ho8⟩ (by simp only; omega)
      · rw [if_neg (by rw [hb]; decide)] at heq
        repeat' (first | apply Jbr | apply Jbt | apply Jbz | (apply Jcg; exact Jaa rfl; exact rfl) | refine Jcg (Pu_loadAgg (cs := LkC L[k]) Us.h rfl Sz.h rfl (fun _ e j u hu => by rw [e, add0, hb4.cell]; exact hu)) rfl ?_)
        refine TL_buildSlice Us.h Zi.h rfl rfl rfl rfl (fillK _) rfl rfl ?_
        intro w5 g5 e5 hg5 hz5 hown5
        skip
        refine TL_appendRow Us.h Inf.h rfl rfl rfl LkC_one rfl rfl (ho2.ext (E4.ext e5)) (lk_own hown5 rfl hg5 hz5).rd (e2.ext (E4.ext e5)).size (by simp only [List.length_cons, List.length_nil]; omega) rfl ?_
        intro w6 v6 c6 ho6
        repeat' (first | apply Jbq | apply Jbr | apply Jbt | apply Jbx | (apply Jcg; (first | exact Jaa rfl | exact Jab rfl | exact Jaf rfl rfl (by omega)); exact rfl))
        exact TN_round (k + 1, v6, false, out ++ [L[k]]) (subEnv_cons rfl (subEnv_cons rfl (subEnv_cons rfl (subEnv_cons rfl (subEnv_cons rfl (subEnv_cons rfl (subEnv_cons rfl (subEnv_nil _)))))))) ⟨hlt, by simp only [List.length_append, List.length_cons, List.length_nil]; omega, by rw [heq]; simp, Ext.then_iv (e2.ext (E4.ext e5)) c6 (Nat.le_refl _), ho6⟩ (by simp only; omega)
  · obtain rfl : k = L.length := by omega
    rw [List.drop_length] at heq
    cases dn with
    | true =>
      simp only [if_true, List.append_nil] at heq
      repeat' (first | apply Jbq | apply Jbr | apply Jbs | apply Jbt | apply Jbu | apply Jbz | apply Jca | apply Jcb | apply Jcc | (refine Jcf rfl ?_) | (apply Jcg; (first | exact Jaa rfl | exact Jab rfl | exact Jaj rfl); exact rfl))
      exact TR_of (res1 rfl rfl) ⟨e2, by rw [heq]; exact ho2⟩
    | false =>
      simp only [Bool.false_eq_true, if_false, dIns] at heq
      repeat' (first | apply Jbq | apply Jbr | apply Jbs | apply Jbt | apply Jca | apply Jcb | apply Jcc | (refine Jce rfl ?_) | (apply Jcg; (first | exact Jaa rfl | exact Jaj rfl); exact rfl) | refine Jcg (Pu_build (cs := LkC ⟨s, i⟩) rfl (by kernel_rfl)) rfl ?_)
      refine TL_buildSlice Us.h Zi.h rfl rfl rfl rfl (fillK ⟨s, i⟩) rfl rfl ?_
      intro w5 g5 e5 hg5 hz5 hown5
      skip
      refine TL_appendRow Us.h Inf.h rfl rfl rfl LkC_one rfl rfl (ho2.ext e5) (lk_own hown5 rfl hg5 hz5).rd (e2.ext e5).size (by simp only [List.length_cons, List.length_nil]; omega) rfl ?_
      intro w6 v6 c6 ho6
      repeat' (first | apply Jbq | apply Jbr | apply Jbs | apply Jbt | apply Jbu | (apply Jcg; (first | exact Jaa rfl | exact Jab rfl); exact rfl))
      exact TR_of (res1 rfl rfl) ⟨Ext.then_iv (e2.ext e5) c6 (Nat.le_refl _), by rw [heq]; exact ho6⟩
end Go.Proofs.YtggaghghclomkaaGreat

/- Contracts: the reference's turns and numbers. -/
namespace Go.Proofs.YtggaghghclomkaaGreat
open Go.RowKit
theorem pTurn_length (L : List LkD) (t : TnD) : (pTurn L t).length ≤ L.length + 1 := by
  unfold pTurn
  split
  · rw [dIns_length]; exact Nat.le_refl _
  · split
    · rw [dIns_length]; have := dLess_length (dLess L t.name) t.to; have := dLess_length L t.name; omega
    · have := dLess_length L t.name; omega
theorem runT_length (L : List LkD) : ∀ ts : List TnD, (runT L ts).length ≤ L.length + ts.length := by
  intro ts
  unfold runT
  induction ts generalizing L with
  | nil => simp
  | cons t r ih => rw [List.foldl_cons]; have := ih (pTurn L t); have := pTurn_length L t; simp only [List.length_cons]; omega
theorem RowO.rk {w : World} {lo hi : Nat} {v : Value} {l : List LkD} {e : TypeId} (h : RowO LkC e 2 w lo hi v l) : RK w 0 w.heap.size v l := h.rd.rk.wide (Nat.zero_le _) h.hi_le (Nat.le_refl _)
attribute [local irreducible] TL TC TN TX TR TQ TA Pu Ret
set_option maxHeartbeats 2000000 in
theorem l03Turn_o {w : World} {lo hi : Nat} {v : Value} {L : List LkD} {t : TnD} (h : RK w lo hi v L) (hl : L.length ≤ 1000) :
    Ret Tryz.prog 133 #[v, .agg (TnC t).toArray] w fun v' w' => Ext w w' ∧ RowO LkC 162 2 w' w.heap.size w'.heap.size v' (pTurn L t) := by
  refine Ret_enter Tryz.func133 rfl rfl rfl ?_
  repeat' (first | apply Jbs | apply Jbt)
  refine TL_box (cs := TnC t) rfl rfl ?_
  intro w1 g1 e1 hg1 hz1 hb1
  repeat' (first | apply Jbq | apply Jbr | apply Jbs | apply Jbt | (apply Jcg; (first | exact Jab rfl | exact Jak rfl rfl | (apply Jbl; exact Us.h; exact rfl; exact Sz.h; exact rfl)); exact rfl) | refine Jcg (Pu_load Fl.h rfl (fun _ e => by rw [e]; exact hb1.ld rfl)) rfl ?_)
  refine Jcx rfl (fun hk => ?_) (fun hk => ?_)
  · repeat' (first | apply Jbs | apply Jbt | (apply Jcg; (first | exact Jaa rfl | (apply Jbl; exact Us.h; exact rfl; exact Sz.h; exact rfl)); exact rfl) | refine Jcg (Pu_load Fl.h rfl (fun _ e => by rw [e]; exact hb1.ld rfl)) rfl ?_)
    refine TL_call rfl en169 (l03With_c (h.ext e1) (by omega)) rfl rfl ?_
    rintro v2 w2 ⟨e2, ho2⟩
    repeat' (first | apply Jbq | apply Jbr | apply Jbu | apply Jbv | (apply Jcg; exact Jab rfl; exact rfl))
    refine TR_of (res1 rfl rfl) ⟨e1.ext e2, ?_⟩
    unfold pTurn
    rw [if_pos hk]
    exact ho2.wide (e1.size) (Nat.le_refl _) (Nat.le_refl _)
  · repeat' (first | apply Jbr | apply Jbs | apply Jbt | apply Jbz | (apply Jcg; (first | exact Jaa rfl | (apply Jbl; exact Us.h; exact rfl; exact Sz.h; exact rfl)); exact rfl) | refine Jcg (Pu_load Fl.h rfl (fun _ e => by rw [e]; exact hb1.ld rfl)) rfl ?_)
    refine TL_call rfl en85 (l03Find_c (h.ext e1) (by omega)) rfl rfl ?_
    rintro _ w2 ⟨rfl, e2⟩
    replace hb1 := hb1.ext e2
    repeat' (first | apply Jbq | apply Jbr | apply Jbs | apply Jbt | (apply Jcg; (first | exact Jaa rfl | exact Jab rfl | (apply Jbl; exact Us.h; exact rfl; exact Sz.h; exact rfl)); exact rfl) | refine Jcg (Pu_load Fl.h rfl (fun _ e => by rw [e]; exact hb1.ld rfl)) rfl ?_)
    refine TL_call rfl en170 (l03Less_c (h.ext (e1.ext e2)) (by omega)) rfl rfl ?_
    rintro v3 w3 ⟨e3, ho3⟩
    replace hb1 := hb1.ext e3
    have E3 := (e1.ext e2).ext e3
    have hl3 := dLess_length L t.name
    repeat' (first | apply Jbq | apply Jbr | apply Jbs | apply Jbt | (apply Jcg; (first | exact Jab rfl | exact Jak rfl rfl | (apply Jbl; exact Us.h; exact rfl; exact Sz.h; exact rfl)); exact rfl) | refine Jcg (Pu_load Fl.h rfl (fun _ e => by rw [e]; exact hb1.ld rfl)) rfl ?_)
    refine Jcx rfl (fun hk5 => ?_) (fun hk5 => ?_)
    · refine TC_any mixed rfl ?_
      intro w4 hE hz4
      (refine Jco 0 rfl (by kernel_rfl) (by kernel_rfl) (by kernel_rfl) (fun _ _ _ h => h) hE (by exact Jaa rfl) rfl ?_; refine Jco 1 rfl (by kernel_rfl) (by kernel_rfl) (by kernel_rfl) (fun _ _ _ h => h) hE (by (apply Jbl; exact Us.h; exact rfl; exact Sz.h; exact rfl)) rfl ?_; refine Jco 2 rfl (by kernel_rfl) (by kernel_rfl) (by kernel_rfl) (fun _ _ _ h => h) hE (by exact Pu_load Fl.h rfl (fun _ e => Ext.cell e (hb1.ld rfl))) rfl ?_; refine Jco 4 rfl (by kernel_rfl) (by kernel_rfl) (by kernel_rfl) (fun _ _ _ h => h) hE (by (apply Jbl; exact Us.h; exact rfl; exact Sz.h; exact rfl)) rfl ?_; refine Jco 5 rfl (by kernel_rfl) (by kernel_rfl) (by kernel_rfl) (fun _ _ _ h => h) hE (by exact Pu_load Fl.h rfl (fun _ e => Ext.cell e (hb1.ld rfl))) rfl ?_; refine Jco 6 rfl (by kernel_rfl) (by kernel_rfl) (by kernel_rfl) (fun _ _ _ h => h) hE (by exact Jaa rfl) rfl ?_)
      refine TA_one 3 (by kernel_rfl) rfl ?_
      refine TL_call rfl en170 (l03Less_c (ho3.rk.ext hE) (by omega)) rfl rfl ?_
      rintro v5 w5 ⟨e5, ho5⟩
      have hE5 := hE
      replace hE := hE.ext e5
      refine Jbq (TN_any hE ?_)
      refine TA_one 7 (by kernel_rfl) rfl ?_
      have hl5 := dLess_length (dLess L t.name) t.to
      refine TL_call rfl en169 (l03With_c ho5.rk (by omega)) rfl rfl ?_
      rintro v6 w6 ⟨e6, ho6⟩
      replace hE := hE.ext e6
      refine Jbq (TN_any hE ?_)
      (refine Jco 8 rfl (by kernel_rfl) (by kernel_rfl) (by kernel_rfl) (fun _ _ _ h => h) hE (by exact Jab rfl) rfl ?_)
      refine TA_done (by kernel_rfl) ?_
      repeat' (first | apply Jbq | apply Jbr | apply Jbs | apply Jbt | apply Jbu | (apply Jcg; (first | exact Jaa rfl | exact Jab rfl); exact rfl))
      refine TR_of (res1 rfl rfl) ⟨E3.ext hE, ?_⟩
      unfold pTurn
      rw [if_neg hk, if_pos hk5]
      exact ho6.wide (by have := E3.size; have := e5.size; have := hE5.size; omega) (Nat.le_refl _) (Nat.le_refl _)
    · repeat' (first | apply Jbq | apply Jbr | apply Jbs | apply Jbt | apply Jbu | apply Jbz | (apply Jcg; (first | exact Jaa rfl | exact Jab rfl); exact rfl))
      refine TR_of (res1 rfl rfl) ⟨E3, ?_⟩
      unfold pTurn
      rw [if_neg hk, if_neg hk5]
      exact ho3.wide (e1.ext e2).size (Nat.le_refl _) (Nat.le_refl _)
theorem l03Turn_c {w : World} {lo hi : Nat} {v : Value} {L : List LkD} {t : TnD} (h : RK w lo hi v L) (hl : L.length ≤ 1000) :
    Ret Tryz.prog 133 #[v, .agg (TnC t).toArray] w fun v' w' => Ext w w' ∧ RK w' 0 w'.heap.size v' (pTurn L t) := by
  refine (l03Turn_o h hl).mono fun v w' ⟨e, ho⟩ => ⟨e, ho.rk⟩
set_option maxHeartbeats 4000000 in
theorem l03TurnOk_c {w : World} {lo hi : Nat} {v : Value} {L : List LkD} {t : TnD} (h : RK w lo hi v L) (hl : L.length ≤ 1000) (hf : TnFit t) :
    Ret Tryz.prog 132 #[v, .agg (TnC t).toArray] w fun v' w' => (∃ b, v' = .bool b ∧ (b = true ↔ tOk L t)) ∧ Ext w w' := by
  refine Ret_enter Tryz.func132 rfl rfl rfl ?_
  repeat' (first | apply Jbs | apply Jbt)
  refine TL_box (cs := TnC t) rfl rfl ?_
  intro w1 g1 e1 hg1 hz1 hb1
  repeat' (first | apply Jbq | apply Jbr | apply Jbs | apply Jbt | (apply Jcg; (first | exact Jab rfl | exact Jaj rfl | (apply Jbl; exact Us.h; exact rfl; exact Sz.h; exact rfl)); exact rfl) | refine Jcg (Pu_load Fl.h rfl (fun _ e => by rw [e]; exact hb1.ld rfl)) rfl ?_ | (refine TL_call rfl en131 (specNameOk_c _ _ hf.1) rfl rfl ?_; rintro _ _ ⟨rfl, rfl⟩))
  refine Jcz rfl (fun hn => ?_) (fun hn => ?_)
  · repeat' (first | apply Jbq | apply Jbr | apply Jbs | apply Jbt | apply Jbu | apply Jbv | (apply Jcg; exact Jab rfl; exact rfl))
    exact TR_of (res1 rfl rfl) ⟨⟨_, rfl, by simp at hn; simp [tOk, hn]⟩, e1⟩
  have hn : pName t.name = true := by simpa using hn
  repeat' (first | apply Jbr | apply Jbs | apply Jbt | apply Jbz | (apply Jcg; (first | exact Jaa rfl | (apply Jbl; exact Us.h; exact rfl; exact Sz.h; exact rfl)); exact rfl) | refine Jcg (Pu_load Fl.h rfl (fun _ e => by rw [e]; exact hb1.ld rfl)) rfl ?_)
  refine TL_call rfl en85 (l03Find_c (h.ext e1) (by omega)) rfl rfl ?_
  rintro _ w2 ⟨rfl, e2⟩
  replace hb1 := hb1.ext e2
  have E := e1.ext e2
  repeat' (first | apply Jbq | apply Jbr | apply Jbs | apply Jbt | apply Jby | (apply Jcg; (first | exact Jab rfl | exact Jak rfl rfl | exact Jam rfl rfl | (apply Jbl; exact Us.h; exact rfl; exact Sz.h; exact rfl)); exact rfl) | refine Jcg (Pu_load Fl.h rfl (fun _ e => by rw [e]; exact hb1.ld rfl)) rfl ?_)
  by_cases h1 : t.kind = 1
  · repeat' (first | apply Jbq | apply Jbr | apply Jbs | apply Jbt | apply Jbu | apply Jbv | apply Jbw | (apply Jcg; (first | exact Jaa rfl | exact Jab rfl | exact Jah rfl rfl | exact Jai rfl rfl | exact Jaj rfl | exact Jam rfl rfl | exact Jas rfl rfl | (apply Jbl; exact Us.h; exact rfl; exact Sz.h; exact rfl)); exact rfl) | refine Jch rfl rfl rfl ?_ | refine Jci rfl rfl rfl rfl rfl ?_ | refine Jcg (Pu_load Fl.h rfl (fun _ e => by rw [e]; exact hb1.ld rfl)) rfl ?_ | (refine Jcs rfl rfl (fun hb => ?_) (fun hb => ?_) <;> (try (exfalso; omega))) | (refine Jcx rfl (fun hb => ?_) (fun hb => ?_) <;> (try (exfalso; omega))))
    all_goals exact TR_of (res1 rfl rfl) ⟨⟨_, rfl, by simp_all [tOk] <;> omega⟩, E⟩
  by_cases h5 : t.kind = 5
  · repeat' (first | apply Jbq | apply Jbr | apply Jbs | apply Jbt | apply Jbu | apply Jbv | apply Jbw | (apply Jcg; (first | exact Jaa rfl | exact Jab rfl | exact Jah rfl rfl | exact Jai rfl rfl | exact Jak rfl rfl | exact Jat rfl rfl | (apply Jbl; exact Us.h; exact rfl; exact Sz.h; exact rfl)); exact rfl) | refine Jch rfl rfl rfl ?_ | refine Jci rfl rfl rfl rfl rfl ?_ | refine Jcg (Pu_load Fl.h rfl (fun _ e => by rw [e]; exact hb1.ld rfl)) rfl ?_ | (refine TL_call rfl en131 (specNameOk_c _ _ hf.2.1) rfl rfl ?_; rintro _ _ ⟨rfl, rfl⟩) | (refine Jcs rfl rfl (fun hb => ?_) (fun hb => ?_) <;> (try (exfalso; omega))) | (refine Jct rfl rfl (fun hb => ?_) (fun hb => ?_) <;> (try (exfalso; omega))) | refine Jcr rfl rfl (fun hb => ?_) (fun hb => ?_) | (refine Jcx rfl (fun hb => ?_) (fun hb => ?_) <;> (try (exfalso; omega))))
    all_goals exact TR_of (res1 rfl rfl) ⟨⟨_, rfl, by simp_all [tOk] <;> omega⟩, E⟩
  by_cases h6 : t.kind = 6
  · repeat' (first | apply Jbq | apply Jbr | apply Jbs | apply Jbt | apply Jbu | apply Jbv | apply Jbw | (apply Jcg; (first | exact Jaa rfl | exact Jab rfl | exact Jah rfl rfl | exact Jai rfl rfl | exact Jak rfl rfl | exact Jas rfl rfl | (apply Jbl; exact Us.h; exact rfl; exact Sz.h; exact rfl)); exact rfl) | refine Jch rfl rfl rfl ?_ | refine Jci rfl rfl rfl rfl rfl ?_ | refine Jcg (Pu_load Fl.h rfl (fun _ e => by rw [e]; exact hb1.ld rfl)) rfl ?_ | (refine Jcs rfl rfl (fun hb => ?_) (fun hb => ?_) <;> (try (exfalso; omega))) | (refine Jcx rfl (fun hb => ?_) (fun hb => ?_) <;> (try (exfalso; omega))))
    all_goals exact TR_of (res1 rfl rfl) ⟨⟨_, rfl, by simp_all [tOk] <;> omega⟩, E⟩
  · repeat' (first | apply Jbq | apply Jbr | apply Jbs | apply Jbt | apply Jbu | apply Jbx | apply Jbz | (apply Jcg; (first | exact Jab rfl | exact Jak rfl rfl); exact rfl) | (refine Jcx rfl (fun hb => ?_) (fun hb => ?_) <;> (try (exfalso; omega))))
    all_goals exact TR_of (res1 rfl rfl) ⟨⟨_, rfl, by simp_all [tOk] <;> omega⟩, E⟩
set_option maxHeartbeats 1000000 in
theorem l03HasInt_c {w : World} {lo hi : Nat} {v : Value} {l : List Int} {i : Int} (h : RowR InC 1 w lo hi v l) (hl : l.length ≤ 1048576) :
    Ret Tryz.prog 89 #[v, I i] w fun v' w' => v' = .bool (decide (i ∈ l)) ∧ Ext w w' := by
  obtain ⟨A, c, rfl, hc, hr⟩ := h
  refine Ret_enter Tryz.func89 rfl rfl rfl ?_
  repeat' (first | apply Jbq | apply Jbr | apply Jbs | apply Jbt | apply Jby | (apply Jcg; (first | exact Jaa rfl | exact Jab rfl | exact Jac Us.h rfl); exact rfl))
  refine TC_loop (ι := Nat) (fun k => [(1, I i), (7, .slice A l.length c), (8, I l.length), (9, I k)]) (fun k w' => k ≤ l.length ∧ i ∉ l.take k ∧ Ext w w') (fun k => l.length - k) 0 (subEnv_cons rfl (subEnv_cons rfl (subEnv_cons rfl (subEnv_cons rfl (subEnv_nil _))))) ⟨Nat.zero_le _, by simp, Ch.refl _ _⟩ ?_
  intro k w2 ⟨hk, hn, e2⟩
  repeat' (first | apply Jbq | apply Jbr | apply Jbs | apply Jbt | (apply Jcg; exact Jad rfl rfl; exact rfl))
  refine Jcx rfl (fun hlt0 => ?_) (fun hge => ?_)
  · have hlt : k < l.length := by omega
    obtain ⟨ad, rfl, hcell⟩ := Rd.elem InC_len (hr.ext e2) hlt
    have hcell : w2.cell? (ad.add k) = some (I l[k]) := by have := hcell 0 _ rfl; rwa [add_of_add, Nat.add_zero, Nat.mul_one] at this
    repeat' (first | apply Jbq | apply Jbr | apply Jbs | apply Jbt | apply Jby | apply Jbz | (apply Jcg; (first | exact Jaa rfl | exact Jab rfl | exact Jag Us.h Sz.h rfl rfl (by omega) | exact Jak rfl rfl); exact rfl) | refine Jcg (Pu_load Fl.h rfl (fun _ e => by rw [e]; exact hcell)) rfl ?_)
    refine Jcx rfl (fun he => ?_) (fun he => ?_)
    · repeat' (first | apply Jbq | apply Jbr | apply Jbs | apply Jbt | apply Jbu | apply Jbv | apply Jbw | (apply Jcg; exact Jab rfl; exact rfl))
      exact TR_of (res1 rfl rfl) ⟨by rw [decide_eq_true (show i ∈ l by rw [← he]; exact List.getElem_mem hlt)], e2⟩
    · repeat' (first | apply Jbq | apply Jbr | apply Jbt | apply Jbx | apply Jbz | (apply Jcg; (first | exact Jaa rfl | exact Jaf rfl rfl (by omega)); exact rfl))
      refine TN_round (k + 1) (subEnv_cons rfl (subEnv_cons rfl (subEnv_cons rfl (subEnv_cons rfl (subEnv_nil _))))) ⟨hlt, ?_, e2⟩ (by omega)
      rw [List.take_succ_eq_append_getElem hlt, List.mem_append, List.mem_singleton]
      rintro (h | h)
      · exact hn h
      · exact he h.symm
  · obtain rfl : k = l.length := by omega
    rw [List.take_length] at hn
    repeat' (first | apply Jbq | apply Jbr | apply Jbs | apply Jbt | apply Jbu | apply Jca | apply Jcb | apply Jcc | (apply Jcg; exact Jab rfl; exact rfl))
    exact TR_of (res1 rfl rfl) ⟨by rw [decide_eq_false hn], e2⟩
theorem crs_take {ts : List TnD} {k : Nat} (h : k < ts.length) : ((ts.take (k + 1)).filter (fun t => decide (t.kind = 1))).map (·.id) = ((ts.take k).filter (fun t => decide (t.kind = 1))).map (·.id) ++ (if ts[k].kind = 1 then [ts[k].id] else []) := by
  rw [List.take_succ_eq_append_getElem h, List.filter_append, List.map_append]
  by_cases h1 : ts[k].kind = 1 <;> simp [h1]
theorem in_own {w1 : World} {g n : Nat} {i : Int} {w : World} (h : Own w1 g (g + 1) 3 1 (some ⟨g, 0, none⟩) n n (cellsL InC [i])) (hn : n = 1) (hg : g = w.heap.size) (hz : w1.heap.size = g + 1) : RowO InC 3 1 w1 w.heap.size w1.heap.size (.slice (some ⟨g, 0, none⟩) n n) [i] := RowO.new (by rw [hn]; rfl) h hg hz
set_option maxHeartbeats 2000000 in
theorem l03Ids_c {w : World} {lo hi : Nat} {d : DiskP} {sn sk st : Value} (h : RDk w lo hi d sn sk st) (hk : d.kept.length ≤ 1048576) (ht : d.turns.length ≤ 1048576) :
    Ret Tryz.prog 90 #[.agg (dskC d sn sk st).toArray] w fun v' w' => Ext w w' ∧ RowO InC 3 1 w' w.heap.size w'.heap.size v' (pIds d) := by
  obtain ⟨Ak, ck, rfl, hck, hrk⟩ := h.2.1.row
  obtain ⟨At, ct, rfl, hct, hrt⟩ := h.2.2.row
  refine Ret_enter Tryz.func90 rfl rfl rfl ?_
  repeat' (first | apply Jbs | apply Jbt)
  refine TL_box (cs := dskC d sn (.slice Ak d.kept.length ck) (.slice At d.turns.length ct)) rfl rfl ?_
  intro wb g E hg hz hbk
  clear hz
  have hzb := E.size
  have hb0 := hbk
  repeat' (first | apply Jbq | apply Jbr | apply Jbs | apply Jbt | apply Jby | (apply Jcg; (first | exact Jaa rfl | exact Jab rfl | exact Jac Us.h rfl | (apply Jbl; exact Us.h; exact rfl; exact Sz.h; exact rfl)); exact rfl) | refine Jcg (Pu_load Fl.h rfl (fun _ e => by rw [e]; exact hbk.ld rfl)) rfl ?_ | (refine TL_buildSlice0 Us.h Sz.h rfl ?_; intro w1 g1 e1 hg1 hz1 hown1; replace hbk := hbk.ext e1))
  refine TC_loop (ι := Nat × Value) (fun x => [(1, .pointer (some ⟨g, 0, none⟩)), (3, x.2), (10, .slice Ak d.kept.length ck), (11, I d.kept.length), (12, I x.1)]) (fun x w' => x.1 ≤ d.kept.length ∧ Ext wb w' ∧ RowO InC 3 1 w' wb.heap.size w'.heap.size x.2 ((d.kept.take x.1).map (·.id))) (fun x => d.kept.length - x.1) (0, _) (subEnv_cons rfl (subEnv_cons rfl (subEnv_cons rfl (subEnv_cons rfl (subEnv_cons rfl (subEnv_nil _)))))) ⟨Nat.zero_le _, e1, RowO.new (l := []) rfl hown1 hg1 hz1⟩ ?_
  rintro ⟨k, vo⟩ w2 ⟨hkk, e2, ho2⟩
  simp only at hkk ho2
  show TC _ _ _ _ [(1, .pointer (some ⟨g, 0, none⟩)), (3, vo), (10, .slice Ak d.kept.length ck), (11, I d.kept.length), (12, I (k : Int))] w2
  repeat' (first | apply Jbq | apply Jbr | apply Jbs | apply Jbt | (apply Jcg; exact Jad rfl rfl; exact rfl))
  refine Jcx rfl (fun hlt0 => ?_) (fun hge => ?_)
  · have hlt : k < d.kept.length := by omega
    obtain ⟨ad, rfl, hcell⟩ := Rd.elem LkC_len (hrk.ext (E.ext e2)) hlt
    repeat' (first | apply Jbq | apply Jbr | apply Jbs | apply Jbt | apply Jby | apply Jbz | (apply Jcg; (first | exact Jaa rfl | exact Jar Us.h Sz.h rfl rfl (by omega) | (apply Jbl; exact Us.h; exact rfl; exact Sz.h; exact rfl)); exact rfl) | refine Jcg (Pu_loadAgg (cs := LkC d.kept[k]) Us.h rfl Sz.h rfl (fun _ e j u hu => by rw [e]; exact hcell j u hu)) rfl ?_ | (refine TL_alloc Zs.h rfl rfl ?_; intro w3 g3 e3 hg3 hz3 hb3) | (refine TL_storeAgg rfl rfl Sz.h rfl hb3 rfl ?_; intro w4 c4 hz4 hb4) | refine Jcg (Pu_load Fl.h rfl (fun _ e => by rw [e]; exact hb4.ld rfl)) rfl ?_)
    have E4 : Ext w2 w4 := Ext.then_iv e3 c4 (by omega)
    refine TL_buildSlice Us.h Zi.h rfl rfl rfl rfl (fillI _) rfl rfl ?_
    intro w5 g5 e5 hg5 hz5 hown5
    skip
    refine TL_appendRow Us.h Inf.h rfl rfl rfl InC_one rfl rfl (ho2.ext (E4.ext e5)) (in_own hown5 rfl hg5 hz5).rd (e2.ext (E4.ext e5)).size (by simp only [List.length_cons, List.length_nil, List.length_map, List.length_take]; omega) rfl ?_
    intro w6 v6 c6 ho6
    repeat' (first | apply Jbq | apply Jbr | apply Jbt | apply Jbx | (apply Jcg; (first | exact Jaa rfl | exact Jab rfl | exact Jaf rfl rfl (by omega)); exact rfl))
    refine TN_round (k + 1, v6) (subEnv_cons rfl (subEnv_cons rfl (subEnv_cons rfl (subEnv_cons rfl (subEnv_cons rfl (subEnv_nil _)))))) ⟨hlt, Ext.then_iv (e2.ext (E4.ext e5)) c6 (Nat.le_refl _), ?_⟩ (by simp only; omega)
    simp only
    rw [List.take_succ_eq_append_getElem hlt, List.map_append]
    exact ho6
  · obtain rfl : k = d.kept.length := by omega
    rw [List.take_length] at ho2
    have hb2 := hb0.ext e2
    repeat' (first | apply Jbq | apply Jbr | apply Jbs | apply Jbt | apply Jby | apply Jca | apply Jcb | apply Jcc | (apply Jcg; (first | exact Jaa rfl | exact Jac Us.h rfl | (apply Jbl; exact Us.h; exact rfl; exact Sz.h; exact rfl)); exact rfl) | refine Jcg (Pu_load Fl.h rfl (fun _ e => by rw [e]; exact hb2.ld rfl)) rfl ?_)
    refine TC_loop (ι := Nat × Value) (fun x => [(3, x.2), (23, .slice At d.turns.length ct), (24, I d.turns.length), (25, I x.1)]) (fun x w' => x.1 ≤ d.turns.length ∧ Ext wb w' ∧ RowO InC 3 1 w' wb.heap.size w'.heap.size x.2 (d.kept.map (·.id) ++ ((d.turns.take x.1).filter (fun t => decide (t.kind = 1))).map (·.id))) (fun x => d.turns.length - x.1) (0, vo) (subEnv_cons rfl (subEnv_cons rfl (subEnv_cons rfl (subEnv_cons rfl (subEnv_nil _))))) ⟨Nat.zero_le _, e2, by simpa using ho2⟩ ?_
    rintro ⟨k, vo⟩ w2 ⟨hkk, e2, ho2⟩
    simp only at hkk ho2
    show TC _ _ _ _ [(3, vo), (23, .slice At d.turns.length ct), (24, I d.turns.length), (25, I (k : Int))] w2
    repeat' (first | apply Jbq | apply Jbr | apply Jbs | apply Jbt | (apply Jcg; exact Jad rfl rfl; exact rfl))
    refine Jcx rfl (fun hlt0 => ?_) (fun hge => ?_)
    · have hlt : k < d.turns.length := by omega
      have hct := crs_take hlt
      obtain ⟨ad, rfl, hcell⟩ := Rd.elem TnC_len (hrt.ext (E.ext e2)) hlt
      repeat' (first | apply Jbq | apply Jbr | apply Jbs | apply Jbt | apply Jby | apply Jbz | (apply Jcg; (first | exact Jak rfl rfl | exact Jar Us.h Sz.h rfl rfl (by omega) | (apply Jbl; exact Us.h; exact rfl; exact Sz.h; exact rfl)); exact rfl) | refine Jcg (Pu_loadAgg (cs := TnC d.turns[k]) Us.h rfl Sz.h rfl (fun _ e j u hu => by rw [e]; exact hcell j u hu)) rfl ?_ | (refine TL_alloc Zs.h rfl rfl ?_; intro w3 g3 e3 hg3 hz3 hb3) | (refine TL_storeAgg rfl rfl Sz.h rfl hb3 rfl ?_; intro w4 c4 hz4 hb4) | refine Jcg (Pu_load Fl.h rfl (fun _ e => by rw [e]; exact hb4.ld rfl)) rfl ?_)
      have E4 : Ext w2 w4 := Ext.then_iv e3 c4 (by omega)
      refine Jcx rfl (fun h1 => ?_) (fun h1 => ?_)
      · rw [if_pos h1] at hct
        repeat' (first | apply Jbt | (apply Jcg; (first | exact Jaa rfl | (apply Jbl; exact Us.h; exact rfl; exact Sz.h; exact rfl)); exact rfl) | refine Jcg (Pu_load Fl.h rfl (fun _ e => by rw [e]; exact hb4.ld rfl)) rfl ?_)
        refine TL_buildSlice Us.h Zi.h rfl rfl rfl rfl (fillI _) rfl rfl ?_
        intro w5 g5 e5 hg5 hz5 hown5
        skip
        refine TL_appendRow Us.h Inf.h rfl rfl rfl InC_one rfl rfl (ho2.ext (E4.ext e5)) (in_own hown5 rfl hg5 hz5).rd (e2.ext (E4.ext e5)).size (by simp only [List.length_append, List.length_cons, List.length_nil, List.length_map]; refine Nat.le_trans (Nat.add_le_add_right (Nat.add_le_add_left (List.length_filter_le _ _) _) _) ?_; rw [List.length_take]; omega) rfl ?_
        intro w6 v6 c6 ho6
        repeat' (first | apply Jbq | apply Jbr | apply Jbt | apply Jbx | (apply Jcg; (first | exact Jaa rfl | exact Jab rfl | exact Jaf rfl rfl (by omega)); exact rfl))
        refine TN_round (k + 1, v6) (subEnv_cons rfl (subEnv_cons rfl (subEnv_cons rfl (subEnv_cons rfl (subEnv_nil _))))) ⟨hlt, Ext.then_iv (e2.ext (E4.ext e5)) c6 (Nat.le_refl _), ?_⟩ (by simp only; omega)
        simp only
        rw [hct, ← List.append_assoc]
        exact ho6
      · rw [if_neg h1, List.append_nil] at hct
        repeat' (first | apply Jbq | apply Jbr | apply Jbt | apply Jbx | apply Jbz | (apply Jcg; (first | exact Jaa rfl | exact Jaf rfl rfl (by omega)); exact rfl))
        refine TN_round (k + 1, vo) (subEnv_cons rfl (subEnv_cons rfl (subEnv_cons rfl (subEnv_cons rfl (subEnv_nil _))))) ⟨hlt, e2.ext E4, ?_⟩ (by simp only; omega)
        simp only
        rw [hct]
        exact (ho2.ext E4).wide (Nat.le_refl _) E4.size (Nat.le_refl _)
    · obtain rfl : k = d.turns.length := by omega
      rw [List.take_length] at ho2
      repeat' (first | apply Jbq | apply Jbr | apply Jbs | apply Jbt | apply Jbu | apply Jca | apply Jcb | apply Jcc | (apply Jcg; (first | exact Jaa rfl | exact Jab rfl); exact rfl))
      exact TR_of (res1 rfl rfl) ⟨E.ext e2, ho2.wide hzb (Nat.le_refl _) (Nat.le_refl _)⟩
end Go.Proofs.YtggaghghclomkaaGreat

/- Contracts: whether a disk is right, by the program. -/
namespace Go.Proofs.YtggaghghclomkaaGreat
open Go.RowKit
section
variable {P : Program} {C : World → Prop} {n : Nat} {l : Env} {dd : Option Nat} {x y : Operand} {t t' ty : TypeId} {pos : String} {af : Array Edge} {a b : List UInt8}
theorem Pu_geqT' (hx : ev l x = some (S a)) (hy : ev l y = some (S b)) (h : bytesBefore a b = false) : Pu P C n l ⟨dd, .binOp .geq t x y t', ty, pos, af, none⟩ (.bool true) := by
  have := Pu_geqb (P := P) (C := C) (n := n) (dd := dd) (t := t) (t' := t') (ty := ty) (pos := pos) (af := af) hx hy
  rwa [h] at this
theorem Pu_geqF' (hx : ev l x = some (S a)) (hy : ev l y = some (S b)) (h : bytesBefore a b = true) : Pu P C n l ⟨dd, .binOp .geq t x y t', ty, pos, af, none⟩ (.bool false) := by
  have := Pu_geqb (P := P) (C := C) (n := n) (dd := dd) (t := t) (t' := t') (ty := ty) (pos := pos) (af := af) hx hy
  rwa [h] at this
end
theorem dIns_end {x : LkD} : ∀ L : List LkD, (∀ y ∈ L, bytesBefore y.name x.name = true) → dIns x L = L ++ [x]
  | [], _ => rfl
  | y :: r, h => by
    rw [dIns, if_neg (by rw [bb_asymm (h y (by simp))]; decide), dIns_end r (fun z hz => h z (by simp [hz]))]
    rfl
theorem dHas_lt {s : List UInt8} {L : List LkD} (h : ∀ y ∈ L, bytesBefore y.name s = true) : dHas L s = false := by
  cases h2 : dHas L s with
  | false => rfl
  | true =>
    unfold dHas at h2
    rw [List.any_eq_true] at h2
    obtain ⟨y, hy, he⟩ := h2
    have := h y hy
    rw [show y.name = s by simpa using he, bb_irrefl] at this
    cases this
theorem asc_take {L : List LkD} (h : Asc L) {k : Nat} (hk : k < L.length) : ∀ y ∈ L.take k, bytesBefore y.name L[k].name = true := by
  intro y hy
  obtain ⟨i, hi, rfl⟩ := List.mem_take_iff_getElem.1 hy
  unfold Asc at h
  rw [List.pairwise_iff_getElem] at h
  exact h i k (by omega) hk (by omega)
theorem put_take {L : List LkD} (h : Asc L) {k : Nat} (hk : k < L.length) : dIns ⟨L[k].name, L[k].id⟩ (dLess (L.take k) L[k].name) = L.take (k + 1) := by
  have h1 := asc_take h hk
  rw [dLess_none (dHas_lt h1), dIns_end _ h1, List.take_succ_eq_append_getElem hk]
attribute [local irreducible] TL TC TN TX TR TQ TA Pu Ret
set_option maxHeartbeats 4000000 in
theorem turnOk_c {w : World} {t : TnD} (hf : TnFit t) :
    Ret Tryz.prog 140 #[.agg (TnC t).toArray] w fun v' w' => (∃ b, v' = .bool b ∧ (b = true ↔ tOk0 t)) ∧ Ext w w' := by
  refine Ret_enter Tryz.func140 rfl rfl rfl ?_
  repeat' (first | apply Jbs | apply Jbt)
  refine TL_box (cs := TnC t) rfl rfl ?_
  intro w1 g1 E hg1 hz1 hb1
  repeat' (first | apply Jbq | apply Jbr | apply Jbs | apply Jbt | (apply Jcg; (first | exact Jab rfl | exact Jaj rfl | (apply Jbl; exact Us.h; exact rfl; exact Sz.h; exact rfl)); exact rfl) | refine Jcg (Pu_load Fl.h rfl (fun _ e => by rw [e]; exact hb1.ld rfl)) rfl ?_ | (refine TL_call rfl en139 (implNameOk_c _ _ hf.1) rfl rfl ?_; rintro _ _ ⟨rfl, rfl⟩))
  refine Jcz rfl (fun hn => ?_) (fun hn => ?_)
  · repeat' (first | apply Jbq | apply Jbr | apply Jbs | apply Jbt | apply Jbu | apply Jbv | (apply Jcg; exact Jab rfl; exact rfl))
    exact TR_of (res1 rfl rfl) ⟨⟨_, rfl, by simp at hn; simp [tOk0, hn]⟩, E⟩
  have hn : pName t.name = true := by simpa using hn
  repeat' (first | apply Jbq | apply Jbr | apply Jbs | apply Jbt | apply Jby | apply Jbz | (apply Jcg; (first | exact Jab rfl | exact Jak rfl rfl | (apply Jbl; exact Us.h; exact rfl; exact Sz.h; exact rfl)); exact rfl) | refine Jcg (Pu_load Fl.h rfl (fun _ e => by rw [e]; exact hb1.ld rfl)) rfl ?_)
  by_cases h1 : t.kind = 1
  · repeat' (first | apply Jbq | apply Jbr | apply Jbs | apply Jbt | apply Jbu | apply Jbv | apply Jbw | (apply Jcg; (first | exact Jab rfl | exact Jas rfl rfl | (apply Jbl; exact Us.h; exact rfl; exact Sz.h; exact rfl)); exact rfl) | refine Jcg (Pu_load Fl.h rfl (fun _ e => by rw [e]; exact hb1.ld rfl)) rfl ?_ | (refine Jcx rfl (fun hb => ?_) (fun hb => ?_) <;> (try (exfalso; omega))))
    all_goals exact TR_of (res1 rfl rfl) ⟨⟨_, rfl, by simp_all [tOk0] <;> omega⟩, E⟩
  by_cases h5 : t.kind = 5
  · repeat' (first | apply Jbq | apply Jbr | apply Jbs | apply Jbt | apply Jbu | apply Jbv | apply Jbw | (apply Jcg; (first | exact Jaa rfl | exact Jab rfl | exact Jah rfl rfl | exact Jai rfl rfl | exact Jak rfl rfl | (apply Jbl; exact Us.h; exact rfl; exact Sz.h; exact rfl)); exact rfl) | refine Jch rfl rfl rfl ?_ | refine Jci rfl rfl rfl rfl rfl ?_ | refine Jcg (Pu_load Fl.h rfl (fun _ e => by rw [e]; exact hb1.ld rfl)) rfl ?_ | (refine TL_call rfl en139 (implNameOk_c _ _ hf.2.1) rfl rfl ?_; rintro _ _ ⟨rfl, rfl⟩) | refine Jcr rfl rfl (fun hb => ?_) (fun hb => ?_) | (refine Jcx rfl (fun hb => ?_) (fun hb => ?_) <;> (try (exfalso; omega))))
    all_goals exact TR_of (res1 rfl rfl) ⟨⟨_, rfl, by simp_all [tOk0] <;> omega⟩, E⟩
  by_cases h6 : t.kind = 6
  · repeat' (first | apply Jbq | apply Jbr | apply Jbs | apply Jbt | apply Jbu | apply Jbv | apply Jbw | (apply Jcg; (first | exact Jaa rfl | exact Jab rfl | exact Jah rfl rfl | exact Jai rfl rfl | exact Jak rfl rfl | exact Jas rfl rfl | (apply Jbl; exact Us.h; exact rfl; exact Sz.h; exact rfl)); exact rfl) | refine Jch rfl rfl rfl ?_ | refine Jci rfl rfl rfl rfl rfl ?_ | refine Jcg (Pu_load Fl.h rfl (fun _ e => by rw [e]; exact hb1.ld rfl)) rfl ?_ | (refine Jcs rfl rfl (fun hb => ?_) (fun hb => ?_) <;> (try (exfalso; omega))) | (refine Jcx rfl (fun hb => ?_) (fun hb => ?_) <;> (try (exfalso; omega))))
    all_goals exact TR_of (res1 rfl rfl) ⟨⟨_, rfl, by simp_all [tOk0] <;> omega⟩, E⟩
  · repeat' (first | apply Jbq | apply Jbr | apply Jbs | apply Jbt | apply Jbu | apply Jbx | apply Jbz | (apply Jcg; (first | exact Jab rfl | exact Jak rfl rfl); exact rfl) | (refine Jcx rfl (fun hb => ?_) (fun hb => ?_) <;> (try (exfalso; omega))))
    all_goals exact TR_of (res1 rfl rfl) ⟨⟨_, rfl, by simp_all [tOk0] <;> omega⟩, E⟩
set_option maxHeartbeats 4000000 in
theorem apply_c {w : World} {b k : Nat} {L : List LkD} {t : TnD} (hM : MD w b k L) (hk : k < 1000000) (hf : TnFit t) (hL : ∀ x ∈ L, -9223372036854775808 ≤ x.id ∧ x.id ≤ 9223372036854775807) :
    Ret Tryz.prog 142 #[.map (some b), .agg (TnC t).toArray] w fun v' w' => (aOk L t ∧ v' = .bool true ∧ Ch (Iv b (b + 1)) w w' ∧ MD w' b (k + 1) (pTurn L t)) ∨ (¬ aOk L t ∧ v' = .bool false ∧ Ext w w') := by
  have hfi : -9223372036854775808 ≤ dFind L t.name ∧ dFind L t.name ≤ 9223372036854775807 := by
    cases h : dHas L t.name with
    | false => rw [dFind_none h]; decide
    | true => obtain ⟨x, hx, _, he⟩ := dFind_mem h; rw [← he]; exact hL x hx
  have hblt := World.ownsMap.lt hM
  refine Ret_enter Tryz.func142 rfl rfl rfl ?_
  repeat' (first | apply Jbs | apply Jbt)
  refine TL_box (cs := TnC t) rfl rfl ?_
  intro w1 g1 E hg1 hz1 hb1
  have hM1 := hM.ext E
  have hE1 : Ch (Iv b (b + 1)) w w1 := Ch.mono E (fun _ t => t.elim)
  cases hh : dHas L t.name with
  | false =>
    by_cases h1 : t.kind = 1
    · repeat' (first | apply Jbq | apply Jbr | apply Jbs | apply Jbt | apply Jbu | apply Jbx | apply Jby | (refine Jce rfl ?_) | (apply Jcg; (first | exact Jaa rfl | exact Jab rfl | exact Jae rfl rfl | exact Jah rfl rfl | exact Jaj rfl | exact Jak rfl rfl | (apply Jbl; exact Us.h; exact rfl; exact Sz.h; exact rfl)); exact rfl) | refine Jch rfl rfl rfl ?_ | refine Jcg (Pu_load Fl.h rfl (fun _ e => by rw [e]; exact hb1.ld rfl)) rfl ?_ | refine Jcg (Pu_dirLookB rfl rfl hf.1 hh (fun w' e => ⟨k, by rw [e]; exact hM1⟩)) rfl ?_ | (refine TL_dirPut rfl rfl rfl hM1 hf.1 hf.2.2 (by omega) ?_; intro w2 c2 hz2 hM2) | (refine Jcs rfl rfl (fun hb => ?_) (fun hb => ?_) <;> (try (exfalso; omega))))
      exact TR_of (res1 rfl rfl) (.inl ⟨.inl ⟨h1, hh⟩, rfl, hE1.then c2, by unfold pTurn; rw [if_pos h1]; rwa [dLess_none hh] at hM2⟩)
    · repeat' (first | apply Jbq | apply Jbr | apply Jbs | apply Jbt | apply Jbu | apply Jbv | apply Jbw | apply Jby | (refine Jcf rfl ?_) | (apply Jcg; (first | exact Jaa rfl | exact Jab rfl | exact Jae rfl rfl | exact Jah rfl rfl | exact Jai rfl rfl | exact Jak rfl rfl | (apply Jbl; exact Us.h; exact rfl; exact Sz.h; exact rfl)); exact rfl) | refine Jch rfl rfl rfl ?_ | refine Jci rfl rfl rfl rfl rfl ?_ | refine Jcg (Pu_load Fl.h rfl (fun _ e => by rw [e]; exact hb1.ld rfl)) rfl ?_ | refine Jcg (Pu_dirLookB rfl rfl hf.1 hh (fun w' e => ⟨k, by rw [e]; exact hM1⟩)) rfl ?_ | (refine Jcs rfl rfl (fun hb => ?_) (fun hb => ?_) <;> (try (exfalso; omega))))
      all_goals exact TR_of (res1 rfl rfl) (.inr ⟨by simp [aOk, h1, hh], rfl, E⟩)
  | true =>
    by_cases h1 : t.kind = 1
    · repeat' (first | apply Jbq | apply Jbr | apply Jbs | apply Jbt | apply Jbu | apply Jbv | apply Jbw | apply Jby | (refine Jcf rfl ?_) | (apply Jcg; (first | exact Jaa rfl | exact Jab rfl | exact Jae rfl rfl | exact Jah rfl rfl | exact Jai rfl rfl | exact Jaj rfl | exact Jak rfl rfl | (apply Jbl; exact Us.h; exact rfl; exact Sz.h; exact rfl)); exact rfl) | refine Jch rfl rfl rfl ?_ | refine Jci rfl rfl rfl rfl rfl ?_ | refine Jcg (Pu_load Fl.h rfl (fun _ e => by rw [e]; exact hb1.ld rfl)) rfl ?_ | refine Jcg (Pu_dirLookB rfl rfl hf.1 hh (fun w' e => ⟨k, by rw [e]; exact hM1⟩)) rfl ?_ | (refine Jcs rfl rfl (fun hb => ?_) (fun hb => ?_) <;> (try (exfalso; omega))))
      all_goals exact TR_of (res1 rfl rfl) (.inr ⟨by simp [aOk, h1, hh], rfl, E⟩)
    by_cases h5 : t.kind = 5
    · by_cases ht : t.to = t.name
      · repeat' (first | apply Jbq | apply Jbr | apply Jbs | apply Jbt | apply Jbu | apply Jbv | apply Jbw | apply Jby | (refine Jcf rfl ?_) | (apply Jcg; (first | exact Jaa rfl | exact Jab rfl | exact Jae rfl rfl | exact Jah rfl rfl | exact Jai rfl rfl | exact Jak rfl rfl | exact Jat rfl rfl | (apply Jbl; exact Us.h; exact rfl; exact Sz.h; exact rfl)); exact rfl) | refine Jch rfl rfl rfl ?_ | refine Jci rfl rfl rfl rfl rfl ?_ | refine Jcg (Pu_load Fl.h rfl (fun _ e => by rw [e]; exact hb1.ld rfl)) rfl ?_ | refine Jcg (Pu_dirLookB rfl rfl hf.1 hh (fun w' e => ⟨k, by rw [e]; exact hM1⟩)) rfl ?_ | (refine Jcs rfl rfl (fun hb => ?_) (fun hb => ?_) <;> (try (exfalso; omega))) | (refine Jcy rfl (fun hb => ?_) (fun hb => ?_) <;> (try (exfalso; omega))))
        all_goals first | exact absurd ht hb | exact TR_of (res1 rfl rfl) (.inr ⟨by simp [aOk, h5, hh, ht], rfl, E⟩)
      · repeat' (first | apply Jbq | apply Jbr | apply Jbs | apply Jbt | apply Jbu | apply Jbv | apply Jbw | apply Jby | (refine Jcf rfl ?_) | (apply Jcg; (first | exact Jaa rfl | exact Jab rfl | exact Jae rfl rfl | exact Jah rfl rfl | exact Jai rfl rfl | exact Jak rfl rfl | exact Jat rfl rfl | (apply Jbl; exact Us.h; exact rfl; exact Sz.h; exact rfl)); exact rfl) | refine Jch rfl rfl rfl ?_ | refine Jci rfl rfl rfl rfl rfl ?_ | refine Jcg (Pu_load Fl.h rfl (fun _ e => by rw [e]; exact hb1.ld rfl)) rfl ?_ | refine Jcg (Pu_dirLookB rfl rfl hf.1 hh (fun w' e => ⟨k, by rw [e]; exact hM1⟩)) rfl ?_ | (refine Jcs rfl rfl (fun hb => ?_) (fun hb => ?_) <;> (try (exfalso; omega))) | (refine Jcy rfl (fun hb => ?_) (fun hb => ?_) <;> (try (exfalso; omega))))
        · refine TL_dirDel rfl rfl hM1 hf.1 ?_
          intro w2 c2 hz2 hM2
          replace hb1 := hb1.ch c2 (by simp only [Iv]; omega)
          repeat' (first | apply Jbq | apply Jbr | apply Jbt | (apply Jcg; (first | exact Jaa rfl | (apply Jbl; exact Us.h; exact rfl; exact Sz.h; exact rfl)); exact rfl) | refine Jcg (Pu_load Fl.h rfl (fun _ e => by rw [e]; exact hb1.ld rfl)) rfl ?_)
          refine TL_dirPut rfl rfl rfl hM2 hf.2.1 hfi (by omega) ?_
          intro w3 c3 hz3 hM3
          repeat' (first | apply Jbq | apply Jbr | apply Jbs | apply Jbt | apply Jbu | apply Jbx | (apply Jcg; exact Jab rfl; exact rfl))
          refine TR_of (res1 rfl rfl) (.inl ⟨.inr (.inl ⟨h5, hh, ht⟩), rfl, (hE1.then c2).then c3, ?_⟩)
          unfold pTurn
          rw [if_neg h1, if_pos h5]
          exact hM3
        all_goals exact absurd (show t.to = t.name by assumption) ht
    by_cases h6 : t.kind = 6
    · repeat' (first | apply Jbq | apply Jbr | apply Jbs | apply Jbt | apply Jby | (refine Jce rfl ?_) | (refine Jcf rfl ?_) | (apply Jcg; (first | exact Jaa rfl | exact Jab rfl | exact Jae rfl rfl | exact Jah rfl rfl | exact Jai rfl rfl | exact Jak rfl rfl | (apply Jbl; exact Us.h; exact rfl; exact Sz.h; exact rfl)); exact rfl) | refine Jch rfl rfl rfl ?_ | refine Jci rfl rfl rfl rfl rfl ?_ | refine Jcg (Pu_load Fl.h rfl (fun _ e => by rw [e]; exact hb1.ld rfl)) rfl ?_ | refine Jcg (Pu_dirLookB rfl rfl hf.1 hh (fun w' e => ⟨k, by rw [e]; exact hM1⟩)) rfl ?_ | (refine Jcs rfl rfl (fun hb => ?_) (fun hb => ?_) <;> (try (exfalso; omega))))
      refine TL_dirDel rfl rfl hM1 hf.1 ?_
      intro w2 c2 hz2 hM2
      repeat' (first | apply Jbq | apply Jbr | apply Jbs | apply Jbt | apply Jbu | apply Jbx | (apply Jcg; exact Jab rfl; exact rfl))
      refine TR_of (res1 rfl rfl) (.inl ⟨.inr (.inr ⟨h6, hh⟩), rfl, hE1.then c2, ?_⟩)
      unfold pTurn
      rw [if_neg h1, if_neg h5]
      exact World.ownsMap.mono hM2 (Nat.le_succ _)
    · repeat' (first | apply Jbq | apply Jbr | apply Jbs | apply Jbt | apply Jbu | apply Jbv | apply Jbw | apply Jby | (refine Jcf rfl ?_) | (apply Jcg; (first | exact Jaa rfl | exact Jab rfl | exact Jae rfl rfl | exact Jai rfl rfl | exact Jak rfl rfl | (apply Jbl; exact Us.h; exact rfl; exact Sz.h; exact rfl)); exact rfl) | refine Jci rfl rfl rfl rfl rfl ?_ | refine Jcg (Pu_load Fl.h rfl (fun _ e => by rw [e]; exact hb1.ld rfl)) rfl ?_ | refine Jcg (Pu_dirLookB rfl rfl hf.1 hh (fun w' e => ⟨k, by rw [e]; exact hM1⟩)) rfl ?_ | (refine Jcs rfl rfl (fun hb => ?_) (fun hb => ?_) <;> (try (exfalso; omega))))
      all_goals exact TR_of (res1 rfl rfl) (.inr ⟨by simp [aOk, h1, h5, h6], rfl, E⟩)
theorem pTurn_ids {L : List LkD} {t : TnD} (hf : TnFit t) (hL : ∀ x ∈ L, -9223372036854775808 ≤ x.id ∧ x.id ≤ 9223372036854775807) : ∀ x ∈ pTurn L t, -9223372036854775808 ≤ x.id ∧ x.id ≤ 9223372036854775807 := by
  have hfi : -9223372036854775808 ≤ dFind L t.name ∧ dFind L t.name ≤ 9223372036854775807 := by
    cases h : dHas L t.name with
    | false => rw [dFind_none h]; decide
    | true => obtain ⟨x, hx, _, he⟩ := dFind_mem h; rw [← he]; exact hL x hx
  intro x hx
  unfold pTurn at hx
  split at hx
  · rcases (mem_dIns _).1 hx with rfl | hx
    · exact hf.2.2
    · exact hL x hx
  · split at hx
    · rcases (mem_dIns _).1 hx with rfl | hx
      · exact hfi
      · exact hL x (mem_dLess (mem_dLess hx))
    · exact hL x (mem_dLess hx)
/-- Are all turns applicable? -/
def aAll (L : List LkD) (ts : List TnD) : Prop := ∀ j (h : j < ts.length), aOk (runT L (ts.take j)) ts[j]
set_option maxHeartbeats 4000000 in
theorem dirOf_c {w : World} {lo hi lo2 hi2 : Nat} {vk vt : Value} {L : List LkD} {ts : List TnD} (h : RK w lo hi vk L) (h2 : RT w lo2 hi2 vt ts) (ha : Asc L) (hl : L.length ≤ 1000) (hl2 : ts.length ≤ 1000) (hf : ∀ x ∈ L, LkFit x) (hf2 : ∀ x ∈ ts, TnFit x) :
    Ret Tryz.prog 67 #[vk, vt] w fun v' w' => Ext w w' ∧ ((aAll L ts ∧ ∃ b k, v' = .tuple #[.map (some b), .bool true] ∧ w.heap.size ≤ b ∧ k ≤ 2000 ∧ MD w' b k (runT L ts)) ∨ (¬ aAll L ts ∧ v' = .tuple #[.map none, .bool false])) := by
  obtain ⟨A, c, rfl, hc, hr⟩ := h.row
  obtain ⟨A2, c2, rfl, hc2, hr2⟩ := h2.row
  refine Ret_enter Tryz.func67 rfl rfl rfl ?_
  repeat' (first | apply Jbq | apply Jbr | apply Jbs | apply Jbt | (apply Jcg; exact Jab rfl; exact rfl))
  refine TL_makeMap rfl ?_
  intro w1 e1 hz1 hM1 _
  obtain ⟨b, hb⟩ : ∃ b, b = w.heap.size := ⟨_, rfl⟩
  rw [← hb] at hM1 ⊢
  repeat' (first | apply Jbq | apply Jbr | apply Jbs | apply Jbt | apply Jby | (apply Jcg; (first | exact Jaa rfl | exact Jab rfl | exact Jac Us.h rfl); exact rfl))
  refine TC_loop (ι := Nat) (fun k => [(1, .slice A2 ts.length c2), (6, .map (some b)), (12, .slice A L.length c), (13, I L.length), (14, I k)]) (fun k w' => k ≤ L.length ∧ Ext w w' ∧ MD w' b k (L.take k)) (fun k => L.length - k) 0 (subEnv_cons rfl (subEnv_cons rfl (subEnv_cons rfl (subEnv_cons rfl (subEnv_cons rfl (subEnv_nil _)))))) ⟨Nat.zero_le _, e1, hM1⟩ ?_
  intro k w2 ⟨hk, e2, hM2⟩
  have hbl := World.ownsMap.lt hM2
  repeat' (first | apply Jbq | apply Jbr | apply Jbs | apply Jbt | (apply Jcg; exact Jad rfl rfl; exact rfl))
  refine Jcx rfl (fun hlt0 => ?_) (fun hge => ?_)
  · have hlt : k < L.length := by omega
    obtain ⟨ad, rfl, hcell⟩ := Rd.elem LkC_len (hr.ext e2) hlt
    have hfk := hf _ (List.getElem_mem hlt)
    repeat' (first | apply Jbq | apply Jbr | apply Jbs | apply Jbt | apply Jby | apply Jbz | (apply Jcg; (first | exact Jaa rfl | exact Jar Us.h Sz.h rfl rfl (by omega) | (apply Jbl; exact Us.h; exact rfl; exact Sz.h; exact rfl)); exact rfl) | refine Jcg (Pu_loadAgg (cs := LkC L[k]) Us.h rfl Sz.h rfl (fun _ e j u hu => by rw [e]; exact hcell j u hu)) rfl ?_ | (refine TL_alloc Zs.h rfl rfl ?_; intro w3 g3 e3 hg3 hz3 hb3) | (refine TL_storeAgg rfl rfl Sz.h rfl hb3 rfl ?_; intro w4 c4 hz4 hb4) | refine Jcg (Pu_load Fl.h rfl (fun _ e => by rw [e]; exact hb4.ld rfl)) rfl ?_)
    have hM4 := (hM2.ext e3).ch c4 (by simp only [Iv]; omega)
    refine TL_dirPut rfl rfl rfl hM4 hfk.1 hfk.2 (by omega) ?_
    intro w5 c5 hz5 hM5
    rw [put_take ha hlt] at hM5
    repeat' (first | apply Jbq | apply Jbr | apply Jbt | apply Jbx | (apply Jcg; (first | exact Jaa rfl | exact Jaf rfl rfl (by omega)); exact rfl))
    exact TN_round (k + 1) (subEnv_cons rfl (subEnv_cons rfl (subEnv_cons rfl (subEnv_cons rfl (subEnv_cons rfl (subEnv_nil _)))))) ⟨hlt, Ext.then_iv (Ext.then_iv (e2.ext e3) c4 (by have := e2.size; omega)) c5 (by omega), hM5⟩ (by omega)
  · obtain rfl : k = L.length := by omega
    rw [List.take_length] at hM2
    repeat' (first | apply Jbq | apply Jbr | apply Jbs | apply Jbt | apply Jby | apply Jca | apply Jcb | apply Jcc | (apply Jcg; (first | exact Jaa rfl | exact Jac Us.h rfl); exact rfl))
    refine TC_loop (ι := Nat) (fun k => [(6, .map (some b)), (24, .slice A2 ts.length c2), (25, I ts.length), (26, I k)]) (fun k w' => k ≤ ts.length ∧ Ext w w' ∧ MD w' b (L.length + k) (runT L (ts.take k)) ∧ ∀ j (h : j < ts.length), j < k → aOk (runT L (ts.take j)) ts[j]) (fun k => ts.length - k) 0 (subEnv_cons rfl (subEnv_cons rfl (subEnv_cons rfl (subEnv_cons rfl (subEnv_nil _))))) ⟨Nat.zero_le _, e2, by simpa [runT] using hM2, fun j _ hj => absurd hj (Nat.not_lt_zero _)⟩ ?_
    intro k w3 ⟨hk, e3, hM3, hst⟩
    have hbl := World.ownsMap.lt hM3
    repeat' (first | apply Jbq | apply Jbr | apply Jbs | apply Jbt | (apply Jcg; exact Jad rfl rfl; exact rfl))
    refine Jcx rfl (fun hlt0 => ?_) (fun hge => ?_)
    · have hlt : k < ts.length := by omega
      obtain ⟨ad, rfl, hcell⟩ := Rd.elem TnC_len (hr2.ext e3) hlt
      have hfk := hf2 _ (List.getElem_mem hlt)
      have hids : ∀ j, j ≤ ts.length → ∀ x ∈ runT L (ts.take j), -9223372036854775808 ≤ x.id ∧ x.id ≤ 9223372036854775807 := by
        intro j
        induction j with
        | zero => intro _ x hx; exact (hf x (by simpa [runT] using hx)).2
        | succ j ih => intro hj; rw [runT_take (by omega)]; exact pTurn_ids (hf2 _ (List.getElem_mem _)) (ih (by omega))
      repeat' (first | apply Jbq | apply Jbr | apply Jbs | apply Jbt | apply Jby | apply Jbz | (apply Jcg; (first | exact Jaa rfl | exact Jar Us.h Sz.h rfl rfl (by omega)); exact rfl) | refine Jcg (Pu_loadAgg (cs := TnC ts[k]) Us.h rfl Sz.h rfl (fun _ e j u hu => by rw [e]; exact hcell j u hu)) rfl ?_ | (refine TL_alloc Zs.h rfl rfl ?_; intro w4 g4 e4 hg4 hz4 hb4) | (refine TL_storeAgg rfl rfl Sz.h rfl hb4 rfl ?_; intro w5 c5 hz5 hb5) | refine Jcg (Pu_loadAgg (cs := TnC ts[k]) Us.h rfl Sz.h rfl (fun _ e j u hu => by rw [e, add0, hb5.cell]; exact hu)) rfl ?_)
      have hM5 := (hM3.ext e4).ch c5 (by simp only [Iv]; omega)
      have E5 : Ext w w5 := Ext.then_iv (e3.ext e4) c5 (by have := e3.size; omega)
      refine TL_call rfl en142 (apply_c hM5 (by omega) hfk (hids k hk)) rfl rfl ?_
      rintro _ w6 hq
      rcases hq with ⟨hok, rfl, c6, hM6⟩ | ⟨hno, rfl, e6⟩
      · repeat' (first | apply Jbq | apply Jbr | apply Jbt | apply Jbx | apply Jbz | (refine Jcf rfl ?_) | (apply Jcg; (first | exact Jaa rfl | exact Jaf rfl rfl (by omega) | exact Jaj rfl); exact rfl))
        refine TN_round (k + 1) (subEnv_cons rfl (subEnv_cons rfl (subEnv_cons rfl (subEnv_cons rfl (subEnv_nil _))))) ⟨hlt, Ext.then_iv E5 c6 (by omega), ?_, fun j hj hjk => ?_⟩ (by omega)
        · rw [runT_take hlt]; exact hM6
        · rcases Nat.lt_or_ge j k with h2 | h2
          · exact hst j hj h2
          · obtain rfl : j = k := by omega
            exact hok
      · repeat' (first | apply Jbq | apply Jbr | apply Jbs | apply Jbt | apply Jbu | apply Jbv | apply Jbw | (refine Jce rfl ?_) | (apply Jcg; (first | exact Jab rfl | exact Jaj rfl); exact rfl))
        exact TR_of (res2 rfl rfl rfl) ⟨E5.ext e6, .inr ⟨fun h => hno (h k hlt), rfl⟩⟩
    · obtain rfl : k = ts.length := by omega
      rw [List.take_length] at hM3
      repeat' (first | apply Jbq | apply Jbr | apply Jbs | apply Jbt | apply Jbu | apply Jca | apply Jcb | apply Jcc | (apply Jcg; (first | exact Jaa rfl | exact Jab rfl); exact rfl))
      exact TR_of (res2 rfl rfl rfl) ⟨e3, .inl ⟨fun j hj => hst j hj hj, b, _, rfl, by omega, by omega, hM3⟩⟩
end Go.Proofs.YtggaghghclomkaaGreat

/- Contracts: a directory's links in the order of their names. -/
namespace Go.Proofs.YtggaghghclomkaaGreat
open Go.RowKit
attribute [local irreducible] TL TC TN TX TR TQ TA Pu Ret
noncomputable def infT : TypeInfo := (Tryz.prog.info? 30).get (by kernel_rfl)
noncomputable def infE : TypeInfo := (Tryz.prog.info? 162).get (by kernel_rfl)
theorem swK (n : Nat) (h2 : 2 ≤ n) : Lib.swapperK n infE 25 = 9 := by
  have a : infE.hasPointers = true := by kernel_rfl
  have b : infE.bytes = 24 := by kernel_rfl
  have c : (n == 0) = false := by simp; omega
  have d : (n == 1) = false := by simp; omega
  simp [Lib.swapperK, a, b, c, d]
set_option maxHeartbeats 1000000 in
theorem less_c {w : World} {g b c size : Nat} {dk : Array LkD} {i j : Nat} (hs : w.cell? ⟨b, 0, none⟩ = some (.slice (some ⟨g, 0, none⟩) size c))
    (hc : ∀ t, t < size → w.cell? ⟨g, t * 2, none⟩ = some (S dk[t]!.name)) (hi : i < size) (hj : j < size) (_hsz : size < 4611686018427387904) :
    Ret Tryz.prog 144 #[I i, I j, .pointer (some ⟨b, 0, none⟩)] w fun v w' => v = .bool (ltK dk[i]! dk[j]!) ∧ ∃ q, w' = w.drewN q := by
  have ci := hc i hi
  have cj := hc j hj
  refine Ret_enter Tryz.func144 rfl rfl rfl ?_
  repeat' (first | apply Jbq | apply Jbr | apply Jbs | apply Jbt | (apply Jcg; exact Jab rfl; exact rfl))
  refine TC_quiet (fun w' => ∃ q, w' = w.drewN q) mixed (by kernel_rfl) ⟨1, rfl⟩ ?_
  repeat' (first | (apply Jck; (first | exact Jaa rfl | exact Jab rfl | exact Jar Us.h Sz.h rfl rfl (by omega) | (apply Jbl; exact Us.h; exact rfl; exact Sz.h; exact rfl)); exact rfl) | refine Jck (v := .slice (some ⟨g, 0, none⟩) size c) (Pu_load Fl.h rfl (fun w' hw => by obtain ⟨q, rfl⟩ := hw; exact hs)) rfl ?_ | refine Jck (v := S dk[i]!.name) (Pu_load Fl.h rfl (fun w' hw => by obtain ⟨q, rfl⟩ := hw; rw [add_of_add, add0]; simpa using ci)) rfl ?_ | refine Jck (v := S dk[j]!.name) (Pu_load Fl.h rfl (fun w' hw => by obtain ⟨q, rfl⟩ := hw; rw [add_of_add, add0]; simpa using cj)) rfl ?_ | (apply Jck; exact Pu_lsss rfl rfl; exact rfl))
  refine TQ_nil fun w' hw => ?_
  repeat' (first | apply Jbr | apply Jbu)
  exact TR_of (res1 rfl rfl) ⟨by rw [less_before]; rfl, hw⟩
theorem sort_c {w : World} {g g3 c lo hi : Nat} {A : List LkD} (ho : Own w lo hi 162 2 (some ⟨g, 0, none⟩) A.length c (cellsL LkC A)) (hb : Blk w g3 30 [.slice (some ⟨g, 0, none⟩) A.length c]) (hg : g ≠ g3) (h12 : A.length ≤ 12) :
    Ret Tryz.prog 143 #[.iface 30 (.slice (some ⟨g, 0, none⟩) A.length c), .func (.func 144) #[] #[.pointer (some ⟨g3, 0, none⟩)]] w fun v w' =>
      v = .tuple #[] ∧ ∃ B : List LkD, B.Perm A ∧ (∀ i j, i < j → j < B.length → ltK B[j]! B[i]! = false) ∧ Ch (Iv g (g + 1)) w w' ∧ Own w' lo hi 162 2 (some ⟨g, 0, none⟩) A.length c (cellsL LkC B) := by
  have hgl : g < w.heap.size := Nat.lt_of_lt_of_le (ho.lt _ rfl) ho.hi_le
  have hH := holdsK_own ho
  rcases Nat.lt_or_ge A.length 2 with h1 | h2
  · obtain ⟨f, hf⟩ : ∃ f, Tryz.prog.funcs.findIdx? (·.name == "internal/reflectlite" ++ ".Swapper$" ++ toString (Lib.swapperK A.length infE 25)) = some f := by
      rcases Nat.lt_or_ge A.length 1 with h | h
      · rw [show A.length = 0 by omega]; exact ⟨182, by kernel_rfl⟩
      · rw [show A.length = 1 by omega]; exact ⟨183, by kernel_rfl⟩
    have h := Any.sort_Slice_tiny Tryz.laysGg6 30 162 infT infE (by kernel_rfl) (by kernel_rfl) (by kernel_rfl) (by kernel_rfl) 25 (fun _ => by kernel_rfl) (some ⟨g, 0, none⟩) A.length c (by omega) f hf (.func 144) #[] #[.pointer (some ⟨g3, 0, none⟩)] w
    change Calls Tryz.prog 143 _ _ _ at h
    unfold Ret
    refine Calls.mono h fun e w' ⟨he, os, hw⟩ => ⟨_, he, rfl, A, List.Perm.refl _, fun i j hij hj => by omega, ?_, ?_⟩
    · subst hw; exact Ch.mono (grow_ch w os) (fun _ t => t.elim)
    · subst hw; exact ho.ext (grow_ch w os)
  · have hless : LessReadsK Tryz.prog 144 #[.pointer (some ⟨g3, 0, none⟩)] LkC 2 ltK g 0 A.toArray.size w := by
      intro m os dk hs i j hi hj
      have e : sortWorldK LkC 2 w g 0 m dk os = Sort.putRowK LkC 2 (Sort.grow (Sort.ahead w m) os) g 0 dk := by
        unfold sortWorldK; rw [Sort.putRowK_grow _ _ (Sort.ahead w m) _ g 0 _ hgl]
      have hHg : Sort.HoldsK LkC 2 (Sort.grow (Sort.ahead w m) os) g 0 A.toArray := Sort.holdsK_grow _ _ _ _ g 0 _ hgl (Sort.holdsK_ahead _ _ _ _ _ _ _ hH)
      have hl := less_c (w := sortWorldK LkC 2 w g 0 m dk os) (g := g) (b := g3) (c := c) (size := A.length) (dk := dk) (i := i) (j := j) ?_ (fun t ht => ?_) (by simpa using hi) (by simpa using hj) (by omega)
      · unfold Ret at hl
        exact Calls.mono hl fun e w' ⟨v, he, hv, hq⟩ => ⟨by rw [he, hv], hq⟩
      · rw [e, Sort.cell?_putRowK_other _ _ _ g 0 dk _ (fun h => hg h.symm), Sort.cell?_grow _ _ _ hb.lt]
        show w.cell? _ = _
        rw [hb.cell]; rfl
      · rw [e]
        have := ((Sort.holdsK_putRowK _ _ _ g 0 _ dk hHg hs).cell (i := t) (c := 0) (by rw [hs]; simpa using ht) (by omega)).1
        simpa [LkC] using this
    have h := Any.sort_Slice_small_cells_sorted Tryz.laysGg6 30 162 infT infE (by kernel_rfl) (by kernel_rfl) (by kernel_rfl) (by kernel_rfl) 25 (fun _ => by kernel_rfl) LkC 2 LkC_len (by kernel_rfl) (fun _ => by kernel_rfl)
      LkC_one ltK swoK 144 #[.pointer (some ⟨g3, 0, none⟩)] en144 g 0 c A.toArray (by simpa using h2) (by simpa using h12) 190 (by rw [swK _ (by simpa using h2)]; kernel_rfl) false
      (fun args W => run_callFunc_extern Tryz.func190 (by kernel_rfl) (by kernel_rfl) (by kernel_rfl) (e := Extern.ReflectliteSwapper.swap false) (by kernel_rfl) args W) w hless hH hgl
    change Calls Tryz.prog 143 _ _ _ at h
    unfold Ret
    refine Calls.mono h fun e w' ⟨he, d', n, os, hp, hso, hw⟩ => ⟨_, he, rfl, d'.toList, ?_, fun i j hij hj => ?_, ?_⟩
    · have h3 := hp.2.2
      have e1 : d'.extract 0 A.toArray.size = d' := by rw [← hp.1]; simp
      have e2 : A.toArray.extract 0 A.toArray.size = A.toArray := by simp
      rw [e1, e2] at h3
      simpa using h3
    · have h3 := hso i j (Nat.zero_le _) hij (by have := hp.1; simp at this hj; simp; omega)
      have key : ∀ k : Nat, d'.toList[k]! = d'[k]! := fun k => by simp only [getElem!_def, Array.getElem?_toList]
      rw [key, key]
      exact h3
    · have h3 := Own.sorted (m := n) (l' := d'.toList) ho (by have := hp.1; simpa using this) os
      rw [show d'.toList.toArray = d' from rfl] at h3
      rw [hw]; exact h3
theorem sort_r {w : World} {g3 lo hi : Nat} {v : Value} {A : List LkD} (ho : RowO LkC 162 2 w lo hi v A) (hb : Blk w g3 30 [v]) (hg : g3 < lo) (h12 : A.length ≤ 12) :
    Ret Tryz.prog 143 #[.iface 30 v, .func (.func 144) #[] #[.pointer (some ⟨g3, 0, none⟩)]] w fun u w' =>
      u = .tuple #[] ∧ ∃ B : List LkD, B.Perm A ∧ (∀ i j, i < j → j < B.length → ltK B[j]! B[i]! = false) ∧ Ch (Iv lo hi) w w' ∧ RowO LkC 162 2 w' lo hi v B := by
  obtain ⟨p, c, rfl, ho⟩ := ho
  rcases ho.head with rfl | ⟨g, rfl, h1, h2⟩
  · have h0 : A.length = 0 := by
      rcases Nat.eq_zero_or_pos A.length with h | h
      · exact h
      · obtain ⟨ad, h, _⟩ := ho.rd.at_ h; cases h
    have h := Any.sort_Slice_tiny Tryz.laysGg6 30 162 infT infE (by kernel_rfl) (by kernel_rfl) (by kernel_rfl) (by kernel_rfl) 25 (fun _ => by kernel_rfl) none A.length c (by omega) 182 (by rw [h0]; kernel_rfl) (.func 144) #[] #[.pointer (some ⟨g3, 0, none⟩)] w
    change Calls Tryz.prog 143 _ _ _ at h
    unfold Ret
    refine Calls.mono h fun e w' ⟨he, os, hw⟩ => ⟨_, he, rfl, A, List.Perm.refl _, fun i j hij hj => by omega, ?_, ?_⟩
    · subst hw; exact Ch.mono (grow_ch w os) (fun _ t => t.elim)
    · subst hw; exact ⟨_, _, rfl, ho.ext (grow_ch w os)⟩
  · refine (sort_c ho hb (by omega) h12).mono fun u w' ⟨hu, B, hp, hs, hc, hown⟩ => ⟨hu, B, hp, hs, hc.mono (fun k hk => by simp only [Iv] at *; omega), ?_⟩
    have : A.length = B.length := hp.length_eq.symm
    rw [this] at hown ⊢
    exact ⟨_, _, rfl, hown⟩
set_option maxHeartbeats 2000000 in
theorem links_c {w : World} {b k : Nat} {L : List LkD} (hM : MD w b k L) (ha : Asc L) (hl : L.length ≤ 12) :
    Ret Tryz.prog 69 #[.map (some b)] w fun v w' => Ext w w' ∧ RowO LkC 162 2 w' w.heap.size w'.heap.size v L := by
  have hbl := World.ownsMap.lt hM
  refine Ret_enter Tryz.func69 rfl rfl rfl ?_
  repeat' (first | apply Jbq | apply Jbr | apply Jbs | apply Jbt | (apply Jcg; exact Jab rfl; exact rfl))
  refine TL_alloc Zs.h rfl rfl ?_
  intro w1 g3 e1 hg1 hz1 hb1
  replace hM := hM.ext e1
  repeat' (first | apply Jbq | apply Jbr | apply Jbs | apply Jbt | (apply Jcg; exact Jaa rfl; exact rfl))
  refine TL_range rfl hM rfl ?_
  intro w2 r e2 hr hz2 hR
  repeat' (first | apply Jbq | apply Jbr | apply Jby)
  refine TC_loop (ι := Nat) (fun _ => [(3, .pointer (some ⟨g3, 0, none⟩)), (7, .pointer (some ⟨r, 0, none⟩))])
    (fun cnt w' => ∃ left ss vo, MR w' b r k L left cnt ∧ Collected (toD L) left ss ∧ ss.length + cnt ≤ L.length ∧ Blk w' g3 30 [vo] ∧ RowO LkC 162 2 w' (r + 1) w'.heap.size vo (ss.map fun s => (⟨s, dFind L s⟩ : LkD)) ∧ Ext w w') (fun cnt => cnt) L.length
    (subEnv_cons rfl (subEnv_cons rfl (subEnv_nil _))) ⟨_, [], .slice none 0 0, hR, Collected.start _, by simp, hb1.ext e2, RowO.nil _ _ (by omega), e1.ext e2⟩ ?_
  rintro cnt w3 ⟨left, ss, vo, hR3, hC, hlen, hb3, hrow, E3⟩
  have hs3 := E3.size
  have hrl := World.ranges.lt hR3
  repeat' (first | apply Jbs | apply Jbt)
  refine TL_next rfl hR3 rfl (fun h0 => ?_) (fun s w4 cnt' hlk hs hat hR4 hcnt c4 hz4 hent => ?_)
  · have hperm := hC.perm (World.ranges.owns hR3) kStr Tryz.underlying9 h0
    rw [strKeys_toD] at hperm
    have hperm2 := hperm.map (fun s => (⟨s, dFind L s⟩ : LkD))
    rw [asc_gather ha] at hperm2
    repeat' (first | apply Jbq | apply Jbr | apply Jbs | apply Jbt | apply Jca | apply Jcb | apply Jcc | (refine Jcf rfl ?_) | (apply Jcg; exact Jae rfl rfl; exact rfl) | refine Jcg (v := vo) (Pu_load Fl.h rfl (fun _ e => by rw [e, hb3.cell]; rfl)) rfl ?_ | refine Jcg (Pu_iface Us.h rfl) rfl ?_ | refine Jcg (Pu_func1 rfl) rfl ?_)
    refine TL_call rfl en143 (sort_r hrow hb3 (by omega) (by rw [hperm2.length_eq]; exact hl)) rfl rfl ?_
    rintro _ w4 ⟨rfl, B, hp, hsd, c4, hown⟩
    obtain rfl := asc_unique (hp.trans hperm2) ha hsd
    have hb4 := hb3.ch c4 (by simp only [Iv]; omega)
    repeat' (first | apply Jbq | apply Jbr | apply Jbs | apply Jbt | apply Jbu | (apply Jcg; exact Jab rfl; exact rfl) | refine Jcg (v := vo) (Pu_load Fl.h rfl (fun _ e => by rw [e, hb4.cell]; rfl)) rfl ?_)
    have hs4 := c4.size
    exact TR_of (res1 rfl rfl) ⟨Ext.then_iv E3 c4 (by omega), hown.wide (by omega) (by omega) (Nat.le_refl _)⟩
  · have hb4 := hb3.ch c4 (by simp only [Iv]; omega)
    have hrow4 := hrow.ch c4 (by intro j _ _; simp only [Iv]; omega)
    have E4 : Ext w w4 := Ext.then_iv E3 c4 (by omega)
    have hC4 := hC.step hlk hat
    repeat' (first | apply Jbq | apply Jbr | apply Jbs | apply Jbt | apply Jby | apply Jbz | (refine Jce rfl ?_) | (apply Jcg; (first | exact Jaa rfl | exact Jab rfl | exact Jae rfl rfl); exact rfl) | refine Jcg (Pu_entryG rfl (fun _ e => by rw [e]; exact hent)) rfl ?_ | refine Jcg (v := vo) (Pu_load Fl.h rfl (fun _ e => by rw [e, hb4.cell]; rfl)) rfl ?_ | refine Jcg (Pu_build (cs := LkC ⟨s, dFind L s⟩) rfl (by kernel_rfl)) rfl ?_)
    refine TL_buildSlice Us.h Zi.h rfl rfl rfl rfl (fillK ⟨s, dFind L s⟩) rfl rfl ?_
    intro w5 g5 e5 hg5 hz5 hown5
    have hrow5 := hrow4.ext e5
    skip
    refine TL_appendRow Us.h Inf.h rfl rfl rfl LkC_one rfl rfl hrow5 (lk_own hown5 rfl hg5 hz5).rd (by omega) (by simp only [List.length_map, List.length_cons, List.length_nil]; omega) rfl ?_
    intro w6 v6 c6 ho6
    have hR5 := hR4.ch e5 (fun t => t) (fun t => t)
    have hR6 := hR5.ch c6 (by simp only [Iv]; omega) (by simp only [Iv]; omega)
    have hb6 := (hb4.ext e5).ch c6 (by simp only [Iv]; omega)
    have hs6 := c6.size
    skip
    refine TL_store (off := 0) rfl rfl Sz.h ho6.rd.one hb6 rfl ?_
    intro w7 c7 hz7 hb7
    have hR7 := hR6.ch c7 (by simp only [Iv]; omega) (by simp only [Iv]; omega)
    have ho7 := ho6.ch c7 (by intro j _ _; simp only [Iv]; omega)
    repeat' (first | apply Jbq | apply Jbx)
    exact TN_round cnt' (subEnv_cons rfl (subEnv_cons rfl (subEnv_nil _))) ⟨_, ss ++ [s], v6, hR7, hC4, by simp only [List.length_append, List.length_cons, List.length_nil]; omega, hb7, by rw [hz7, List.map_append]; exact ho7, Ext.then_iv (Ext.then_iv (E4.ext e5) c6 (by omega)) c7 (by omega)⟩ hcnt
end Go.Proofs.YtggaghghclomkaaGreat

/- Contracts: whether a disk is right, by the reference. -/
namespace Go.Proofs.YtggaghghclomkaaGreat
open Go.RowKit
section
variable {P : Program} {C : World → Prop} {n : Nat} {l : Env} {dd : Option Nat} {x y : Operand} {t t' ty : TypeId} {pos : String} {af : Array Edge} {a b : List UInt8}
theorem Pu_geqT (hx : ev l x = some (S a)) (hy : ev l y = some (S b)) (h : bytesBefore a b = false) : Pu P C n l ⟨dd, .binOp .geq t x y t', ty, pos, af, none⟩ (.bool true) := by
  have := Pu_geqb (P := P) (C := C) (n := n) (dd := dd) (t := t) (t' := t') (ty := ty) (pos := pos) (af := af) hx hy
  rwa [h] at this
theorem Pu_geqF (hx : ev l x = some (S a)) (hy : ev l y = some (S b)) (h : bytesBefore a b = true) : Pu P C n l ⟨dd, .binOp .geq t x y t', ty, pos, af, none⟩ (.bool false) := by
  have := Pu_geqb (P := P) (C := C) (n := n) (dd := dd) (t := t) (t' := t') (ty := ty) (pos := pos) (af := af) hx hy
  rwa [h] at this
end
theorem RowR.to {α : Type} {f : α → List Value} {s : Nat} {w : World} {lo hi c k : Nat} {A : Option Addr} {l : List α} (hf : ∀ a, (f a).length = s) (h : Rd w lo hi s A l.length (cellsL f l)) (hc : l.length ≤ c) (hk : k ≤ l.length) : RowR f s w lo hi (.slice (cutA A c 0 s) k c) (l.take k) := by
  have h2 := h.cut (a := 0) (b := k) (c := c) (Nat.zero_le _) hk hc
  rw [Nat.zero_mul, List.drop_zero, cellsL_take hf, Nat.sub_zero] at h2
  have hl : (l.take k).length = k := by rw [List.length_take]; omega
  exact ⟨_, _, by rw [hl], by rw [hl]; omega, by rw [hl]; exact h2⟩
theorem nIds_take {l : List NodeP} {k : Nat} (h : k < l.length) : nIds (l.take (k + 1)) = nIds (l.take k) ++ [l[k].1] := by
  unfold nIds
  rw [List.take_succ_eq_append_getElem h, List.map_append]
  rfl
attribute [local irreducible] TL TC TN TX TR TQ TA Pu Ret
set_option maxRecDepth 100000 in
set_option maxHeartbeats 16000000 in
theorem specDiskOk_c {w : World} {lo hi : Nat} {d : DiskP} {sn sk st : Value} (h : RDk w lo hi d sn sk st) (hf : d.fits) (hl : totD d ≤ 1048576) :
    Ret Tryz.prog 57 #[.agg (dskC d sn sk st).toArray] w fun v' w' => v' = .bool (pDOk d) ∧ Ext w w' := by
  obtain ⟨l1, l2, l3⟩ := totD_parts hl
  have nn1 := totNd_nn d.nodes
  have nn2 := totLk_nn d.kept
  have nn3 := totTn_nn d.turns
  have hh := h
  obtain ⟨ds, An, cn, hm, rfl, hcn, hrn, hok⟩ := h.1
  obtain ⟨Ak, ck, rfl, hck, hrk⟩ := h.2.1.row
  obtain ⟨At, ct, rfl, hct, hrt⟩ := h.2.2.row
  have hln : d.nodes.length = ds.length := by rw [← hm, List.length_map]
  obtain ⟨f1, f2, f3, _, ⟨_, f6⟩, ⟨_, f8⟩⟩ := hf
  refine Ret_enter Tryz.func57 rfl rfl rfl ?_
  repeat' (first | apply Jbs | apply Jbt)
  refine TL_box (cs := dskC d (.slice An ds.length cn) (.slice Ak d.kept.length ck) (.slice At d.turns.length ct)) rfl rfl ?_
  intro wb g E hg hz hbk
  clear hz
  have hzb := E.size
  repeat' (first | apply Jbq | apply Jbr | apply Jbs | apply Jbt | apply Jbu | apply Jbv | apply Jbz | (refine Jce rfl ?_) | (apply Jcg; (first | exact Jaa rfl | exact Jab rfl | exact Jac Us.h rfl | exact Jad rfl rfl | exact Jah rfl rfl | exact Jai rfl rfl | exact Jam rfl rfl | (apply Jbl; exact Us.h; exact rfl; exact Sz.h; exact rfl)); exact rfl) | refine Jch rfl rfl rfl ?_ | refine Jci rfl rfl rfl rfl rfl ?_ | refine Jcg (Pu_load Fl.h rfl (fun _ e => by rw [e]; exact hbk.ld rfl)) rfl ?_ | (refine TL_buildSlice0 Us.h Sz.h rfl ?_; intro w1 g1 e1 hg1 hz1 hown1) | (refine Jcs rfl rfl (fun hb => ?_) (fun hb => ?_) <;> (try (exfalso; omega))) | (refine Jcx rfl (fun hb => ?_) (fun hb => ?_) <;> (try (exfalso; omega))))
  all_goals try exact TR_of (res1 rfl rfl) ⟨by rw [pDOk_no (fun h => by have := h.base; unfold dBase at this; omega)], E⟩
  have hB : dBase d := by unfold dBase; omega
  have hb1 := hbk.ext e1
  repeat' (first | apply Jbq | apply Jbr | apply Jby | (apply Jcg; (first | exact Jaa rfl | exact Jac Us.h rfl); exact rfl) | refine Jcg (Pu_load Fl.h rfl (fun _ e => by rw [e]; exact hb1.ld rfl)) rfl ?_)
  refine TC_loop (ι := Nat × Value) (fun x => [(1, .pointer (some ⟨g, 0, none⟩)), (3, x.2), (62, .slice An ds.length cn), (63, I ds.length), (64, I x.1)]) (fun x w' => x.1 ≤ ds.length ∧ (∀ i, i < x.1 → nStep d i) ∧ Ext wb w' ∧ RowO InC 3 1 w' wb.heap.size w'.heap.size x.2 (nIds (d.nodes.take x.1))) (fun x => ds.length - x.1) (0, _) (subEnv_cons rfl (subEnv_cons rfl (subEnv_cons rfl (subEnv_cons rfl (subEnv_cons rfl (subEnv_nil _)))))) ⟨Nat.zero_le _, fun i hi => absurd hi (Nat.not_lt_zero _), e1, RowO.new (l := []) rfl hown1 hg1 hz1⟩ ?_
  rintro ⟨k, vo⟩ w2 ⟨hkk, hst, e2, ho2⟩
  simp only at hkk hst ho2
  have hb2 := hbk.ext e2
  show TC _ _ _ _ [(1, .pointer (some ⟨g, 0, none⟩)), (3, vo), (62, .slice An ds.length cn), (63, I ds.length), (64, I (k : Int))] w2
  repeat' (first | apply Jbq | apply Jbr | apply Jbs | apply Jbt | (apply Jcg; exact Jad rfl rfl; exact rfl))
  refine Jcx rfl (fun hlt0 => ?_) (fun hge => ?_)
  · have hlt : k < ds.length := by omega
    obtain ⟨ad, rfl, hcell⟩ := Rd.elem NdC_len (hrn.ext (E.ext e2)) hlt
    have hcp : 0 < k → w2.cell? ((ad.add (((k : Int) - 1).toNat * 3)).add 0) = some (I (d.nodes[k - 1]'(by omega)).1) := fun h0 => by
      obtain ⟨ad', h1, hc⟩ := Rd.elem NdC_len (hrn.ext (E.ext e2)) (k := k - 1) (by omega)
      injection h1 with h1; subst h1
      rw [show ((k : Int) - 1).toNat = k - 1 by omega]
      have h2 := hc 0 _ rfl
      rw [h2]
      simp only [← hm, List.getElem_map]
      rfl
    have hnk : d.nodes[k]'(by omega) = NdP ds[k] := by simp only [← hm, List.getElem_map]
    have hiff : nStep d k ↔ (1 ≤ ds[k].id ∧ ds[k].id < d.next ∧ (0 < k → (d.nodes[k - 1]'(by omega)).1 < ds[k].id)) := by
      unfold nStep
      constructor
      · intro h; have := h (by omega); rw [hnk] at this; exact this
      · intro h _; rw [hnk]; exact h
    have hid : (d.nodes[k]'(by omega)).1 = ds[k].id := by rw [hnk]; rfl
    have hone := (hok _ (List.getElem_mem hlt)).one
    obtain ⟨x, hx⟩ : ∃ x, x = ds[k] := ⟨_, rfl⟩
    rw [← hx] at hcell hiff hid hone
    obtain ⟨id, body, safe, vb, vs⟩ := x
    simp only at hiff hid
    replace hcell : ∀ j u, [I id, vb, vs][j]? = some u → w2.cell? ((ad.add (k * 3)).add j) = some u := hcell
    replace hone : [I id, vb, vs].all (·.oneCell') = true := hone
    repeat' (first | apply Jbq | apply Jbr | apply Jbs | apply Jbt | apply Jby | apply Jbz | (apply Jcg; (first | exact Jaa rfl | exact Jab rfl | exact Jar Us.h Sz.h rfl rfl (by omega)); exact rfl) | refine Jcg (Pu_loadAgg (cs := [I id, vb, vs]) Us.h rfl Sz.h rfl (fun _ e j u hu => by rw [e]; exact hcell j u hu)) rfl ?_ | (refine TL_alloc Zs.h rfl rfl ?_; intro w3 g3 e3 hg3 hz3 hb3) | (refine TL_storeAgg rfl rfl Sz.h hone hb3 rfl ?_; intro w4 c4 hz4 hb4))
    have E4 : Ext w2 w4 := Ext.then_iv e3 c4 (by omega)
    have hbk4 := hb2.ext E4
    have hcp4 := fun h0 => E4.cell (hcp h0)
    have E4w := e2.ext E4
    generalize hpid : (if h0 : 0 < k then (d.nodes[k - 1]'(by omega)).1 else 0) = pid at *
    have hpid' : ∀ h0 : 0 < k, (d.nodes[k - 1]'(by omega)).1 = pid := fun h0 => by rw [← hpid, dif_pos h0]
    by_cases hS : 1 ≤ id ∧ id < d.next ∧ (0 < k → pid < id)
    · have hSt : nStep d k := hiff.2 ⟨hS.1, hS.2.1, fun h0 => by rw [hpid' h0]; exact hS.2.2 h0⟩
      have hrest : ∀ (w5 : World) (l5 : Env), True := fun _ _ => trivial
      refine TC_quietExt mixed (by kernel_rfl) ?_
      rcases Nat.eq_zero_or_pos k with hk0 | hk0
      · repeat' (first | (apply Jck; (first | exact Jaa rfl | exact Jad rfl rfl | exact Jai rfl rfl | exact Jam rfl rfl | exact Jao rfl rfl | (apply Jbl; exact Us.h; exact rfl; exact Sz.h; exact rfl)); exact rfl) | refine Jcl rfl rfl rfl ?_ | refine Jcm rfl rfl rfl rfl rfl ?_ | refine Jck (Pu_load Fl.h rfl (fun _ e => Ext.cell e (hb4.ld rfl))) rfl ?_ | refine Jck (Pu_load Fl.h rfl (fun _ e => Ext.cell e (hbk4.ld rfl))) rfl ?_ | (refine Jcv rfl rfl (fun hb => ?_) (fun hb => ?_) <;> (try (exfalso; omega))))
        refine TQ_nil (fun w5 e5 => ?_)
        have hb5 := hb4.ext e5
        repeat' (first | apply Jbr | apply Jbt | apply Jbz | (refine Jcf rfl ?_) | (apply Jcg; (first | exact Jaa rfl | (apply Jbl; exact Us.h; exact rfl; exact Sz.h; exact rfl)); exact rfl) | refine Jcg (Pu_load Fl.h rfl (fun _ e => by rw [e]; exact hb5.ld rfl)) rfl ?_)
        refine TL_buildSlice Us.h Zi.h rfl rfl rfl rfl (fillI _) rfl rfl ?_
        intro w6 g6 e6 hg6 hz6 hown6
        skip
        refine TL_appendRow Us.h Inf.h rfl rfl rfl InC_one rfl rfl (ho2.ext ((E4.ext e5).ext e6)) (in_own hown6 rfl hg6 hz6).rd ((E4w.ext e5).ext e6).size (by simp only [nIds, List.length_map, List.length_take, List.length_cons, List.length_nil]; omega) rfl ?_
        intro w7 v7 c7 ho7
        repeat' (first | apply Jbq | apply Jbr | apply Jbt | apply Jbx | (apply Jcg; (first | exact Jaa rfl | exact Jab rfl | exact Jaf rfl rfl (by omega)); exact rfl))
        refine TN_round (k + 1, v7) (subEnv_cons rfl (subEnv_cons rfl (subEnv_cons rfl (subEnv_cons rfl (subEnv_cons rfl (subEnv_nil _)))))) ⟨hlt, ?_, Ext.then_iv ((E4w.ext e5).ext e6) c7 (Nat.le_refl _), ?_⟩ (by simp only; omega)
        · intro i hi
          rcases Nat.lt_or_ge i k with h2 | h2
          · exact hst i h2
          · obtain rfl : i = k := by simp only at hi; omega
            exact hSt
        · simp only
          rw [nIds_take (by omega), hid]
          exact ho7
      · have hc4 := hcp4 hk0
        rw [hpid' hk0] at hc4
        repeat' (first | (apply Jck; (first | exact Jaa rfl | exact Jad rfl rfl | exact Jah rfl rfl | exact Jai rfl rfl | exact Jam rfl rfl | exact Jao rfl rfl | exact Jap rfl rfl (by omega) | exact Jar Us.h Sz.h rfl rfl (by omega) | (apply Jbl; exact Us.h; exact rfl; exact Sz.h; exact rfl)); exact rfl) | refine Jcl rfl rfl rfl ?_ | refine Jck (Pu_load Fl.h rfl (fun _ e => Ext.cell e (hb4.ld rfl))) rfl ?_ | refine Jck (Pu_load Fl.h rfl (fun _ e => Ext.cell e (hbk4.ld rfl))) rfl ?_ | refine Jck (Pu_load Fl.h rfl (fun _ e => Ext.cell e hc4)) rfl ?_ | (refine Jcv rfl rfl (fun hb => ?_) (fun hb => ?_) <;> (try (exfalso; omega))))
        refine TQ_nil (fun w5 e5 => ?_)
        have hb5 := hb4.ext e5
        repeat' (first | apply Jbr | apply Jbt | apply Jbz | (apply Jcg; (first | exact Jaa rfl | (apply Jbl; exact Us.h; exact rfl; exact Sz.h; exact rfl)); exact rfl) | refine Jcg (Pu_load Fl.h rfl (fun _ e => by rw [e]; exact hb5.ld rfl)) rfl ?_ | (refine Jcx rfl (fun hb => ?_) (fun hb => ?_) <;> (try (exfalso; omega))))
        refine TL_buildSlice Us.h Zi.h rfl rfl rfl rfl (fillI _) rfl rfl ?_
        intro w6 g6 e6 hg6 hz6 hown6
        skip
        refine TL_appendRow Us.h Inf.h rfl rfl rfl InC_one rfl rfl (ho2.ext ((E4.ext e5).ext e6)) (in_own hown6 rfl hg6 hz6).rd ((E4w.ext e5).ext e6).size (by simp only [nIds, List.length_map, List.length_take, List.length_cons, List.length_nil]; omega) rfl ?_
        intro w7 v7 c7 ho7
        repeat' (first | apply Jbq | apply Jbr | apply Jbt | apply Jbx | (apply Jcg; (first | exact Jaa rfl | exact Jab rfl | exact Jaf rfl rfl (by omega)); exact rfl))
        refine TN_round (k + 1, v7) (subEnv_cons rfl (subEnv_cons rfl (subEnv_cons rfl (subEnv_cons rfl (subEnv_cons rfl (subEnv_nil _)))))) ⟨hlt, ?_, Ext.then_iv ((E4w.ext e5).ext e6) c7 (Nat.le_refl _), ?_⟩ (by simp only; omega)
        · intro i hi
          rcases Nat.lt_or_ge i k with h2 | h2
          · exact hst i h2
          · obtain rfl : i = k := by simp only at hi; omega
            exact hSt
        · simp only
          rw [nIds_take (by omega), hid]
          exact ho7
    · have hno : pDOk d = false := pDOk_no (fun h => hS (by
        have h3 := hiff.1 (h.node k)
        exact ⟨h3.1, h3.2.1, fun h0 => by rw [← hpid' h0]; exact h3.2.2 h0⟩))
      refine TC_quietExt mixed (by kernel_rfl) ?_
      rcases Nat.eq_zero_or_pos k with hk0 | hk0
      · repeat' (first | (apply Jck; (first | exact Jaa rfl | exact Jad rfl rfl | exact Jah rfl rfl | exact Jai rfl rfl | exact Jao rfl rfl | (apply Jbl; exact Us.h; exact rfl; exact Sz.h; exact rfl)); exact rfl) | refine Jcl rfl rfl rfl ?_ | refine Jcm rfl rfl rfl rfl rfl ?_ | refine Jcn rfl rfl rfl rfl ?_ | refine Jck (Pu_load Fl.h rfl (fun _ e => Ext.cell e (hb4.ld rfl))) rfl ?_ | refine Jck (Pu_load Fl.h rfl (fun _ e => Ext.cell e (hbk4.ld rfl))) rfl ?_ | (refine Jcv rfl rfl (fun hb => ?_) (fun hb => ?_) <;> (try (exfalso; omega))))
        all_goals
          refine TQ_nil (fun w5 e5 => ?_)
          repeat' (first | apply Jbq | apply Jbr | apply Jbs | apply Jbt | apply Jbu | apply Jbv | apply Jbw | (refine Jce rfl ?_) | (apply Jcg; exact Jab rfl; exact rfl))
          exact TR_of (res1 rfl rfl) ⟨by rw [hno], E.ext (E4w.ext e5)⟩
      · have hc4 := hcp4 hk0
        rw [hpid' hk0] at hc4
        repeat' (first | (apply Jck; (first | exact Jaa rfl | exact Jad rfl rfl | exact Jah rfl rfl | exact Jai rfl rfl | exact Jam rfl rfl | exact Jao rfl rfl | exact Jap rfl rfl (by omega) | exact Jar Us.h Sz.h rfl rfl (by omega) | (apply Jbl; exact Us.h; exact rfl; exact Sz.h; exact rfl)); exact rfl) | refine Jcl rfl rfl rfl ?_ | refine Jcm rfl rfl rfl rfl rfl ?_ | refine Jcn rfl rfl rfl rfl ?_ | refine Jck (Pu_load Fl.h rfl (fun _ e => Ext.cell e (hb4.ld rfl))) rfl ?_ | refine Jck (Pu_load Fl.h rfl (fun _ e => Ext.cell e (hbk4.ld rfl))) rfl ?_ | refine Jck (Pu_load Fl.h rfl (fun _ e => Ext.cell e hc4)) rfl ?_ | (refine Jcv rfl rfl (fun hb => ?_) (fun hb => ?_) <;> (try (exfalso; omega))))
        all_goals
          refine TQ_nil (fun w5 e5 => ?_)
          repeat' (first | apply Jbq | apply Jbr | apply Jbs | apply Jbt | apply Jbu | apply Jbv | apply Jbw | (refine Jce rfl ?_) | (apply Jcg; exact Jab rfl; exact rfl) | (refine Jcx rfl (fun hb => ?_) (fun hb => ?_) <;> (try (exfalso; omega))))
          exact TR_of (res1 rfl rfl) ⟨by rw [hno], E.ext (E4w.ext e5)⟩
  · obtain rfl : k = ds.length := by omega
    rw [List.take_of_length_le (by omega)] at ho2
    have hN : ∀ i, nStep d i := fun i => by
      rcases Nat.lt_or_ge i ds.length with h1 | h1
      · exact hst i h1
      · intro h2; omega
    clear hst hge hb1 hown1
    obtain ⟨Ao, co, rfl, hoo⟩ := ho2
    have hnl : (nIds d.nodes).length = d.nodes.length := by unfold nIds; rw [List.length_map]
    repeat' (first | apply Jbq | apply Jbr | apply Jbs | apply Jbt | apply Jby | apply Jca | apply Jcb | apply Jcc | (apply Jcg; (first | exact Jaa rfl | exact Jac Us.h rfl | (apply Jbl; exact Us.h; exact rfl; exact Sz.h; exact rfl)); exact rfl) | refine Jcg (Pu_load Fl.h rfl (fun _ e => by rw [e]; exact hb2.ld rfl)) rfl ?_)
    refine TC_loop (ι := Nat) (fun k => [(1, .pointer (some ⟨g, 0, none⟩)), (3, .slice Ao (nIds d.nodes).length co), (102, .slice Ak d.kept.length ck), (103, I d.kept.length), (104, I k)]) (fun k w' => k ≤ d.kept.length ∧ (∀ i, i < k → kStep d i ∧ ∀ h : i < d.kept.length, 1 ≤ d.kept[i].id) ∧ Ext w2 w') (fun k => d.kept.length - k) 0 (subEnv_cons rfl (subEnv_cons rfl (subEnv_cons rfl (subEnv_cons rfl (subEnv_cons rfl (subEnv_nil _)))))) ⟨Nat.zero_le _, fun i hi => absurd hi (Nat.not_lt_zero _), Ch.refl _ _⟩ ?_
    intro k w3 ⟨hkk, hst, e3⟩
    have hb3 := hb2.ext e3
    repeat' (first | apply Jbq | apply Jbr | apply Jbs | apply Jbt | (apply Jcg; exact Jad rfl rfl; exact rfl))
    refine Jcx rfl (fun hlt0 => ?_) (fun hge => ?_)
    · have hlt : k < d.kept.length := by omega
      obtain ⟨ad, rfl, hcell⟩ := Rd.elem LkC_len (hrk.ext (E.ext (e2.ext e3))) hlt
      have hcp : 0 < k → w3.cell? ((ad.add (((k : Int) - 1).toNat * 2)).add 0) = some (S (d.kept[k - 1]'(by omega)).name) := fun h0 => by
        obtain ⟨ad', h1, hc⟩ := Rd.elem LkC_len (hrk.ext (E.ext (e2.ext e3))) (k := k - 1) (by omega)
        injection h1 with h1; subst h1
        rw [show ((k : Int) - 1).toNat = k - 1 by omega]
        exact hc 0 _ rfl
      have hkl : d.kept[k].name.length ≤ 9223372036854775807 := (f6 _ (List.getElem_mem hlt)).1
      have hiff : (kStep d k ∧ ∀ h : k < d.kept.length, 1 ≤ d.kept[k].id) ↔ (pName d.kept[k].name = true ∧ 1 ≤ d.kept[k].id ∧ (0 < k → bytesBefore (d.kept[k - 1]'(by omega)).name d.kept[k].name = true)) :=
        ⟨fun h => ⟨(h.1 hlt).1, h.2 hlt, (h.1 hlt).2⟩, fun h => ⟨fun _ => ⟨h.1, h.2.2⟩, fun _ => h.2.1⟩⟩
      obtain ⟨x, hx⟩ : ∃ x, x = d.kept[k] := ⟨_, rfl⟩
      rw [← hx] at hcell hiff hkl
      obtain ⟨nm, id⟩ := x
      simp only at hiff hkl
      replace hcell : ∀ j u, [S nm, I id][j]? = some u → w3.cell? ((ad.add (k * 2)).add j) = some u := hcell
      have hno : ¬ (pName nm = true ∧ 1 ≤ id ∧ (0 < k → bytesBefore (d.kept[k - 1]'(by omega)).name nm = true)) → pDOk d = false := fun hn => pDOk_no (fun h => hn (hiff.1 ⟨h.link k, fun _ => h.pos _ (List.getElem_mem hlt)⟩))
      have hyes : pName nm = true → 1 ≤ id → (0 < k → bytesBefore (d.kept[k - 1]'(by omega)).name nm = true) → ∀ i, i < k + 1 → kStep d i ∧ ∀ h : i < d.kept.length, 1 ≤ d.kept[i].id := fun a b c i hi => by
        rcases Nat.lt_or_ge i k with h2 | h2
        · exact hst i h2
        · obtain rfl : i = k := by omega
          exact hiff.2 ⟨a, b, c⟩
      obtain ⟨pn, hpn⟩ : ∃ pn : 0 < k → List UInt8, ∀ h0 : 0 < k, pn h0 = (d.kept[k - 1]'(by omega)).name := ⟨fun h0 => (d.kept[k - 1]'(by omega)).name, fun _ => rfl⟩
      repeat' (first | apply Jbq | apply Jbr | apply Jbs | apply Jbt | apply Jby | apply Jbz | (apply Jcg; (first | exact Jaa rfl | exact Jab rfl | exact Jar Us.h Sz.h rfl rfl (by omega)); exact rfl) | refine Jcg (Pu_loadAgg (cs := [S nm, I id]) Us.h rfl Sz.h rfl (fun _ e j u hu => by rw [e]; exact hcell j u hu)) rfl ?_ | (refine TL_alloc Zs.h rfl rfl ?_; intro w4 g4 e4 hg4 hz4 hb4) | (refine TL_storeAgg rfl rfl Sz.h rfl hb4 rfl ?_; intro w5 c5 hz5 hb5))
      have E5 : Ext w3 w5 := Ext.then_iv e4 c5 (by omega)
      have hbk5 := hb3.ext E5
      refine TC_quietExt mixed (by kernel_rfl) ?_
      cases hp : pName nm with
      | false =>
        have hno := hno (by rw [hp]; rintro ⟨h, _⟩; cases h)
        repeat' (first | (apply Jck; (first | exact Jaa rfl | exact Jah rfl rfl | exact Jaj rfl | (apply Jbl; exact Us.h; exact rfl; exact Sz.h; exact rfl)); exact rfl) | refine Jcm rfl rfl rfl rfl rfl ?_ | refine Jcn rfl rfl rfl rfl ?_ | refine Jck (Pu_load Fl.h rfl (fun _ e => Ext.cell e (hb5.ld rfl))) rfl ?_ | (refine TQ_call rfl en131 (fun w6 e6 => (specNameOk_c _ _ hkl).mono (fun v' w' h => ⟨h.1.trans (by rw [hp]), h.2 ▸ e6⟩)) rfl ?_))
        refine TQ_nil (fun w6 e6 => ?_)
        repeat' (first | apply Jbq | apply Jbr | apply Jbs | apply Jbt | apply Jbu | apply Jbv | apply Jbw | (refine Jce rfl ?_) | (apply Jcg; exact Jab rfl; exact rfl))
        exact TR_of (res1 rfl rfl) ⟨by rw [hno], E.ext (e2.ext (e3.ext (E5.ext e6)))⟩
      | true =>
        by_cases hi : 1 ≤ id
        · rcases Nat.eq_zero_or_pos k with hk0 | hk0
          · repeat' (first | (apply Jck; (first | exact Jaa rfl | exact Jad rfl rfl | exact Jai rfl rfl | exact Jaj rfl | exact Jam rfl rfl | (apply Jbl; exact Us.h; exact rfl; exact Sz.h; exact rfl)); exact rfl) | refine Jcl rfl rfl rfl ?_ | refine Jcm rfl rfl rfl rfl rfl ?_ | refine Jck (Pu_load Fl.h rfl (fun _ e => Ext.cell e (hb5.ld rfl))) rfl ?_ | (refine TQ_call rfl en131 (fun w6 e6 => (specNameOk_c _ _ hkl).mono (fun v' w' h => ⟨h.1.trans (by rw [hp]), h.2 ▸ e6⟩)) rfl ?_) | (refine Jcv rfl rfl (fun hb => ?_) (fun hb => ?_) <;> (try (exfalso; omega))))
            refine TQ_nil (fun w6 e6 => ?_)
            repeat' (first | apply Jbq | apply Jbr | apply Jbt | apply Jbx | apply Jbz | (refine Jcf rfl ?_) | (apply Jcg; (first | exact Jaa rfl | exact Jaf rfl rfl (by omega)); exact rfl))
            exact TN_round (k + 1) (subEnv_cons rfl (subEnv_cons rfl (subEnv_cons rfl (subEnv_cons rfl (subEnv_cons rfl (subEnv_nil _)))))) ⟨hlt, hyes hp hi (fun h0 => by omega), e3.ext (E5.ext e6)⟩ (by omega)
          · have hc5 := E5.cell (hcp hk0)
            cases hbb : bytesBefore (d.kept[k - 1]'(by omega)).name nm with
            | true =>
              repeat' (first | (apply Jck; (first | exact Jaa rfl | exact Jad rfl rfl | exact Jah rfl rfl | exact Jai rfl rfl | exact Jaj rfl | exact Jam rfl rfl | exact Jap rfl rfl (by omega) | exact Jar Us.h Sz.h rfl rfl (by omega) | (apply Jbl; exact Us.h; exact rfl; exact Sz.h; exact rfl)); exact rfl) | refine Jcl rfl rfl rfl ?_ | refine Jck (Pu_load Fl.h rfl (fun _ e => Ext.cell e (hb5.ld rfl))) rfl ?_ | refine Jck (Pu_load Fl.h rfl (fun _ e => Ext.cell e (hbk5.ld rfl))) rfl ?_ | refine Jck (Pu_load Fl.h rfl (fun _ e => Ext.cell e hc5)) rfl ?_ | refine Jck (Pu_geqF rfl rfl hbb) rfl ?_ | (refine TQ_call rfl en131 (fun w6 e6 => (specNameOk_c _ _ hkl).mono (fun v' w' h => ⟨h.1.trans (by rw [hp]), h.2 ▸ e6⟩)) rfl ?_) | (refine Jcv rfl rfl (fun hb => ?_) (fun hb => ?_) <;> (try (exfalso; omega))))
              refine TQ_nil (fun w6 e6 => ?_)
              repeat' (first | apply Jbq | apply Jbr | apply Jbt | apply Jbx | apply Jbz | (refine Jcf rfl ?_) | (apply Jcg; (first | exact Jaa rfl | exact Jaf rfl rfl (by omega)); exact rfl))
              exact TN_round (k + 1) (subEnv_cons rfl (subEnv_cons rfl (subEnv_cons rfl (subEnv_cons rfl (subEnv_cons rfl (subEnv_nil _)))))) ⟨hlt, hyes hp hi (fun _ => hbb), e3.ext (E5.ext e6)⟩ (by omega)
            | false =>
              have hno := hno (by rintro ⟨_, _, h⟩; rw [h hk0] at hbb; cases hbb)
              repeat' (first | (apply Jck; (first | exact Jaa rfl | exact Jad rfl rfl | exact Jah rfl rfl | exact Jai rfl rfl | exact Jaj rfl | exact Jam rfl rfl | exact Jap rfl rfl (by omega) | exact Jar Us.h Sz.h rfl rfl (by omega) | (apply Jbl; exact Us.h; exact rfl; exact Sz.h; exact rfl)); exact rfl) | refine Jcl rfl rfl rfl ?_ | refine Jck (Pu_load Fl.h rfl (fun _ e => Ext.cell e (hb5.ld rfl))) rfl ?_ | refine Jck (Pu_load Fl.h rfl (fun _ e => Ext.cell e (hbk5.ld rfl))) rfl ?_ | refine Jck (Pu_load Fl.h rfl (fun _ e => Ext.cell e hc5)) rfl ?_ | refine Jck (Pu_geqT rfl rfl hbb) rfl ?_ | (refine TQ_call rfl en131 (fun w6 e6 => (specNameOk_c _ _ hkl).mono (fun v' w' h => ⟨h.1.trans (by rw [hp]), h.2 ▸ e6⟩)) rfl ?_) | (refine Jcv rfl rfl (fun hb => ?_) (fun hb => ?_) <;> (try (exfalso; omega))))
              refine TQ_nil (fun w6 e6 => ?_)
              repeat' (first | apply Jbq | apply Jbr | apply Jbs | apply Jbt | apply Jbu | apply Jbv | apply Jbw | (refine Jce rfl ?_) | (apply Jcg; exact Jab rfl; exact rfl))
              exact TR_of (res1 rfl rfl) ⟨by rw [hno], E.ext (e2.ext (e3.ext (E5.ext e6)))⟩
        · have hno := hno (by rintro ⟨_, h, _⟩; exact hi h)
          repeat' (first | (apply Jck; (first | exact Jaa rfl | exact Jad rfl rfl | exact Jah rfl rfl | exact Jai rfl rfl | exact Jaj rfl | (apply Jbl; exact Us.h; exact rfl; exact Sz.h; exact rfl)); exact rfl) | refine Jcl rfl rfl rfl ?_ | refine Jcm rfl rfl rfl rfl rfl ?_ | refine Jcn rfl rfl rfl rfl ?_ | refine Jck (Pu_load Fl.h rfl (fun _ e => Ext.cell e (hb5.ld rfl))) rfl ?_ | (refine TQ_call rfl en131 (fun w6 e6 => (specNameOk_c _ _ hkl).mono (fun v' w' h => ⟨h.1.trans (by rw [hp]), h.2 ▸ e6⟩)) rfl ?_) | (refine Jcv rfl rfl (fun hb => ?_) (fun hb => ?_) <;> (try (exfalso; omega))))
          refine TQ_nil (fun w6 e6 => ?_)
          repeat' (first | apply Jbq | apply Jbr | apply Jbs | apply Jbt | apply Jbu | apply Jbv | apply Jbw | (refine Jce rfl ?_) | (apply Jcg; exact Jab rfl; exact rfl))
          exact TR_of (res1 rfl rfl) ⟨by rw [hno], E.ext (e2.ext (e3.ext (E5.ext e6)))⟩
    · obtain rfl : k = d.kept.length := by omega
      have hK : ∀ i, kStep d i := fun i => by
        rcases Nat.lt_or_ge i d.kept.length with h1 | h1
        · exact (hst i h1).1
        · intro h2; omega
      have hP : Pos d.kept := by
        intro x hx
        obtain ⟨i, hi, rfl⟩ := List.mem_iff_getElem.1 hx
        exact (hst i hi).2 hi
      clear hst hge
      have E3 := E.ext (e2.ext e3)
      repeat' (first | apply Jbr | apply Jbs | apply Jbt | apply Jca | apply Jcb | apply Jcc | refine Jcg (Pu_loadAgg (cs := dskC d (.slice An ds.length cn) (.slice Ak d.kept.length ck) (.slice At d.turns.length ct)) Us.h rfl Sz.h rfl (fun _ e j u hu => by rw [e, add0, hb3.cell]; exact hu)) rfl ?_)
      refine TL_call rfl en90 (l03Ids_c (hh.ext E3) (by omega) (by omega)) rfl rfl ?_
      rintro vi w4 ⟨e4, Ai, ci, rfl, hoi⟩
      have hci := hoi.cap.1
      have hri := hoi.rd
      have hro := hoo.rd.ext (e3.ext e4)
      have hco := hoo.cap.1
      have hb4 := hb3.ext e4
      have E4 := E3.ext e4
      have hpl : (pIds d).length ≤ 48 := by
        unfold pIds
        rw [List.length_append, List.length_map, List.length_map]
        refine Nat.le_trans (Nat.add_le_add_left (List.length_filter_le _ _) _) ?_
        omega
      repeat' (first | apply Jbq | apply Jbr | apply Jbs | apply Jbt | (apply Jcg; (first | exact Jaa rfl | exact Jab rfl | exact Jac Us.h rfl | exact Jal rfl rfl); exact rfl))
      refine Jcy rfl (fun hne => ?_) (fun heq => ?_)
      · repeat' (first | apply Jbq | apply Jbr | apply Jbs | apply Jbt | apply Jbu | apply Jbv | (apply Jcg; exact Jab rfl; exact rfl))
        exact TR_of (res1 rfl rfl) ⟨by rw [pDOk_no (fun h => hne (by rw [hnl]; exact congrArg Nat.cast h.len))], E4⟩
      have hlen : (pIds d).length = d.nodes.length := by omega
      repeat' (first | apply Jbq | apply Jbr | apply Jbs | apply Jbt | apply Jby | apply Jbz | (apply Jcg; (first | exact Jaa rfl | exact Jac Us.h rfl); exact rfl))
      refine TC_loop (ι := Nat) (fun k => [(1, .pointer (some ⟨g, 0, none⟩)), (3, .slice Ao (nIds d.nodes).length co), (8, .slice Ai (pIds d).length ci), (142, .slice Ai (pIds d).length ci), (143, I (pIds d).length), (144, I k)]) (fun k w' => k ≤ (pIds d).length ∧ (∀ j (hj : j < (pIds d).length), j < k → (pIds d)[j] ∉ (pIds d).take j ∧ (pIds d)[j] ∈ nIds d.nodes) ∧ Ext w4 w') (fun k => (pIds d).length - k) 0 (subEnv_cons rfl (subEnv_cons rfl (subEnv_cons rfl (subEnv_cons rfl (subEnv_cons rfl (subEnv_cons rfl (subEnv_nil _))))))) ⟨Nat.zero_le _, fun i _ hi => absurd hi (Nat.not_lt_zero _), Ch.refl _ _⟩ ?_
      intro k w5 ⟨hkk, hst, e5⟩
      repeat' (first | apply Jbq | apply Jbr | apply Jbs | apply Jbt | (apply Jcg; exact Jad rfl rfl; exact rfl))
      refine Jcx rfl (fun hlt0 => ?_) (fun hge => ?_)
      · have hlt : k < (pIds d).length := by omega
        obtain ⟨ad, rfl, hcell⟩ := Rd.elem InC_len (hri.ext e5) hlt
        have hcell : w5.cell? (ad.add k) = some (I (pIds d)[k]) := by have := hcell 0 _ rfl; rwa [add_of_add, Nat.add_zero, Nat.mul_one] at this
        repeat' (first | apply Jbq | apply Jbr | apply Jbs | apply Jbt | apply Jbu | apply Jbv | apply Jbw | apply Jbx | apply Jby | apply Jbz | (refine Jce rfl ?_) | (apply Jcg; (first | exact Jaa rfl | exact Jab rfl | exact Jaf rfl rfl (by omega) | exact Jag Us.h Sz.h rfl rfl (by omega) | exact Jah rfl rfl | exact Jai rfl rfl | exact Jaj rfl | exact Jbe Us.h Sz.h rfl rfl (by omega)); exact rfl) | refine Jch rfl rfl rfl ?_ | refine Jci rfl rfl rfl rfl rfl ?_ | refine Jcg (Pu_load Fl.h rfl (fun _ e => by rw [e]; exact hcell)) rfl ?_ | (refine TL_call rfl en89 (l03HasInt_c (RowR.to InC_len (hri.ext e5) hci hkk) (by rw [List.length_take]; omega)) rfl rfl ?_; rintro _ w6 ⟨rfl, e6⟩) | (refine TL_call rfl en89 (l03HasInt_c ⟨_, _, rfl, hco, (hro.ext e5).ext e6⟩ (by omega)) rfl rfl ?_; rintro _ w7 ⟨rfl, e7⟩) | (refine Jcs rfl rfl (fun hb => ?_) (fun hb => ?_) <;> (try (exfalso; omega))) | (refine Jcy rfl (fun hb => ?_) (fun hb => ?_) <;> (try (exfalso; omega))))
        · exact TR_of (res1 rfl rfl) ⟨by rw [pDOk_no (fun h => absurd hb (h.ids k hlt).1)], E4.ext (e5.ext e6)⟩
        · exact TR_of (res1 rfl rfl) ⟨by rw [pDOk_no (fun h => absurd (h.ids k hlt).2 hb)], E4.ext (e5.ext (e6.ext e7))⟩
        · refine TN_round (k + 1) (subEnv_cons rfl (subEnv_cons rfl (subEnv_cons rfl (subEnv_cons rfl (subEnv_cons rfl (subEnv_cons rfl (subEnv_nil _))))))) ⟨hlt, fun j hj hjk => ?_, e5.ext (e6.ext e7)⟩ (by omega)
          rcases Nat.lt_or_ge j k with h2 | h2
          · exact hst j hj h2
          · obtain rfl : j = k := by omega
            exact ⟨by assumption, by assumption⟩
      · obtain rfl : k = (pIds d).length := by omega
        have hb5 := hb4.ext e5
        have E5 := E4.ext e5
        repeat' (first | apply Jbq | apply Jbr | apply Jbs | apply Jbt | apply Jby | apply Jca | apply Jcb | apply Jcc | (apply Jcg; (first | exact Jaa rfl | exact Jab rfl | exact Jac Us.h rfl | (apply Jbl; exact Us.h; exact rfl; exact Sz.h; exact rfl)); exact rfl) | refine Jcg (Pu_load Fl.h rfl (fun _ e => by rw [e]; exact hb5.ld rfl)) rfl ?_)
        refine TC_loop (ι := Nat × Value) (fun x => [(1, .pointer (some ⟨g, 0, none⟩)), (11, x.2), (164, .slice At d.turns.length ct), (165, I d.turns.length), (166, I x.1)]) (fun x w' => x.1 ≤ d.turns.length ∧ (∀ j (hj : j < d.turns.length), j < x.1 → tOk (runT d.kept (d.turns.take j)) d.turns[j]) ∧ Ext w5 w' ∧ RK w' 0 w'.heap.size x.2 (runT d.kept (d.turns.take x.1))) (fun x => d.turns.length - x.1) (0, _) (subEnv_cons rfl (subEnv_cons rfl (subEnv_cons rfl (subEnv_cons rfl (subEnv_cons rfl (subEnv_nil _)))))) ⟨Nat.zero_le _, fun i _ hi => absurd hi (Nat.not_lt_zero _), Ch.refl _ _, RowR.rk ⟨_, _, rfl, hck, (hrk.ext E5).wide (Nat.zero_le _) (Nat.le_trans hrk.hi_le E5.size) (Nat.le_refl _)⟩⟩ ?_
        rintro ⟨k, vd⟩ w6 ⟨hkk, htt, e6, hrd⟩
        simp only at hkk htt hrd
        show TC _ _ _ _ [(1, .pointer (some ⟨g, 0, none⟩)), (11, vd), (164, .slice At d.turns.length ct), (165, I d.turns.length), (166, I (k : Int))] w6
        have hb6 := hb5.ext e6
        repeat' (first | apply Jbq | apply Jbr | apply Jbs | apply Jbt | (apply Jcg; exact Jad rfl rfl; exact rfl))
        refine Jcx rfl (fun hlt0 => ?_) (fun hge => ?_)
        · have hlt : k < d.turns.length := by omega
          have hrl := runT_length d.kept (d.turns.take k)
          rw [List.length_take] at hrl
          obtain ⟨ad, rfl, hcell⟩ := Rd.elem TnC_len (hrt.ext (E5.ext e6)) hlt
          repeat' (first | apply Jbq | apply Jbr | apply Jbs | apply Jbt | apply Jby | apply Jbz | (apply Jcg; (first | exact Jaa rfl | exact Jar Us.h Sz.h rfl rfl (by omega)); exact rfl) | refine Jcg (Pu_loadAgg (cs := TnC d.turns[k]) Us.h rfl Sz.h rfl (fun _ e j u hu => by rw [e]; exact hcell j u hu)) rfl ?_ | (refine TL_alloc Zs.h rfl rfl ?_; intro w7 g7 e7 hg7 hz7 hb7) | (refine TL_storeAgg rfl rfl Sz.h rfl hb7 rfl ?_; intro w8 c8 hz8 hb8) | refine Jcg (Pu_loadAgg (cs := TnC d.turns[k]) Us.h rfl Sz.h rfl (fun _ e j u hu => by rw [e, add0, hb8.cell]; exact hu)) rfl ?_)
          have E8 : Ext w6 w8 := Ext.then_iv e7 c8 (by omega)
          refine TL_call rfl en132 (l03TurnOk_c (hrd.ext E8) (by omega) (f8 _ (List.getElem_mem hlt))) rfl rfl ?_
          rintro _ w9 ⟨⟨b, rfl, hbt⟩, e9⟩
          have hb9 := hb8.ext e9
          cases b with
          | false =>
            repeat' (first | apply Jbq | apply Jbr | apply Jbs | apply Jbt | apply Jbu | apply Jbv | apply Jbw | (refine Jce rfl ?_) | (apply Jcg; (first | exact Jab rfl | exact Jaj rfl); exact rfl))
            exact TR_of (res1 rfl rfl) ⟨by rw [pDOk_no (fun h => by have := hbt.2 (h.turn k hlt); cases this)], E5.ext (e6.ext (E8.ext e9))⟩
          | true =>
            repeat' (first | apply Jbq | apply Jbr | apply Jbt | apply Jbz | (refine Jcf rfl ?_) | (apply Jcg; (first | exact Jaa rfl | exact Jaj rfl); exact rfl) | refine Jcg (Pu_loadAgg (cs := TnC d.turns[k]) Us.h rfl Sz.h rfl (fun _ e j u hu => by rw [e, add0, hb9.cell]; exact hu)) rfl ?_)
            refine TL_call rfl en133 (l03Turn_c (hrd.ext (E8.ext e9)) (by omega)) rfl rfl ?_
            rintro v10 w10 ⟨e10, hr10⟩
            repeat' (first | apply Jbq | apply Jbr | apply Jbt | apply Jbx | (apply Jcg; (first | exact Jaa rfl | exact Jab rfl | exact Jaf rfl rfl (by omega)); exact rfl))
            refine TN_round (k + 1, v10) (subEnv_cons rfl (subEnv_cons rfl (subEnv_cons rfl (subEnv_cons rfl (subEnv_cons rfl (subEnv_nil _)))))) ⟨hlt, fun j hj hjk => ?_, e6.ext (E8.ext (e9.ext e10)), ?_⟩ (by simp only; omega)
            · rcases Nat.lt_or_ge j k with h2 | h2
              · exact htt j hj h2
              · obtain rfl : j = k := by simp only at hjk; omega
                exact hbt.1 rfl
            · simp only
              rw [runT_take hlt]
              exact hr10
        · obtain rfl : k = d.turns.length := by omega
          repeat' (first | apply Jbr | apply Jbs | apply Jca | apply Jcb | apply Jcc)
          refine TC_quietExt mixed (by kernel_rfl) ?_
          repeat' (first | (apply Jck; (first | exact Jab rfl | exact Jan rfl rfl | (apply Jbl; exact Us.h; exact rfl; exact Sz.h; exact rfl)); exact rfl) | refine Jck (Pu_load Fl.h rfl (fun _ e => Ext.cell e (hb6.ld rfl))) rfl ?_ | refine Jck (Pu_loadAgg (cs := dskC d (.slice An ds.length cn) (.slice Ak d.kept.length ck) (.slice At d.turns.length ct)) Us.h rfl Sz.h rfl (fun _ e j u hu => Ext.cell e (by rw [add0, hb6.cell]; exact hu))) rfl ?_ | (refine TQ_call rfl en87 (fun w7 e7 => (specDiskUsed_c ((hh.ext (E5.ext e6)).ext e7) hl).mono (fun v' w' h => ⟨h.1, e7.ext h.2⟩)) rfl ?_))
          refine TQ_nil (fun w7 e7 => ?_)
          repeat' (first | apply Jbr | apply Jbu)
          refine TR_of (res1 rfl rfl) ⟨?_, E5.ext (e6.ext e7)⟩
          by_cases hu : pUsed d.nodes ≤ d.room
          · rw [decide_eq_true hu, pDOk_yes ⟨hB, hN, hK, hP, hlen, fun j hj => hst j hj hj, fun j hj => htt j hj hj, hu⟩]
          · rw [decide_eq_false hu, pDOk_no (fun h => hu h.used)]
end Go.Proofs.YtggaghghclomkaaGreat
