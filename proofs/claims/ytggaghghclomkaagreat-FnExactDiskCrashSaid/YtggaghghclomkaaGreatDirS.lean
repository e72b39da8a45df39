/- Contracts: the reference's directories. -/
import Derived.Test.YtggaghghclomkaaGreatRowK
import Derived.Test.YtggaghghclomkaaGreatDirL
import Derived.Test.YtggaghghclomkaaGreatAny
namespace Go.Proofs.YtggaghghclomkaaGreat
open Go.RowKit
section
variable {P : Program} {C : World → Prop} {n : Nat} {l : Env} {dd : Option Nat} {x y : Operand} {t t' ty : TypeId} {pos : String} {af : Array Edge} {a b : List UInt8}
theorem bb_not (a b : List UInt8) : (!(bytesBefore a b || a == b)) = bytesBefore b a := by
  by_cases h : a = b
  · subst h; simp [bb_irrefl]
  · rcases bb_total h with h1 | h1
    · rw [h1, bb_asymm h1]; rfl
    · rw [h1, bb_asymm h1]; simp [h]
theorem Pu_gtrb (hx : ev l x = some (S a)) (hy : ev l y = some (S b)) : Pu P C n l ⟨dd, .binOp .gtr t x y t', ty, pos, af, none⟩ (.bool (bytesBefore b a)) := fun s hs w _ => by
  have h := bb_not a b
  simp only [execOp, hs.eval hx, hs.eval hy, eqGuard_at_string, binOp, Op.stringOp, less_before, S_toList]
  rw [h]
  simp
theorem Pu_geqb (hx : ev l x = some (S a)) (hy : ev l y = some (S b)) : Pu P C n l ⟨dd, .binOp .geq t x y t', ty, pos, af, none⟩ (.bool (!bytesBefore a b)) := fun s hs w _ => by
  simp only [execOp, hs.eval hx, hs.eval hy, eqGuard_at_string, binOp, Op.stringOp, less_before, S_toList]
  simp
end
theorem dHas_succ {L : List LkD} {s : List UInt8} {k : Nat} (h : k < L.length) : dHas (L.take (k + 1)) s = (dHas (L.take k) s || L[k].name == s) := by
  unfold dHas
  rw [List.take_succ_eq_append_getElem h, List.any_append]
  simp
theorem dFind_hit {L : List LkD} {s : List UInt8} {k : Nat} (h : k < L.length) (hn : dHas (L.take k) s = false) (he : L[k].name = s) : dFind L s = L[k].id := by
  unfold dFind
  have h1 : L.find? (fun x => x.name == s) = some L[k] := by
    have h0 : L.find? (fun x => x.name == s) = (L.take k ++ L[k] :: L.drop (k + 1)).find? (fun x => x.name == s) := by rw [List.getElem_cons_drop, List.take_append_drop]
    rw [h0, List.find?_append]
    have h2 : (L.take k).find? (fun x => x.name == s) = none := by
      rw [List.find?_eq_none]
      intro x hx
      have := dHas_none hn x hx
      simpa using this
    rw [h2, Option.none_or, List.find?_cons, he, beq_self_eq_true]
  rw [h1]
theorem dLess_hit {L : List LkD} {s : List UInt8} {k : Nat} (h : k < L.length) (he : L[k].name = s) : dLess (L.take (k + 1)) s = dLess (L.take k) s := by
  unfold dLess
  rw [List.take_succ_eq_append_getElem h, List.filter_append]
  simp [he]
theorem dLess_miss {L : List LkD} {s : List UInt8} {k : Nat} (h : k < L.length) (he : ¬ L[k].name = s) : dLess (L.take (k + 1)) s = dLess (L.take k) s ++ [L[k]] := by
  unfold dLess
  rw [List.take_succ_eq_append_getElem h, List.filter_append]
  simp [he]
attribute [local irreducible] TL TC TN TX TR TQ TA Pu Ret
set_option maxHeartbeats 1000000 in
theorem l03Find_c {w : World} {lo hi : Nat} {v : Value} {L : List LkD} {s : List UInt8} (h : RK w lo hi v L) (hl : L.length ≤ 1048576) :
    Ret Tryz.prog 85 #[v, S s] w fun v' w' => v' = I (dFind L s) ∧ Ext w w' := by
  obtain ⟨A, c, rfl, hc, hr⟩ := h.row
  refine Ret_enter Tryz.func85 rfl rfl rfl ?_
  repeat' (first | apply Jbq | apply Jbr | apply Jbs | apply Jbt | apply Jby | (apply Jcg; (first | exact Jaa rfl | exact Jab rfl | exact Jac Us.h rfl); exact rfl))
  refine TC_loop (ι := Nat) (fun k => [(1, S s), (7, .slice A L.length c), (8, I L.length), (9, I k)]) (fun k w' => k ≤ L.length ∧ dHas (L.take k) s = false ∧ Ext w w') (fun k => L.length - k) 0 (subEnv_cons rfl (subEnv_cons rfl (subEnv_cons rfl (subEnv_cons rfl (subEnv_nil _))))) ⟨Nat.zero_le _, rfl, Ch.refl _ _⟩ ?_
  intro k w2 ⟨hk, hn, e2⟩
  repeat' (first | apply Jbq | apply Jbr | apply Jbs | apply Jbt | (apply Jcg; exact Jad rfl rfl; exact rfl))
  refine Jcx rfl (fun hlt0 => ?_) (fun hge => ?_)
  · have hlt : k < L.length := by omega
    obtain ⟨ad, rfl, hcell⟩ := Rd.elem LkC_len (hr.ext e2) hlt
    repeat' (first | apply Jbq | apply Jbr | apply Jbs | apply Jbt | apply Jby | apply Jbz | (apply Jcg; (first | exact Jaa rfl | exact Jar Us.h Sz.h rfl rfl (by omega) | exact Jas rfl rfl | (apply Jbl; exact Us.h; exact rfl; exact Sz.h; exact rfl)); exact rfl) | refine Jcg (Pu_loadAgg (cs := LkC L[k]) Us.h rfl Sz.h rfl (fun _ e j u hu => by rw [e]; exact hcell j u hu)) rfl ?_ | (refine TL_alloc Zs.h rfl rfl ?_; intro w3 g3 e3 hg3 hz3 hb3) | (refine TL_storeAgg rfl rfl Sz.h rfl hb3 rfl ?_; intro w4 c4 hz4 hb4) | refine Jcg (Pu_load Fl.h rfl (fun _ e => by rw [e]; exact hb4.ld rfl)) rfl ?_)
    have E4 : Ext w w4 := Ext.then_iv (e2.ext e3) c4 (by have := e2.size; omega)
    refine Jcx rfl (fun he => ?_) (fun he => ?_)
    · repeat' (first | apply Jbq | apply Jbr | apply Jbs | apply Jbt | apply Jbu | apply Jbv | apply Jbw | (apply Jcg; (first | exact Jab rfl | (apply Jbl; exact Us.h; exact rfl; exact Sz.h; exact rfl)); exact rfl) | refine Jcg (Pu_load Fl.h rfl (fun _ e => by rw [e]; exact hb4.ld rfl)) rfl ?_)
      exact TR_of (res1 rfl rfl) ⟨by rw [dFind_hit hlt hn he], E4⟩
    · repeat' (first | apply Jbq | apply Jbr | apply Jbt | apply Jbx | apply Jbz | (apply Jcg; (first | exact Jaa rfl | exact Jaf rfl rfl (by omega)); exact rfl))
      exact TN_round (k + 1) (subEnv_cons rfl (subEnv_cons rfl (subEnv_cons rfl (subEnv_cons rfl (subEnv_nil _))))) ⟨hlt, by rw [dHas_succ hlt, hn]; simp [he], E4⟩ (by omega)
  · obtain rfl : k = L.length := by omega
    rw [List.take_length] at hn
    repeat' (first | apply Jbq | apply Jbr | apply Jbs | apply Jbt | apply Jbu | apply Jca | apply Jcb | apply Jcc | (apply Jcg; exact Jab rfl; exact rfl))
    exact TR_of (res1 rfl rfl) ⟨by rw [dFind_none hn], e2⟩
set_option maxHeartbeats 1000000 in
theorem l03Less_c {w : World} {lo hi : Nat} {v : Value} {L : List LkD} {s : List UInt8} (h : RK w lo hi v L) (hl : L.length ≤ 1048576) :
    Ret Tryz.prog 170 #[v, S s] w fun v' w' => Ext w w' ∧ RowO LkC 162 2 w' w.heap.size w'.heap.size v' (dLess L s) := by
  obtain ⟨A, c, rfl, hc, hr⟩ := h.row
  refine Ret_enter Tryz.func170 rfl rfl rfl ?_
  repeat' (first | apply Jbq | apply Jbr | apply Jbs | apply Jbt | apply Jby | (apply Jcg; (first | exact Jaa rfl | exact Jab rfl | exact Jac Us.h rfl); exact rfl) | (refine TL_buildSlice0 Us.h Sz.h rfl ?_; intro w1 g1 e1 hg1 hz1 hown1))
  refine TC_loop (ι := Nat × Value) (fun x => [(1, S s), (5, x.2), (9, .slice A L.length c), (10, I L.length), (11, I x.1)]) (fun x w' => x.1 ≤ L.length ∧ Ext w w' ∧ RowO LkC 162 2 w' w.heap.size w'.heap.size x.2 (dLess (L.take x.1) s)) (fun x => L.length - x.1) (0, _) (subEnv_cons rfl (subEnv_cons rfl (subEnv_cons rfl (subEnv_cons rfl (subEnv_cons rfl (subEnv_nil _)))))) ⟨Nat.zero_le _, e1, RowO.new (l := []) rfl hown1 hg1 hz1⟩ ?_
  rintro ⟨k, vo⟩ w2 ⟨hk, e2, ho2⟩
  simp only at hk ho2
  show TC _ _ _ _ [(1, S s), (5, vo), (9, .slice A L.length c), (10, I L.length), (11, I (k : Int))] w2
  repeat' (first | apply Jbq | apply Jbr | apply Jbs | apply Jbt | (apply Jcg; exact Jad rfl rfl; exact rfl))
  refine Jcx rfl (fun hlt0 => ?_) (fun hge => ?_)
  · have hlt : k < L.length := by omega
    obtain ⟨ad, rfl, hcell⟩ := Rd.elem LkC_len (hr.ext e2) hlt
    repeat' (first | apply Jbq | apply Jbr | apply Jbs | apply Jbt | apply Jby | apply Jbz | (apply Jcg; (first | exact Jaa rfl | exact Jar Us.h Sz.h rfl rfl (by omega) | exact Jat rfl rfl | (apply Jbl; exact Us.h; exact rfl; exact Sz.h; exact rfl)); exact rfl) | refine Jcg (Pu_loadAgg (cs := LkC L[k]) Us.h rfl Sz.h rfl (fun _ e j u hu => by rw [e]; exact hcell j u hu)) rfl ?_ | (refine TL_alloc Zs.h rfl rfl ?_; intro w3 g3 e3 hg3 hz3 hb3) | (refine TL_storeAgg rfl rfl Sz.h rfl hb3 rfl ?_; intro w4 c4 hz4 hb4) | refine Jcg (Pu_load Fl.h rfl (fun _ e => by rw [e]; exact hb4.ld rfl)) rfl ?_)
    have E4 : Ext w2 w4 := Ext.then_iv e3 c4 (by omega)
    refine Jcy rfl (fun he => ?_) (fun he => ?_)
    · repeat' (first | apply Jbt | (apply Jcg; exact Jaa rfl; exact rfl) | refine Jcg (Pu_loadAgg (cs := LkC L[k]) Us.h rfl Sz.h rfl (fun _ e j u hu => by rw [e, add0, hb4.cell]; exact hu)) rfl ?_)
      refine TL_buildSlice Us.h Zi.h rfl rfl rfl rfl (fillK _) rfl rfl ?_
      intro w5 g5 e5 hg5 hz5 hown5
      skip
      have hs := (e2.ext (E4.ext e5)).size
      have hdl := dLess_length (L.take k) s
      rw [List.length_take] at hdl
      refine TL_appendRow Us.h Inf.h rfl rfl rfl LkC_one rfl rfl (ho2.ext (E4.ext e5)) (lk_own hown5 rfl hg5 hz5).rd hs (by simp only [List.length_cons, List.length_nil]; omega) rfl ?_
      intro w6 v6 c6 ho6
      repeat' (first | apply Jbq | apply Jbr | apply Jbt | apply Jbx | (apply Jcg; (first | exact Jaa rfl | exact Jab rfl | exact Jaf rfl rfl (by omega)); exact rfl))
      refine TN_round (k + 1, v6) (subEnv_cons rfl (subEnv_cons rfl (subEnv_cons rfl (subEnv_cons rfl (subEnv_cons rfl (subEnv_nil _)))))) ⟨hlt, Ext.then_iv (e2.ext (E4.ext e5)) c6 (Nat.le_refl _), ?_⟩ (by simp only; omega)
      rw [dLess_miss hlt he]
      exact ho6
    · repeat' (first | apply Jbq | apply Jbr | apply Jbt | apply Jbx | apply Jbz | (apply Jcg; (first | exact Jaa rfl | exact Jaf rfl rfl (by omega)); exact rfl))
      refine TN_round (k + 1, vo) (subEnv_cons rfl (subEnv_cons rfl (subEnv_cons rfl (subEnv_cons rfl (subEnv_cons rfl (subEnv_nil _)))))) ⟨hlt, e2.ext E4, ?_⟩ (by simp only; omega)
      rw [dLess_hit hlt he]
      exact (ho2.ext E4).wide (Nat.le_refl _) E4.size (Nat.le_refl _)
  · obtain rfl : k = L.length := by omega
    rw [List.take_length] at ho2
    repeat' (first | apply Jbq | apply Jbr | apply Jbs | apply Jbt | apply Jbu | apply Jca | apply Jcb | apply Jcc | (apply Jcg; (first | exact Jaa rfl | exact Jab rfl); exact rfl))
    exact TR_of (res1 rfl rfl) ⟨e2, ho2⟩
set_option maxHeartbeats 2000000 in
theorem l03With_c {w : World} {lo hi : Nat} {v : Value} {L : List LkD} {s : List UInt8} {i : Int} (h : RK w lo hi v L) (hl : L.length ≤ 1048576) :
    Ret Tryz.prog 169 #[v, S s, I i] w fun v' w' => Ext w w' ∧ RowO LkC 162 2 w' w.heap.size w'.heap.size v' (dIns ⟨s, i⟩ L) := by
  obtain ⟨A, c, rfl, hc, hr⟩ := h.row
  refine Ret_enter Tryz.func169 rfl rfl rfl ?_
  repeat' (first | apply Jbq | apply Jbr | apply Jbs | apply Jbt | apply Jby | (apply Jcg; (first | exact Jaa rfl | exact Jab rfl | exact Jac Us.h rfl); exact rfl) | (refine TL_buildSlice0 Us.h Sz.h rfl ?_; intro w1 g1 e1 hg1 hz1 hown1))
  refine TC_loop (ι := Nat × Value × Bool × List LkD) (fun x => [(1, S s), (2, I i), (7, x.2.1), (8, .bool x.2.2.1), (12, .slice A L.length c), (13, I L.length), (14, I x.1)])
    (fun x w' => x.1 ≤ L.length ∧ x.2.2.2.length ≤ 2 * x.1 ∧ dIns ⟨s, i⟩ L = x.2.2.2 ++ (if x.2.2.1 then L.drop x.1 else dIns ⟨s, i⟩ (L.drop x.1)) ∧ Ext w w' ∧ RowO LkC 162 2 w' w.heap.size w'.heap.size x.2.1 x.2.2.2) (fun x => L.length - x.1) (0, _, false, []) (subEnv_cons rfl (subEnv_cons rfl (subEnv_cons rfl (subEnv_cons rfl (subEnv_cons rfl (subEnv_cons rfl (subEnv_cons rfl (subEnv_nil _)))))))) ⟨Nat.zero_le _, by simp, by simp, e1, RowO.new (l := []) rfl hown1 hg1 hz1⟩ ?_
  rintro ⟨k, vo, dn, out⟩ w2 ⟨hk, hol, heq, e2, ho2⟩
  simp only at hk hol heq ho2
  show TC _ _ _ _ [(1, S s), (2, I i), (7, vo), (8, .bool dn), (12, .slice A L.length c), (13, I L.length), (14, I (k : Int))] w2
  repeat' (first | apply Jbq | apply Jbr | apply Jbs | apply Jbt | (apply Jcg; exact Jad rfl rfl; exact rfl))
  refine Jcx rfl (fun hlt0 => ?_) (fun hge => ?_)
  · have hlt : k < L.length := by omega
    obtain ⟨ad, rfl, hcell⟩ := Rd.elem LkC_len (hr.ext e2) hlt
    have hdr : L.drop k = L[k] :: L.drop (k + 1) := List.drop_eq_getElem_cons hlt
    rw [hdr] at heq
    repeat' (first | apply Jbq | apply Jbr | apply Jbs | apply Jbt | apply Jby | apply Jbz | (apply Jcg; (first | exact Jaa rfl | exact Jaj rfl | exact Jar Us.h Sz.h rfl rfl (by omega)); exact rfl) | refine Jcg (Pu_loadAgg (cs := LkC L[k]) Us.h rfl Sz.h rfl (fun _ e j u hu => by rw [e]; exact hcell j u hu)) rfl ?_ | (refine TL_alloc Zs.h rfl rfl ?_; intro w3 g3 e3 hg3 hz3 hb3) | (refine TL_storeAgg rfl rfl Sz.h rfl hb3 rfl ?_; intro w4 c4 hz4 hb4))
    have E4 : Ext w2 w4 := Ext.then_iv e3 c4 (by omega)
    cases dn with
    | true =>
      simp only [if_true] at heq
      repeat' (first | apply Jbq | apply Jbr | apply Jbt | apply Jbz | (refine Jcf rfl ?_) | (apply Jcg; (first | exact Jaa rfl | exact Jai rfl rfl); exact rfl) | refine Jci rfl rfl rfl rfl rfl ?_ | refine Jcg (Pu_loadAgg (cs := LkC L[k]) Us.h rfl Sz.h rfl (fun _ e j u hu => by rw [e, add0, hb4.cell]; exact hu)) rfl ?_)
      refine TL_buildSlice Us.h Zi.h rfl rfl rfl rfl (fillK _) rfl rfl ?_
      intro w5 g5 e5 hg5 hz5 hown5
      skip
      refine TL_appendRow Us.h Inf.h rfl rfl rfl LkC_one rfl rfl (ho2.ext (E4.ext e5)) (lk_own hown5 rfl hg5 hz5).rd (e2.ext (E4.ext e5)).size (by simp only [List.length_cons, List.length_nil]; omega) rfl ?_
      intro w6 v6 c6 ho6
      repeat' (first | apply Jbq | apply Jbr | apply Jbt | apply Jbx | (apply Jcg; (first | exact Jaa rfl | exact Jab rfl | exact Jaf rfl rfl (by omega)); exact rfl))
      exact TN_round (k + 1, v6, true, out ++ [L[k]]) (subEnv_cons rfl (subEnv_cons rfl (subEnv_cons rfl (subEnv_cons rfl (subEnv_cons rfl (subEnv_cons rfl (subEnv_cons rfl (subEnv_nil _)))))))) ⟨hlt, by simp only [List.length_append, List.length_cons, List.length_nil]; omega, by rw [heq]; simp, Ext.then_iv (e2.ext (E4.ext e5)) c6 (Nat.le_refl _), ho6⟩ (by simp only; omega)
    | false =>
      simp only [Bool.false_eq_true, if_false] at heq
      rw [dIns] at heq
      repeat' (first | apply Jbq | apply Jbr | (apply Jcg; (first | exact Jaa rfl | exact Jah rfl rfl | (apply Jbl; exact Us.h; exact rfl; exact Sz.h; exact rfl)); exact rfl) | refine Jch rfl rfl rfl ?_ | refine Jcg (Pu_load Fl.h rfl (fun _ e => by rw [e]; exact hb4.ld rfl)) rfl ?_ | refine Jcg (Pu_gtrb rfl rfl) rfl ?_)
      refine Jcz rfl (fun hb => ?_) (fun hb => ?_)
      · rw [if_pos hb] at heq
        repeat' (first | apply Jbs | apply Jbt | (apply Jcg; exact Jaa rfl; exact rfl) | refine Jcg (Pu_build (cs := LkC ⟨s, i⟩) rfl (by kernel_rfl)) rfl ?_)
        refine TL_buildSlice Us.h Zi.h rfl rfl rfl rfl (fillK ⟨s, i⟩) rfl rfl ?_
        intro w5 g5 e5 hg5 hz5 hown5
        skip
        refine TL_appendRow Us.h Inf.h rfl rfl rfl LkC_one rfl rfl (ho2.ext (E4.ext e5)) (lk_own hown5 rfl hg5 hz5).rd (e2.ext (E4.ext e5)).size (by simp only [List.length_cons, List.length_nil]; omega) rfl ?_
        intro w6 v6 c6 ho6
        have hb6 := (hb4.ext e5).ch c6 (by simp only [Iv]; omega)
        have E6 : Ext w w6 := Ext.then_iv (e2.ext (E4.ext e5)) c6 (Nat.le_refl _)
        repeat' (first | apply Jbq | apply Jbr | apply Jbt | (apply Jcg; (first | exact Jaa rfl | exact Jab rfl); exact rfl) | refine Jcg (Pu_loadAgg (cs := LkC L[k]) Us.h rfl Sz.h rfl (fun _ e j u hu => by rw [e, add0, hb6.cell]; exact hu)) rfl ?_)
        refine TL_buildSlice Us.h Zi.h rfl rfl rfl rfl (fillK _) rfl rfl ?_
        intro w7 g7 e7 hg7 hz7 hown7
        skip
        refine TL_appendRow Us.h Inf.h rfl rfl rfl LkC_one rfl rfl (ho6.ext e7) (lk_own hown7 rfl hg7 hz7).rd (E6.ext e7).size (by simp only [List.length_append, List.length_cons, List.length_nil]; omega) rfl ?_
        intro w8 v8 c8 ho8
        repeat' (first | apply Jbq | apply Jbr | apply Jbt | apply Jbx | (apply Jcg; (first | exact Jaa rfl | exact Jab rfl | exact Jaf rfl rfl (by omega)); exact rfl))
        exact TN_round (k + 1, v8, true, out ++ [⟨s, i⟩] ++ [L[k]]) (subEnv_cons rfl (subEnv_cons rfl (subEnv_cons rfl (subEnv_cons rfl (subEnv_cons rfl (subEnv_cons rfl (subEnv_cons rfl (subEnv_nil _)))))))) ⟨hlt, by simp only [List.length_append, List.length_cons, List.length_nil]; omega, by rw [heq]; simp, Ext.then_iv (E6.ext e7) c8 (Nat.le_refl _), ho8⟩ (by simp only; omega)
      · rw [if_neg (by rw [hb]; decide)] at heq
        repeat' (first | apply Jbr | apply Jbt | apply Jbz | (apply Jcg; exact Jaa rfl; exact rfl) | refine Jcg (Pu_loadAgg (cs := LkC L[k]) Us.h rfl Sz.h rfl (fun _ e j u hu => by rw [e, add0, hb4.cell]; exact hu)) rfl ?_)
        refine TL_buildSlice Us.h Zi.h rfl rfl rfl rfl (fillK _) rfl rfl ?_
        intro w5 g5 e5 hg5 hz5 hown5
        skip
        refine TL_appendRow Us.h Inf.h rfl rfl rfl LkC_one rfl rfl (ho2.ext (E4.ext e5)) (lk_own hown5 rfl hg5 hz5).rd (e2.ext (E4.ext e5)).size (by simp only [List.length_cons, List.length_nil]; omega) rfl ?_
        intro w6 v6 c6 ho6
        repeat' (first | apply Jbq | apply Jbr | apply Jbt | apply Jbx | (apply Jcg; (first | exact Jaa rfl | exact Jab rfl | exact Jaf rfl rfl (by omega)); exact rfl))
        exact TN_round (k + 1, v6, false, out ++ [L[k]]) (subEnv_cons rfl (subEnv_cons rfl (subEnv_cons rfl (subEnv_cons rfl (subEnv_cons rfl (subEnv_cons rfl (subEnv_cons rfl (subEnv_nil _)))))))) ⟨hlt, by simp only [List.length_append, List.length_cons, List.length_nil]; omega, by rw [heq]; simp, Ext.then_iv (e2.ext (E4.ext e5)) c6 (Nat.le_refl _), ho6⟩ (by simp only; omega)
  · obtain rfl : k = L.length := by omega
    rw [List.drop_length] at heq
    cases dn with
    | true =>
      simp only [if_true, List.append_nil] at heq
      repeat' (first | apply Jbq | apply Jbr | apply Jbs | apply Jbt | apply Jbu | apply Jbz | apply Jca | apply Jcb | apply Jcc | (refine Jcf rfl ?_) | (apply Jcg; (first | exact Jaa rfl | exact Jab rfl | exact Jaj rfl); exact rfl))
      exact TR_of (res1 rfl rfl) ⟨e2, by rw [heq]; exact ho2⟩
    | false =>
      simp only [Bool.false_eq_true, if_false, dIns] at heq
      repeat' (first | apply Jbq | apply Jbr | apply Jbs | apply Jbt | apply Jca | apply Jcb | apply Jcc | (refine Jce rfl ?_) | (apply Jcg; (first | exact Jaa rfl | exact Jaj rfl); exact rfl) | refine Jcg (Pu_build (cs := LkC ⟨s, i⟩) rfl (by kernel_rfl)) rfl ?_)
      refine TL_buildSlice Us.h Zi.h rfl rfl rfl rfl (fillK ⟨s, i⟩) rfl rfl ?_
      intro w5 g5 e5 hg5 hz5 hown5
      skip
      refine TL_appendRow Us.h Inf.h rfl rfl rfl LkC_one rfl rfl (ho2.ext e5) (lk_own hown5 rfl hg5 hz5).rd (e2.ext e5).size (by simp only [List.length_cons, List.length_nil]; omega) rfl ?_
      intro w6 v6 c6 ho6
      repeat' (first | apply Jbq | apply Jbr | apply Jbs | apply Jbt | apply Jbu | (apply Jcg; (first | exact Jaa rfl | exact Jab rfl); exact rfl))
      exact TR_of (res1 rfl rfl) ⟨Ext.then_iv (e2.ext e5) c6 (Nat.le_refl _), by rw [heq]; exact ho6⟩
end Go.Proofs.YtggaghghclomkaaGreat
