/- Contracts: whether a disk is right, by the program. -/
import Derived.Test.YtggaghghclomkaaGreatDirT
import Derived.Test.YtggaghghclomkaaGreatMapK
import Derived.Test.YtggaghghclomkaaGreatNum
namespace Go.Proofs.YtggaghghclomkaaGreat
open Go.RowKit
section
variable {P : Program} {C : World → Prop} {n : Nat} {l : Env} {dd : Option Nat} {x y : Operand} {t t' ty : TypeId} {pos : String} {af : Array Edge} {a b : List UInt8}
theorem Pu_geqT' (hx : ev l x = some (S a)) (hy : ev l y = some (S b)) (h : bytesBefore a b = false) : Pu P C n l ⟨dd, .binOp .geq t x y t', ty, pos, af, none⟩ (.bool true) := by
  have := Pu_geqb (P := P) (C := C) (n := n) (dd := dd) (t := t) (t' := t') (ty := ty) (pos := pos) (af := af) hx hy
  rwa [h] at this
theorem Pu_geqF' (hx : ev l x = some (S a)) (hy : ev l y = some (S b)) (h : bytesBefore a b = true) : Pu P C n l ⟨dd, .binOp .geq t x y t', ty, pos, af, none⟩ (.bool false) := by
  have := Pu_geqb (P := P) (C := C) (n := n) (dd := dd) (t := t) (t' := t') (ty := ty) (pos := pos) (af := af) hx hy
  rwa [h] at this
end
theorem dIns_end {x : LkD} : ∀ L : List LkD, (∀ y ∈ L, bytesBefore y.name x.name = true) → dIns x L = L ++ [x]
  | [], _ => rfl
  | y :: r, h => by
    rw [dIns, if_neg (by rw [bb_asymm (h y (by simp))]; decide), dIns_end r (fun z hz => h z (by simp [hz]))]
    rfl
theorem dHas_lt {s : List UInt8} {L : List LkD} (h : ∀ y ∈ L, bytesBefore y.name s = true) : dHas L s = false := by
  cases h2 : dHas L s with
  | false => rfl
  | true =>
    unfold dHas at h2
    rw [List.any_eq_true] at h2
    obtain ⟨y, hy, he⟩ := h2
    have := h y hy
    rw [show y.name = s by simpa using he, bb_irrefl] at this
    cases this
theorem asc_take {L : List LkD} (h : Asc L) {k : Nat} (hk : k < L.length) : ∀ y ∈ L.take k, bytesBefore y.name L[k].name = true := by
  intro y hy
  obtain ⟨i, hi, rfl⟩ := List.mem_take_iff_getElem.1 hy
  unfold Asc at h
  rw [List.pairwise_iff_getElem] at h
  exact h i k (by omega) hk (by omega)
theorem put_take {L : List LkD} (h : Asc L) {k : Nat} (hk : k < L.length) : dIns ⟨L[k].name, L[k].id⟩ (dLess (L.take k) L[k].name) = L.take (k + 1) := by
  have h1 := asc_take h hk
  rw [dLess_none (dHas_lt h1), dIns_end _ h1, List.take_succ_eq_append_getElem hk]
attribute [local irreducible] TL TC TN TX TR TQ TA Pu Ret
set_option maxHeartbeats 4000000 in
theorem turnOk_c {w : World} {t : TnD} (hf : TnFit t) :
    Ret Tryz.prog 140 #[.agg (TnC t).toArray] w fun v' w' => (∃ b, v' = .bool b ∧ (b = true ↔ tOk0 t)) ∧ Ext w w' := by
  refine Ret_enter Tryz.func140 rfl rfl rfl ?_
  repeat' (first | apply Jbs | apply Jbt)
  refine TL_box (cs := TnC t) rfl rfl ?_
  intro w1 g1 E hg1 hz1 hb1
  repeat' (first | apply Jbq | apply Jbr | apply Jbs | apply Jbt | (apply Jcg; (first | exact Jab rfl | exact Jaj rfl | (apply Jbl; exact Us.h; exact rfl; exact Sz.h; exact rfl)); exact rfl) | refine Jcg (Pu_load Fl.h rfl (fun _ e => by rw [e]; exact hb1.ld rfl)) rfl ?_ | (refine TL_call rfl en139 (implNameOk_c _ _ hf.1) rfl rfl ?_; rintro _ _ ⟨rfl, rfl⟩))
  refine Jcz rfl (fun hn => ?_) (fun hn => ?_)
  · repeat' (first | apply Jbq | apply Jbr | apply Jbs | apply Jbt | apply Jbu | apply Jbv | (apply Jcg; exact Jab rfl; exact rfl))
    exact TR_of (res1 rfl rfl) ⟨⟨_, rfl, by simp at hn; simp [tOk0, hn]⟩, E⟩
  have hn : pName t.name = true := by simpa using hn
  repeat' (first | apply Jbq | apply Jbr | apply Jbs | apply Jbt | apply Jby | apply Jbz | (apply Jcg; (first | exact Jab rfl | exact Jak rfl rfl | (apply Jbl; exact Us.h; exact rfl; exact Sz.h; exact rfl)); exact rfl) | refine Jcg (Pu_load Fl.h rfl (fun _ e => by rw [e]; exact hb1.ld rfl)) rfl ?_)
  by_cases h1 : t.kind = 1
  · repeat' (first | apply Jbq | apply Jbr | apply Jbs | apply Jbt | apply Jbu | apply Jbv | apply Jbw | (apply Jcg; (first | exact Jab rfl | exact Jas rfl rfl | (apply Jbl; exact Us.h; exact rfl; exact Sz.h; exact rfl)); exact rfl) | refine Jcg (Pu_load Fl.h rfl (fun _ e => by rw [e]; exact hb1.ld rfl)) rfl ?_ | (refine Jcx rfl (fun hb => ?_) (fun hb => ?_) <;> (try (exfalso; omega))))
    all_goals exact TR_of (res1 rfl rfl) ⟨⟨_, rfl, by simp_all [tOk0] <;> omega⟩, E⟩
  by_cases h5 : t.kind = 5
  · repeat' (first | apply Jbq | apply Jbr | apply Jbs | apply Jbt | apply Jbu | apply Jbv | apply Jbw | (apply Jcg; (first | exact Jaa rfl | exact Jab rfl | exact Jah rfl rfl | exact Jai rfl rfl | exact Jak rfl rfl | (apply Jbl; exact Us.h; exact rfl; exact Sz.h; exact rfl)); exact rfl) | refine Jch rfl rfl rfl ?_ | refine Jci rfl rfl rfl rfl rfl ?_ | refine Jcg (Pu_load Fl.h rfl (fun _ e => by rw [e]; exact hb1.ld rfl)) rfl ?_ | (refine TL_call rfl en139 (implNameOk_c _ _ hf.2.1) rfl rfl ?_; rintro _ _ ⟨rfl, rfl⟩) | refine Jcr rfl rfl (fun hb => ?_) (fun hb => ?_) | (refine Jcx rfl (fun hb => ?_) (fun hb => ?_) <;> (try (exfalso; omega))))
    all_goals exact TR_of (res1 rfl rfl) ⟨⟨_, rfl, by simp_all [tOk0] <;> omega⟩, E⟩
  by_cases h6 : t.kind = 6
  · repeat' (first | apply Jbq | apply Jbr | apply Jbs | apply Jbt | apply Jbu | apply Jbv | apply Jbw | (apply Jcg; (first | exact Jaa rfl | exact Jab rfl | exact Jah rfl rfl | exact Jai rfl rfl | exact Jak rfl rfl | exact Jas rfl rfl | (apply Jbl; exact Us.h; exact rfl; exact Sz.h; exact rfl)); exact rfl) | refine Jch rfl rfl rfl ?_ | refine Jci rfl rfl rfl rfl rfl ?_ | refine Jcg (Pu_load Fl.h rfl (fun _ e => by rw [e]; exact hb1.ld rfl)) rfl ?_ | (refine Jcs rfl rfl (fun hb => ?_) (fun hb => ?_) <;> (try (exfalso; omega))) | (refine Jcx rfl (fun hb => ?_) (fun hb => ?_) <;> (try (exfalso; omega))))
    all_goals exact TR_of (res1 rfl rfl) ⟨⟨_, rfl, by simp_all [tOk0] <;> omega⟩, E⟩
  · repeat' (first | apply Jbq | apply Jbr | apply Jbs | apply Jbt | apply Jbu | apply Jbx | apply Jbz | (apply Jcg; (first | exact Jab rfl | exact Jak rfl rfl); exact rfl) | (refine Jcx rfl (fun hb => ?_) (fun hb => ?_) <;> (try (exfalso; omega))))
    all_goals exact TR_of (res1 rfl rfl) ⟨⟨_, rfl, by simp_all [tOk0] <;> omega⟩, E⟩
set_option maxHeartbeats 4000000 in
theorem apply_c {w : World} {b k : Nat} {L : List LkD} {t : TnD} (hM : MD w b k L) (hk : k < 1000000) (hf : TnFit t) (hL : ∀ x ∈ L, -9223372036854775808 ≤ x.id ∧ x.id ≤ 9223372036854775807) :
    Ret Tryz.prog 142 #[.map (some b), .agg (TnC t).toArray] w fun v' w' => (aOk L t ∧ v' = .bool true ∧ Ch (Iv b (b + 1)) w w' ∧ MD w' b (k + 1) (pTurn L t)) ∨ (¬ aOk L t ∧ v' = .bool false ∧ Ext w w') := by
  have hfi : -9223372036854775808 ≤ dFind L t.name ∧ dFind L t.name ≤ 9223372036854775807 := by
    cases h : dHas L t.name with
    | false => rw [dFind_none h]; decide
    | true => obtain ⟨x, hx, _, he⟩ := dFind_mem h; rw [← he]; exact hL x hx
  have hblt := World.ownsMap.lt hM
  refine Ret_enter Tryz.func142 rfl rfl rfl ?_
  repeat' (first | apply Jbs | apply Jbt)
  refine TL_box (cs := TnC t) rfl rfl ?_
  intro w1 g1 E hg1 hz1 hb1
  have hM1 := hM.ext E
  have hE1 : Ch (Iv b (b + 1)) w w1 := Ch.mono E (fun _ t => t.elim)
  cases hh : dHas L t.name with
  | false =>
    by_cases h1 : t.kind = 1
    · repeat' (first | apply Jbq | apply Jbr | apply Jbs | apply Jbt | apply Jbu | apply Jbx | apply Jby | (refine Jce rfl ?_) | (apply Jcg; (first | exact Jaa rfl | exact Jab rfl | exact Jae rfl rfl | exact Jah rfl rfl | exact Jaj rfl | exact Jak rfl rfl | (apply Jbl; exact Us.h; exact rfl; exact Sz.h; exact rfl)); exact rfl) | refine Jch rfl rfl rfl ?_ | refine Jcg (Pu_load Fl.h rfl (fun _ e => by rw [e]; exact hb1.ld rfl)) rfl ?_ | refine Jcg (Pu_dirLookB rfl rfl hf.1 hh (fun w' e => ⟨k, by rw [e]; exact hM1⟩)) rfl ?_ | (refine TL_dirPut rfl rfl rfl hM1 hf.1 hf.2.2 (by omega) ?_; intro w2 c2 hz2 hM2) | (refine Jcs rfl rfl (fun hb => ?_) (fun hb => ?_) <;> (try (exfalso; omega))))
      exact TR_of (res1 rfl rfl) (.inl ⟨.inl ⟨h1, hh⟩, rfl, hE1.then c2, by unfold pTurn; rw [if_pos h1]; rwa [dLess_none hh] at hM2⟩)
    · repeat' (first | apply Jbq | apply Jbr | apply Jbs | apply Jbt | apply Jbu | apply Jbv | apply Jbw | apply Jby | (refine Jcf rfl ?_) | (apply Jcg; (first | exact Jaa rfl | exact Jab rfl | exact Jae rfl rfl | exact Jah rfl rfl | exact Jai rfl rfl | exact Jak rfl rfl | (apply Jbl; exact Us.h; exact rfl; exact Sz.h; exact rfl)); exact rfl) | refine Jch rfl rfl rfl ?_ | refine Jci rfl rfl rfl rfl rfl ?_ | refine Jcg (Pu_load Fl.h rfl (fun _ e => by rw [e]; exact hb1.ld rfl)) rfl ?_ | refine Jcg (Pu_dirLookB rfl rfl hf.1 hh (fun w' e => ⟨k, by rw [e]; exact hM1⟩)) rfl ?_ | (refine Jcs rfl rfl (fun hb => ?_) (fun hb => ?_) <;> (try (exfalso; omega))))
      all_goals exact TR_of (res1 rfl rfl) (.inr ⟨by simp [aOk, h1, hh], rfl, E⟩)
  | true =>
    by_cases h1 : t.kind = 1
    · repeat' (first | apply Jbq | apply Jbr | apply Jbs | apply Jbt | apply Jbu | apply Jbv | apply Jbw | apply Jby | (refine Jcf rfl ?_) | (apply Jcg; (first | exact Jaa rfl | exact Jab rfl | exact Jae rfl rfl | exact Jah rfl rfl | exact Jai rfl rfl | exact Jaj rfl | exact Jak rfl rfl | (apply Jbl; exact Us.h; exact rfl; exact Sz.h; exact rfl)); exact rfl) | refine Jch rfl rfl rfl ?_ | refine Jci rfl rfl rfl rfl rfl ?_ | refine Jcg (Pu_load Fl.h rfl (fun _ e => by rw [e]; exact hb1.ld rfl)) rfl ?_ | refine Jcg (Pu_dirLookB rfl rfl hf.1 hh (fun w' e => ⟨k, by rw [e]; exact hM1⟩)) rfl ?_ | (refine Jcs rfl rfl (fun hb => ?_) (fun hb => ?_) <;> (try (exfalso; omega))))
      all_goals exact TR_of (res1 rfl rfl) (.inr ⟨by simp [aOk, h1, hh], rfl, E⟩)
    by_cases h5 : t.kind = 5
    · by_cases ht : t.to = t.name
      · repeat' (first | apply Jbq | apply Jbr | apply Jbs | apply Jbt | apply Jbu | apply Jbv | apply Jbw | apply Jby | (refine Jcf rfl ?_) | (apply Jcg; (first | exact Jaa rfl | exact Jab rfl | exact Jae rfl rfl | exact Jah rfl rfl | exact Jai rfl rfl | exact Jak rfl rfl | exact Jat rfl rfl | (apply Jbl; exact Us.h; exact rfl; exact Sz.h; exact rfl)); exact rfl) | refine Jch rfl rfl rfl ?_ | refine Jci rfl rfl rfl rfl rfl ?_ | refine Jcg (Pu_load Fl.h rfl (fun _ e => by rw [e]; exact hb1.ld rfl)) rfl ?_ | refine Jcg (Pu_dirLookB rfl rfl hf.1 hh (fun w' e => ⟨k, by rw [e]; exact hM1⟩)) rfl ?_ | (refine Jcs rfl rfl (fun hb => ?_) (fun hb => ?_) <;> (try (exfalso; omega))) | (refine Jcy rfl (fun hb => ?_) (fun hb => ?_) <;> (try (exfalso; omega))))
        all_goals first | exact absurd ht hb | exact TR_of (res1 rfl rfl) (.inr ⟨by simp [aOk, h5, hh, ht], rfl, E⟩)
      · repeat' (first | apply Jbq | apply Jbr | apply Jbs | apply Jbt | apply Jbu | apply Jbv | apply Jbw | apply Jby | (refine Jcf rfl ?_) | (apply Jcg; (first | exact Jaa rfl | exact Jab rfl | exact Jae rfl rfl | exact Jah rfl rfl | exact Jai rfl rfl | exact Jak rfl rfl | exact Jat rfl rfl | (apply Jbl; exact Us.h; exact rfl; exact Sz.h; exact rfl)); exact rfl) | refine Jch rfl rfl rfl ?_ | refine Jci rfl rfl rfl rfl rfl ?_ | refine Jcg (Pu_load Fl.h rfl (fun _ e => by rw [e]; exact hb1.ld rfl)) rfl ?_ | refine Jcg (Pu_dirLookB rfl rfl hf.1 hh (fun w' e => ⟨k, by rw [e]; exact hM1⟩)) rfl ?_ | (refine Jcs rfl rfl (fun hb => ?_) (fun hb => ?_) <;> (try (exfalso; omega))) | (refine Jcy rfl (fun hb => ?_) (fun hb => ?_) <;> (try (exfalso; omega))))
        · refine TL_dirDel rfl rfl hM1 hf.1 ?_
          intro w2 c2 hz2 hM2
          replace hb1 := hb1.ch c2 (by simp only [Iv]; omega)
          repeat' (first | apply Jbq | apply Jbr | apply Jbt | (apply Jcg; (first | exact Jaa rfl | (apply Jbl; exact Us.h; exact rfl; exact Sz.h; exact rfl)); exact rfl) | refine Jcg (Pu_load Fl.h rfl (fun _ e => by rw [e]; exact hb1.ld rfl)) rfl ?_)
          refine TL_dirPut rfl rfl rfl hM2 hf.2.1 hfi (by omega) ?_
          intro w3 c3 hz3 hM3
          repeat' (first | apply Jbq | apply Jbr | apply Jbs | apply Jbt | apply Jbu | apply Jbx | (apply Jcg; exact Jab rfl; exact rfl))
          refine TR_of (res1 rfl rfl) (.inl ⟨.inr (.inl ⟨h5, hh, ht⟩), rfl, (hE1.then c2).then c3, ?_⟩)
          unfold pTurn
          rw [if_neg h1, if_pos h5]
          exact hM3
        all_goals exact absurd (show t.to = t.name by assumption) ht
    by_cases h6 : t.kind = 6
    · repeat' (first | apply Jbq | apply Jbr | apply Jbs | apply Jbt | apply Jby | (refine Jce rfl ?_) | (refine Jcf rfl ?_) | (apply Jcg; (first | exact Jaa rfl | exact Jab rfl | exact Jae rfl rfl | exact Jah rfl rfl | exact Jai rfl rfl | exact Jak rfl rfl | (apply Jbl; exact Us.h; exact rfl; exact Sz.h; exact rfl)); exact rfl) | refine Jch rfl rfl rfl ?_ | refine Jci rfl rfl rfl rfl rfl ?_ | refine Jcg (Pu_load Fl.h rfl (fun _ e => by rw [e]; exact hb1.ld rfl)) rfl ?_ | refine Jcg (Pu_dirLookB rfl rfl hf.1 hh (fun w' e => ⟨k, by rw [e]; exact hM1⟩)) rfl ?_ | (refine Jcs rfl rfl (fun hb => ?_) (fun hb => ?_) <;> (try (exfalso; omega))))
      refine TL_dirDel rfl rfl hM1 hf.1 ?_
      intro w2 c2 hz2 hM2
      repeat' (first | apply Jbq | apply Jbr | apply Jbs | apply Jbt | apply Jbu | apply Jbx | (apply Jcg; exact Jab rfl; exact rfl))
      refine TR_of (res1 rfl rfl) (.inl ⟨.inr (.inr ⟨h6, hh⟩), rfl, hE1.then c2, ?_⟩)
      unfold pTurn
      rw [if_neg h1, if_neg h5]
      exact World.ownsMap.mono hM2 (Nat.le_succ _)
    · repeat' (first | apply Jbq | apply Jbr | apply Jbs | apply Jbt | apply Jbu | apply Jbv | apply Jbw | apply Jby | (refine Jcf rfl ?_) | (apply Jcg; (first | exact Jaa rfl | exact Jab rfl | exact Jae rfl rfl | exact Jai rfl rfl | exact Jak rfl rfl | (apply Jbl; exact Us.h; exact rfl; exact Sz.h; exact rfl)); exact rfl) | refine Jci rfl rfl rfl rfl rfl ?_ | refine Jcg (Pu_load Fl.h rfl (fun _ e => by rw [e]; exact hb1.ld rfl)) rfl ?_ | refine Jcg (Pu_dirLookB rfl rfl hf.1 hh (fun w' e => ⟨k, by rw [e]; exact hM1⟩)) rfl ?_ | (refine Jcs rfl rfl (fun hb => ?_) (fun hb => ?_) <;> (try (exfalso; omega))))
      all_goals exact TR_of (res1 rfl rfl) (.inr ⟨by simp [aOk, h1, h5, h6], rfl, E⟩)
theorem pTurn_ids {L : List LkD} {t : TnD} (hf : TnFit t) (hL : ∀ x ∈ L, -9223372036854775808 ≤ x.id ∧ x.id ≤ 9223372036854775807) : ∀ x ∈ pTurn L t, -9223372036854775808 ≤ x.id ∧ x.id ≤ 9223372036854775807 := by
  have hfi : -9223372036854775808 ≤ dFind L t.name ∧ dFind L t.name ≤ 9223372036854775807 := by
    cases h : dHas L t.name with
    | false => rw [dFind_none h]; decide
    | true => obtain ⟨x, hx, _, he⟩ := dFind_mem h; rw [← he]; exact hL x hx
  intro x hx
  unfold pTurn at hx
  split at hx
  · rcases (mem_dIns _).1 hx with rfl | hx
    · exact hf.2.2
    · exact hL x hx
  · split at hx
    · rcases (mem_dIns _).1 hx with rfl | hx
      · exact hfi
      · exact hL x (mem_dLess (mem_dLess hx))
    · exact hL x (mem_dLess hx)
/-- Are all turns applicable? -/
def aAll (L : List LkD) (ts : List TnD) : Prop := ∀ j (h : j < ts.length), aOk (runT L (ts.take j)) ts[j]
set_option maxHeartbeats 4000000 in
theorem dirOf_c {w : World} {lo hi lo2 hi2 : Nat} {vk vt : Value} {L : List LkD} {ts : List TnD} (h : RK w lo hi vk L) (h2 : RT w lo2 hi2 vt ts) (ha : Asc L) (hl : L.length ≤ 1000) (hl2 : ts.length ≤ 1000) (hf : ∀ x ∈ L, LkFit x) (hf2 : ∀ x ∈ ts, TnFit x) :
    Ret Tryz.prog 67 #[vk, vt] w fun v' w' => Ext w w' ∧ ((aAll L ts ∧ ∃ b k, v' = .tuple #[.map (some b), .bool true] ∧ w.heap.size ≤ b ∧ k ≤ 2000 ∧ MD w' b k (runT L ts)) ∨ (¬ aAll L ts ∧ v' = .tuple #[.map none, .bool false])) := by
  obtain ⟨A, c, rfl, hc, hr⟩ := h.row
  obtain ⟨A2, c2, rfl, hc2, hr2⟩ := h2.row
  refine Ret_enter Tryz.func67 rfl rfl rfl ?_
  repeat' (first | apply Jbq | apply Jbr | apply Jbs | apply Jbt | (apply Jcg; exact Jab rfl; exact rfl))
  refine TL_makeMap rfl ?_
  intro w1 e1 hz1 hM1 _
  obtain ⟨b, hb⟩ : ∃ b, b = w.heap.size := ⟨_, rfl⟩
  rw [← hb] at hM1 ⊢
  repeat' (first | apply Jbq | apply Jbr | apply Jbs | apply Jbt | apply Jby | (apply Jcg; (first | exact Jaa rfl | exact Jab rfl | exact Jac Us.h rfl); exact rfl))
  refine TC_loop (ι := Nat) (fun k => [(1, .slice A2 ts.length c2), (6, .map (some b)), (12, .slice A L.length c), (13, I L.length), (14, I k)]) (fun k w' => k ≤ L.length ∧ Ext w w' ∧ MD w' b k (L.take k)) (fun k => L.length - k) 0 (subEnv_cons rfl (subEnv_cons rfl (subEnv_cons rfl (subEnv_cons rfl (subEnv_cons rfl (subEnv_nil _)))))) ⟨Nat.zero_le _, e1, hM1⟩ ?_
  intro k w2 ⟨hk, e2, hM2⟩
  have hbl := World.ownsMap.lt hM2
  repeat' (first | apply Jbq | apply Jbr | apply Jbs | apply Jbt | (apply Jcg; exact Jad rfl rfl; exact rfl))
  refine Jcx rfl (fun hlt0 => ?_) (fun hge => ?_)
  · have hlt : k < L.length := by omega
    obtain ⟨ad, rfl, hcell⟩ := Rd.elem LkC_len (hr.ext e2) hlt
    have hfk := hf _ (List.getElem_mem hlt)
    repeat' (first | apply Jbq | apply Jbr | apply Jbs | apply Jbt | apply Jby | apply Jbz | (apply Jcg; (first | exact Jaa rfl | exact Jar Us.h Sz.h rfl rfl (by omega) | (apply Jbl; exact Us.h; exact rfl; exact Sz.h; exact rfl)); exact rfl) | refine Jcg (Pu_loadAgg (cs := LkC L[k]) Us.h rfl Sz.h rfl (fun _ e j u hu => by rw [e]; exact hcell j u hu)) rfl ?_ | (refine TL_alloc Zs.h rfl rfl ?_; intro w3 g3 e3 hg3 hz3 hb3) | (refine TL_storeAgg rfl rfl Sz.h rfl hb3 rfl ?_; intro w4 c4 hz4 hb4) | refine Jcg (Pu_load Fl.h rfl (fun _ e => by rw [e]; exact hb4.ld rfl)) rfl ?_)
    have hM4 := (hM2.ext e3).ch c4 (by simp only [Iv]; omega)
    refine TL_dirPut rfl rfl rfl hM4 hfk.1 hfk.2 (by omega) ?_
    intro w5 c5 hz5 hM5
    rw [put_take ha hlt] at hM5
    repeat' (first | apply Jbq | apply Jbr | apply Jbt | apply Jbx | (apply Jcg; (first | exact Jaa rfl | exact Jaf rfl rfl (by omega)); exact rfl))
    exact TN_round (k + 1) (subEnv_cons rfl (subEnv_cons rfl (subEnv_cons rfl (subEnv_cons rfl (subEnv_cons rfl (subEnv_nil _)))))) ⟨hlt, Ext.then_iv (Ext.then_iv (e2.ext e3) c4 (by have := e2.size; omega)) c5 (by omega), hM5⟩ (by omega)
  · obtain rfl : k = L.length := by omega
    rw [List.take_length] at hM2
    repeat' (first | apply Jbq | apply Jbr | apply Jbs | apply Jbt | apply Jby | apply Jca | apply Jcb | apply Jcc | (apply Jcg; (first | exact Jaa rfl | exact Jac Us.h rfl); exact rfl))
    refine TC_loop (ι := Nat) (fun k => [(6, .map (some b)), (24, .slice A2 ts.length c2), (25, I ts.length), (26, I k)]) (fun k w' => k ≤ ts.length ∧ Ext w w' ∧ MD w' b (L.length + k) (runT L (ts.take k)) ∧ ∀ j (h : j < ts.length), j < k → aOk (runT L (ts.take j)) ts[j]) (fun k => ts.length - k) 0 (subEnv_cons rfl (subEnv_cons rfl (subEnv_cons rfl (subEnv_cons rfl (subEnv_nil _))))) ⟨Nat.zero_le _, e2, by simpa [runT] using hM2, fun j _ hj => absurd hj (Nat.not_lt_zero _)⟩ ?_
    intro k w3 ⟨hk, e3, hM3, hst⟩
    have hbl := World.ownsMap.lt hM3
    repeat' (first | apply Jbq | apply Jbr | apply Jbs | apply Jbt | (apply Jcg; exact Jad rfl rfl; exact rfl))
    refine Jcx rfl (fun hlt0 => ?_) (fun hge => ?_)
    · have hlt : k < ts.length := by omega
      obtain ⟨ad, rfl, hcell⟩ := Rd.elem TnC_len (hr2.ext e3) hlt
      have hfk := hf2 _ (List.getElem_mem hlt)
      have hids : ∀ j, j ≤ ts.length → ∀ x ∈ runT L (ts.take j), -9223372036854775808 ≤ x.id ∧ x.id ≤ 9223372036854775807 := by
        intro j
        induction j with
        | zero => intro _ x hx; exact (hf x (by simpa [runT] using hx)).2
        | succ j ih => intro hj; rw [runT_take (by omega)]; exact pTurn_ids (hf2 _ (List.getElem_mem _)) (ih (by omega))
      repeat' (first | apply Jbq | apply Jbr | apply Jbs | apply Jbt | apply Jby | apply Jbz | (apply Jcg; (first | exact Jaa rfl | exact Jar Us.h Sz.h rfl rfl (by omega)); exact rfl) | refine Jcg (Pu_loadAgg (cs := TnC ts[k]) Us.h rfl Sz.h rfl (fun _ e j u hu => by rw [e]; exact hcell j u hu)) rfl ?_ | (refine TL_alloc Zs.h rfl rfl ?_; intro w4 g4 e4 hg4 hz4 hb4) | (refine TL_storeAgg rfl rfl Sz.h rfl hb4 rfl ?_; intro w5 c5 hz5 hb5) | refine Jcg (Pu_loadAgg (cs := TnC ts[k]) Us.h rfl Sz.h rfl (fun _ e j u hu => by rw [e, add0, hb5.cell]; exact hu)) rfl ?_)
      have hM5 := (hM3.ext e4).ch c5 (by simp only [Iv]; omega)
      have E5 : Ext w w5 := Ext.then_iv (e3.ext e4) c5 (by have := e3.size; omega)
      refine TL_call rfl en142 (apply_c hM5 (by omega) hfk (hids k hk)) rfl rfl ?_
      rintro _ w6 hq
      rcases hq with ⟨hok, rfl, c6, hM6⟩ | ⟨hno, rfl, e6⟩
      · repeat' (first | apply Jbq | apply Jbr | apply Jbt | apply Jbx | apply Jbz | (refine Jcf rfl ?_) | (apply Jcg; (first | exact Jaa rfl | exact Jaf rfl rfl (by omega) | exact Jaj rfl); exact rfl))
        refine TN_round (k + 1) (subEnv_cons rfl (subEnv_cons rfl (subEnv_cons rfl (subEnv_cons rfl (subEnv_nil _))))) ⟨hlt, Ext.then_iv E5 c6 (by omega), ?_, fun j hj hjk => ?_⟩ (by omega)
        · rw [runT_take hlt]; exact hM6
        · rcases Nat.lt_or_ge j k with h2 | h2
          · exact hst j hj h2
          · obtain rfl : j = k := by omega
            exact hok
      · repeat' (first | apply Jbq | apply Jbr | apply Jbs | apply Jbt | apply Jbu | apply Jbv | apply Jbw | (refine Jce rfl ?_) | (apply Jcg; (first | exact Jab rfl | exact Jaj rfl); exact rfl))
        exact TR_of (res2 rfl rfl rfl) ⟨E5.ext e6, .inr ⟨fun h => hno (h k hlt), rfl⟩⟩
    · obtain rfl : k = ts.length := by omega
      rw [List.take_length] at hM3
      repeat' (first | apply Jbq | apply Jbr | apply Jbs | apply Jbt | apply Jbu | apply Jca | apply Jcb | apply Jcc | (apply Jcg; (first | exact Jaa rfl | exact Jab rfl); exact rfl))
      exact TR_of (res2 rfl rfl rfl) ⟨e3, .inl ⟨fun j hj => hst j hj hj, b, _, rfl, by omega, by omega, hM3⟩⟩
end Go.Proofs.YtggaghghclomkaaGreat
