/- Contracts: the reference's turns and numbers. -/
import Derived.Test.YtggaghghclomkaaGreatDirS
namespace Go.Proofs.YtggaghghclomkaaGreat
open Go.RowKit
theorem pTurn_length (L : List LkD) (t : TnD) : (pTurn L t).length ≤ L.length + 1 := by
  unfold pTurn
  split
  · rw [dIns_length]; exact Nat.le_refl _
  · split
    · rw [dIns_length]; have := dLess_length (dLess L t.name) t.to; have := dLess_length L t.name; omega
    · have := dLess_length L t.name; omega
theorem runT_length (L : List LkD) : ∀ ts : List TnD, (runT L ts).length ≤ L.length + ts.length := by
  intro ts
  unfold runT
  induction ts generalizing L with
  | nil => simp
  | cons t r ih => rw [List.foldl_cons]; have := ih (pTurn L t); have := pTurn_length L t; simp only [List.length_cons]; omega
theorem RowO.rk {w : World} {lo hi : Nat} {v : Value} {l : List LkD} {e : TypeId} (h : RowO LkC e 2 w lo hi v l) : RK w 0 w.heap.size v l := h.rd.rk.wide (Nat.zero_le _) h.hi_le (Nat.le_refl _)
attribute [local irreducible] TL TC TN TX TR TQ TA Pu Ret
set_option maxHeartbeats 2000000 in
theorem l03Turn_o {w : World} {lo hi : Nat} {v : Value} {L : List LkD} {t : TnD} (h : RK w lo hi v L) (hl : L.length ≤ 1000) :
    Ret Tryz.prog 133 #[v, .agg (TnC t).toArray] w fun v' w' => Ext w w' ∧ RowO LkC 162 2 w' w.heap.size w'.heap.size v' (pTurn L t) := by
  refine Ret_enter Tryz.func133 rfl rfl rfl ?_
  repeat' (first | apply Jbs | apply Jbt)
  refine TL_box (cs := TnC t) rfl rfl ?_
  intro w1 g1 e1 hg1 hz1 hb1
  repeat' (first | apply Jbq | apply Jbr | apply Jbs | apply Jbt | (apply Jcg; (first | exact Jab rfl | exact Jak rfl rfl | (apply Jbl; exact Us.h; exact rfl; exact Sz.h; exact rfl)); exact rfl) | refine Jcg (Pu_load Fl.h rfl (fun _ e => by rw [e]; exact hb1.ld rfl)) rfl ?_)
  refine Jcx rfl (fun hk => ?_) (fun hk => ?_)
  · repeat' (first | apply Jbs | apply Jbt | (apply Jcg; (first | exact Jaa rfl | (apply Jbl; exact Us.h; exact rfl; exact Sz.h; exact rfl)); exact rfl) | refine Jcg (Pu_load Fl.h rfl (fun _ e => by rw [e]; exact hb1.ld rfl)) rfl ?_)
    refine TL_call rfl en169 (l03With_c (h.ext e1) (by omega)) rfl rfl ?_
    rintro v2 w2 ⟨e2, ho2⟩
    repeat' (first | apply Jbq | apply Jbr | apply Jbu | apply Jbv | (apply Jcg; exact Jab rfl; exact rfl))
    refine TR_of (res1 rfl rfl) ⟨e1.ext e2, ?_⟩
    unfold pTurn
    rw [if_pos hk]
    exact ho2.wide (e1.size) (Nat.le_refl _) (Nat.le_refl _)
  · repeat' (first | apply Jbr | apply Jbs | apply Jbt | apply Jbz | (apply Jcg; (first | exact Jaa rfl | (apply Jbl; exact Us.h; exact rfl; exact Sz.h; exact rfl)); exact rfl) | refine Jcg (Pu_load Fl.h rfl (fun _ e => by rw [e]; exact hb1.ld rfl)) rfl ?_)
    refine TL_call rfl en85 (l03Find_c (h.ext e1) (by omega)) rfl rfl ?_
    rintro _ w2 ⟨rfl, e2⟩
    replace hb1 := hb1.ext e2
    repeat' (first | apply Jbq | apply Jbr | apply Jbs | apply Jbt | (apply Jcg; (first | exact Jaa rfl | exact Jab rfl | (apply Jbl; exact Us.h; exact rfl; exact Sz.h; exact rfl)); exact rfl) | refine Jcg (Pu_load Fl.h rfl (fun _ e => by rw [e]; exact hb1.ld rfl)) rfl ?_)
    refine TL_call rfl en170 (l03Less_c (h.ext (e1.ext e2)) (by omega)) rfl rfl ?_
    rintro v3 w3 ⟨e3, ho3⟩
    replace hb1 := hb1.ext e3
    have E3 := (e1.ext e2).ext e3
    have hl3 := dLess_length L t.name
    repeat' (first | apply Jbq | apply Jbr | apply Jbs | apply Jbt | (apply Jcg; (first | exact Jab rfl | exact Jak rfl rfl | (apply Jbl; exact Us.h; exact rfl; exact Sz.h; exact rfl)); exact rfl) | refine Jcg (Pu_load Fl.h rfl (fun _ e => by rw [e]; exact hb1.ld rfl)) rfl ?_)
    refine Jcx rfl (fun hk5 => ?_) (fun hk5 => ?_)
    · refine TC_any mixed rfl ?_
      intro w4 hE hz4
      (refine Jco 0 rfl (by kernel_rfl) (by kernel_rfl) (by kernel_rfl) (fun _ _ _ h => h) hE (by exact Jaa rfl) rfl ?_; refine Jco 1 rfl (by kernel_rfl) (by kernel_rfl) (by kernel_rfl) (fun _ _ _ h => h) hE (by (apply Jbl; exact Us.h; exact rfl; exact Sz.h; exact rfl)) rfl ?_; refine Jco 2 rfl (by kernel_rfl) (by kernel_rfl) (by kernel_rfl) (fun _ _ _ h => h) hE (by exact Pu_load Fl.h rfl (fun _ e => Ext.cell e (hb1.ld rfl))) rfl ?_; refine Jco 4 rfl (by kernel_rfl) (by kernel_rfl) (by kernel_rfl) (fun _ _ _ h => h) hE (by (apply Jbl; exact Us.h; exact rfl; exact Sz.h; exact rfl)) rfl ?_; refine Jco 5 rfl (by kernel_rfl) (by kernel_rfl) (by kernel_rfl) (fun _ _ _ h => h) hE (by exact Pu_load Fl.h rfl (fun _ e => Ext.cell e (hb1.ld rfl))) rfl ?_; refine Jco 6 rfl (by kernel_rfl) (by kernel_rfl) (by kernel_rfl) (fun _ _ _ h => h) hE (by exact Jaa rfl) rfl ?_)
      refine TA_one 3 (by kernel_rfl) rfl ?_
      refine TL_call rfl en170 (l03Less_c (ho3.rk.ext hE) (by omega)) rfl rfl ?_
      rintro v5 w5 ⟨e5, ho5⟩
      have hE5 := hE
      replace hE := hE.ext e5
      refine Jbq (TN_any hE ?_)
      refine TA_one 7 (by kernel_rfl) rfl ?_
      have hl5 := dLess_length (dLess L t.name) t.to
      refine TL_call rfl en169 (l03With_c ho5.rk (by omega)) rfl rfl ?_
      rintro v6 w6 ⟨e6, ho6⟩
      replace hE := hE.ext e6
      refine Jbq (TN_any hE ?_)
      (refine Jco 8 rfl (by kernel_rfl) (by kernel_rfl) (by kernel_rfl) (fun _ _ _ h => h) hE (by exact Jab rfl) rfl ?_)
      refine TA_done (by kernel_rfl) ?_
      repeat' (first | apply Jbq | apply Jbr | apply Jbs | apply Jbt | apply Jbu | (apply Jcg; (first | exact Jaa rfl | exact Jab rfl); exact rfl))
      refine TR_of (res1 rfl rfl) ⟨E3.ext hE, ?_⟩
      unfold pTurn
      rw [if_neg hk, if_pos hk5]
      exact ho6.wide (by have := E3.size; have := e5.size; have := hE5.size; omega) (Nat.le_refl _) (Nat.le_refl _)
    · repeat' (first | apply Jbq | apply Jbr | apply Jbs | apply Jbt | apply Jbu | apply Jbz | (apply Jcg; (first | exact Jaa rfl | exact Jab rfl); exact rfl))
      refine TR_of (res1 rfl rfl) ⟨E3, ?_⟩
      unfold pTurn
      rw [if_neg hk, if_neg hk5]
      exact ho3.wide (e1.ext e2).size (Nat.le_refl _) (Nat.le_refl _)
theorem l03Turn_c {w : World} {lo hi : Nat} {v : Value} {L : List LkD} {t : TnD} (h : RK w lo hi v L) (hl : L.length ≤ 1000) :
    Ret Tryz.prog 133 #[v, .agg (TnC t).toArray] w fun v' w' => Ext w w' ∧ RK w' 0 w'.heap.size v' (pTurn L t) := by
  refine (l03Turn_o h hl).mono fun v w' ⟨e, ho⟩ => ⟨e, ho.rk⟩
set_option maxHeartbeats 4000000 in
theorem l03TurnOk_c {w : World} {lo hi : Nat} {v : Value} {L : List LkD} {t : TnD} (h : RK w lo hi v L) (hl : L.length ≤ 1000) (hf : TnFit t) :
    Ret Tryz.prog 132 #[v, .agg (TnC t).toArray] w fun v' w' => (∃ b, v' = .bool b ∧ (b = true ↔ tOk L t)) ∧ Ext w w' := by
  refine Ret_enter Tryz.func132 rfl rfl rfl ?_
  repeat' (first | apply Jbs | apply Jbt)
  refine TL_box (cs := TnC t) rfl rfl ?_
  intro w1 g1 e1 hg1 hz1 hb1
  repeat' (first | apply Jbq | apply Jbr | apply Jbs | apply Jbt | (apply Jcg; (first | exact Jab rfl | exact Jaj rfl | (apply Jbl; exact Us.h; exact rfl; exact Sz.h; exact rfl)); exact rfl) | refine Jcg (Pu_load Fl.h rfl (fun _ e => by rw [e]; exact hb1.ld rfl)) rfl ?_ | (refine TL_call rfl en131 (specNameOk_c _ _ hf.1) rfl rfl ?_; rintro _ _ ⟨rfl, rfl⟩))
  refine Jcz rfl (fun hn => ?_) (fun hn => ?_)
  · repeat' (first | apply Jbq | apply Jbr | apply Jbs | apply Jbt | apply Jbu | apply Jbv | (apply Jcg; exact Jab rfl; exact rfl))
    exact TR_of (res1 rfl rfl) ⟨⟨_, rfl, by simp at hn; simp [tOk, hn]⟩, e1⟩
  have hn : pName t.name = true := by simpa using hn
  repeat' (first | apply Jbr | apply Jbs | apply Jbt | apply Jbz | (apply Jcg; (first | exact Jaa rfl | (apply Jbl; exact Us.h; exact rfl; exact Sz.h; exact rfl)); exact rfl) | refine Jcg (Pu_load Fl.h rfl (fun _ e => by rw [e]; exact hb1.ld rfl)) rfl ?_)
  refine TL_call rfl en85 (l03Find_c (h.ext e1) (by omega)) rfl rfl ?_
  rintro _ w2 ⟨rfl, e2⟩
  replace hb1 := hb1.ext e2
  have E := e1.ext e2
  repeat' (first | apply Jbq | apply Jbr | apply Jbs | apply Jbt | apply Jby | (apply Jcg; (first | exact Jab rfl | exact Jak rfl rfl | exact Jam rfl rfl | (apply Jbl; exact Us.h; exact rfl; exact Sz.h; exact rfl)); exact rfl) | refine Jcg (Pu_load Fl.h rfl (fun _ e => by rw [e]; exact hb1.ld rfl)) rfl ?_)
  by_cases h1 : t.kind = 1
  · repeat' (first | apply Jbq | apply Jbr | apply Jbs | apply Jbt | apply Jbu | apply Jbv | apply Jbw | (apply Jcg; (first | exact Jaa rfl | exact Jab rfl | exact Jah rfl rfl | exact Jai rfl rfl | exact Jaj rfl | exact Jam rfl rfl | exact Jas rfl rfl | (apply Jbl; exact Us.h; exact rfl; exact Sz.h; exact rfl)); exact rfl) | refine Jch rfl rfl rfl ?_ | refine Jci rfl rfl rfl rfl rfl ?_ | refine Jcg (Pu_load Fl.h rfl (fun _ e => by rw [e]; exact hb1.ld rfl)) rfl ?_ | (refine Jcs rfl rfl (fun hb => ?_) (fun hb => ?_) <;> (try (exfalso; omega))) | (refine Jcx rfl (fun hb => ?_) (fun hb => ?_) <;> (try (exfalso; omega))))
    all_goals exact TR_of (res1 rfl rfl) ⟨⟨_, rfl, by simp_all [tOk] <;> omega⟩, E⟩
  by_cases h5 : t.kind = 5
  · repeat' (first | apply Jbq | apply Jbr | apply Jbs | apply Jbt | apply Jbu | apply Jbv | apply Jbw | (apply Jcg; (first | exact Jaa rfl | exact Jab rfl | exact Jah rfl rfl | exact Jai rfl rfl | exact Jak rfl rfl | exact Jat rfl rfl | (apply Jbl; exact Us.h; exact rfl; exact Sz.h; exact rfl)); exact rfl) | refine Jch rfl rfl rfl ?_ | refine Jci rfl rfl rfl rfl rfl ?_ | refine Jcg (Pu_load Fl.h rfl (fun _ e => by rw [e]; exact hb1.ld rfl)) rfl ?_ | (refine TL_call rfl en131 (specNameOk_c _ _ hf.2.1) rfl rfl ?_; rintro _ _ ⟨rfl, rfl⟩) | (refine Jcs rfl rfl (fun hb => ?_) (fun hb => ?_) <;> (try (exfalso; omega))) | (refine Jct rfl rfl (fun hb => ?_) (fun hb => ?_) <;> (try (exfalso; omega))) | refine Jcr rfl rfl (fun hb => ?_) (fun hb => ?_) | (refine Jcx rfl (fun hb => ?_) (fun hb => ?_) <;> (try (exfalso; omega))))
    all_goals exact TR_of (res1 rfl rfl) ⟨⟨_, rfl, by simp_all [tOk] <;> omega⟩, E⟩
  by_cases h6 : t.kind = 6
  · repeat' (first | apply Jbq | apply Jbr | apply Jbs | apply Jbt | apply Jbu | apply Jbv | apply Jbw | (apply Jcg; (first | exact Jaa rfl | exact Jab rfl | exact Jah rfl rfl | exact Jai rfl rfl | exact Jak rfl rfl | exact Jas rfl rfl | (apply Jbl; exact Us.h; exact rfl; exact Sz.h; exact rfl)); exact rfl) | refine Jch rfl rfl rfl ?_ | refine Jci rfl rfl rfl rfl rfl ?_ | refine Jcg (Pu_load Fl.h rfl (fun _ e => by rw [e]; exact hb1.ld rfl)) rfl ?_ | (refine Jcs rfl rfl (fun hb => ?_) (fun hb => ?_) <;> (try (exfalso; omega))) | (refine Jcx rfl (fun hb => ?_) (fun hb => ?_) <;> (try (exfalso; omega))))
    all_goals exact TR_of (res1 rfl rfl) ⟨⟨_, rfl, by simp_all [tOk] <;> omega⟩, E⟩
  · repeat' (first | apply Jbq | apply Jbr | apply Jbs | apply Jbt | apply Jbu | apply Jbx | apply Jbz | (apply Jcg; (first | exact Jab rfl | exact Jak rfl rfl); exact rfl) | (refine Jcx rfl (fun hb => ?_) (fun hb => ?_) <;> (try (exfalso; omega))))
    all_goals exact TR_of (res1 rfl rfl) ⟨⟨_, rfl, by simp_all [tOk] <;> omega⟩, E⟩
set_option maxHeartbeats 1000000 in
theorem l03HasInt_c {w : World} {lo hi : Nat} {v : Value} {l : List Int} {i : Int} (h : RowR InC 1 w lo hi v l) (hl : l.length ≤ 1048576) :
    Ret Tryz.prog 89 #[v, I i] w fun v' w' => v' = .bool (decide (i ∈ l)) ∧ Ext w w' := by
  obtain ⟨A, c, rfl, hc, hr⟩ := h
  refine Ret_enter Tryz.func89 rfl rfl rfl ?_
  repeat' (first | apply Jbq | apply Jbr | apply Jbs | apply Jbt | apply Jby | (apply Jcg; (first | exact Jaa rfl | exact Jab rfl | exact Jac Us.h rfl); exact rfl))
  refine TC_loop (ι := Nat) (fun k => [(1, I i), (7, .slice A l.length c), (8, I l.length), (9, I k)]) (fun k w' => k ≤ l.length ∧ i ∉ l.take k ∧ Ext w w') (fun k => l.length - k) 0 (subEnv_cons rfl (subEnv_cons rfl (subEnv_cons rfl (subEnv_cons rfl (subEnv_nil _))))) ⟨Nat.zero_le _, by simp, Ch.refl _ _⟩ ?_
  intro k w2 ⟨hk, hn, e2⟩
  repeat' (first | apply Jbq | apply Jbr | apply Jbs | apply Jbt | (apply Jcg; exact Jad rfl rfl; exact rfl))
  refine Jcx rfl (fun hlt0 => ?_) (fun hge => ?_)
  · have hlt : k < l.length := by omega
    obtain ⟨ad, rfl, hcell⟩ := Rd.elem InC_len (hr.ext e2) hlt
    have hcell : w2.cell? (ad.add k) = some (I l[k]) := by have := hcell 0 _ rfl; rwa [add_of_add, Nat.add_zero, Nat.mul_one] at this
    repeat' (first | apply Jbq | apply Jbr | apply Jbs | apply Jbt | apply Jby | apply Jbz | (apply Jcg; (first | exact Jaa rfl | exact Jab rfl | exact Jag Us.h Sz.h rfl rfl (by omega) | exact Jak rfl rfl); exact rfl) | refine Jcg (Pu_load Fl.h rfl (fun _ e => by rw [e]; exact hcell)) rfl ?_)
    refine Jcx rfl (fun he => ?_) (fun he => ?_)
    · repeat' (first | apply Jbq | apply Jbr | apply Jbs | apply Jbt | apply Jbu | apply Jbv | apply Jbw | (apply Jcg; exact Jab rfl; exact rfl))
      exact TR_of (res1 rfl rfl) ⟨by rw [decide_eq_true (show i ∈ l by rw [← he]; exact List.getElem_mem hlt)], e2⟩
    · repeat' (first | apply Jbq | apply Jbr | apply Jbt | apply Jbx | apply Jbz | (apply Jcg; (first | exact Jaa rfl | exact Jaf rfl rfl (by omega)); exact rfl))
      refine TN_round (k + 1) (subEnv_cons rfl (subEnv_cons rfl (subEnv_cons rfl (subEnv_cons rfl (subEnv_nil _))))) ⟨hlt, ?_, e2⟩ (by omega)
      rw [List.take_succ_eq_append_getElem hlt, List.mem_append, List.mem_singleton]
      rintro (h | h)
      · exact hn h
      · exact he h.symm
  · obtain rfl : k = l.length := by omega
    rw [List.take_length] at hn
    repeat' (first | apply Jbq | apply Jbr | apply Jbs | apply Jbt | apply Jbu | apply Jca | apply Jcb | apply Jcc | (apply Jcg; exact Jab rfl; exact rfl))
    exact TR_of (res1 rfl rfl) ⟨by rw [decide_eq_false hn], e2⟩
theorem crs_take {ts : List TnD} {k : Nat} (h : k < ts.length) : ((ts.take (k + 1)).filter (fun t => decide (t.kind = 1))).map (·.id) = ((ts.take k).filter (fun t => decide (t.kind = 1))).map (·.id) ++ (if ts[k].kind = 1 then [ts[k].id] else []) := by
  rw [List.take_succ_eq_append_getElem h, List.filter_append, List.map_append]
  by_cases h1 : ts[k].kind = 1 <;> simp [h1]
theorem in_own {w1 : World} {g n : Nat} {i : Int} {w : World} (h : Own w1 g (g + 1) 3 1 (some ⟨g, 0, none⟩) n n (cellsL InC [i])) (hn : n = 1) (hg : g = w.heap.size) (hz : w1.heap.size = g + 1) : RowO InC 3 1 w1 w.heap.size w1.heap.size (.slice (some ⟨g, 0, none⟩) n n) [i] := RowO.new (by rw [hn]; rfl) h hg hz
set_option maxHeartbeats 2000000 in
theorem l03Ids_c {w : World} {lo hi : Nat} {d : DiskP} {sn sk st : Value} (h : RDk w lo hi d sn sk st) (hk : d.kept.length ≤ 1048576) (ht : d.turns.length ≤ 1048576) :
    Ret Tryz.prog 90 #[.agg (dskC d sn sk st).toArray] w fun v' w' => Ext w w' ∧ RowO InC 3 1 w' w.heap.size w'.heap.size v' (pIds d) := by
  obtain ⟨Ak, ck, rfl, hck, hrk⟩ := h.2.1.row
  obtain ⟨At, ct, rfl, hct, hrt⟩ := h.2.2.row
  refine Ret_enter Tryz.func90 rfl rfl rfl ?_
  repeat' (first | apply Jbs | apply Jbt)
  refine TL_box (cs := dskC d sn (.slice Ak d.kept.length ck) (.slice At d.turns.length ct)) rfl rfl ?_
  intro wb g E hg hz hbk
  clear hz
  have hzb := E.size
  have hb0 := hbk
  repeat' (first | apply Jbq | apply Jbr | apply Jbs | apply Jbt | apply Jby | (apply Jcg; (first | exact Jaa rfl | exact Jab rfl | exact Jac Us.h rfl | (apply Jbl; exact Us.h; exact rfl; exact Sz.h; exact rfl)); exact rfl) | refine Jcg (Pu_load Fl.h rfl (fun _ e => by rw [e]; exact hbk.ld rfl)) rfl ?_ | (refine TL_buildSlice0 Us.h Sz.h rfl ?_; intro w1 g1 e1 hg1 hz1 hown1; replace hbk := hbk.ext e1))
  refine TC_loop (ι := Nat × Value) (fun x => [(1, .pointer (some ⟨g, 0, none⟩)), (3, x.2), (10, .slice Ak d.kept.length ck), (11, I d.kept.length), (12, I x.1)]) (fun x w' => x.1 ≤ d.kept.length ∧ Ext wb w' ∧ RowO InC 3 1 w' wb.heap.size w'.heap.size x.2 ((d.kept.take x.1).map (·.id))) (fun x => d.kept.length - x.1) (0, _) (subEnv_cons rfl (subEnv_cons rfl (subEnv_cons rfl (subEnv_cons rfl (subEnv_cons rfl (subEnv_nil _)))))) ⟨Nat.zero_le _, e1, RowO.new (l := []) rfl hown1 hg1 hz1⟩ ?_
  rintro ⟨k, vo⟩ w2 ⟨hkk, e2, ho2⟩
  simp only at hkk ho2
  show TC _ _ _ _ [(1, .pointer (some ⟨g, 0, none⟩)), (3, vo), (10, .slice Ak d.kept.length ck), (11, I d.kept.length), (12, I (k : Int))] w2
  repeat' (first | apply Jbq | apply Jbr | apply Jbs | apply Jbt | (apply Jcg; exact Jad rfl rfl; exact rfl))
  refine Jcx rfl (fun hlt0 => ?_) (fun hge => ?_)
  · have hlt : k < d.kept.length := by omega
    obtain ⟨ad, rfl, hcell⟩ := Rd.elem LkC_len (hrk.ext (E.ext e2)) hlt
    repeat' (first | apply Jbq | apply Jbr | apply Jbs | apply Jbt | apply Jby | apply Jbz | (apply Jcg; (first | exact Jaa rfl | exact Jar Us.h Sz.h rfl rfl (by omega) | (apply Jbl; exact Us.h; exact rfl; exact Sz.h; exact rfl)); exact rfl) | refine Jcg (Pu_loadAgg (cs := LkC d.kept[k]) Us.h rfl Sz.h rfl (fun _ e j u hu => by rw [e]; exact hcell j u hu)) rfl ?_ | (refine TL_alloc Zs.h rfl rfl ?_; intro w3 g3 e3 hg3 hz3 hb3) | (refine TL_storeAgg rfl rfl Sz.h rfl hb3 rfl ?_; intro w4 c4 hz4 hb4) | refine Jcg (Pu_load Fl.h rfl (fun _ e => by rw [e]; exact hb4.ld rfl)) rfl ?_)
    have E4 : Ext w2 w4 := Ext.then_iv e3 c4 (by omega)
    refine TL_buildSlice Us.h Zi.h rfl rfl rfl rfl (fillI _) rfl rfl ?_
    intro w5 g5 e5 hg5 hz5 hown5
    skip
    refine TL_appendRow Us.h Inf.h rfl rfl rfl InC_one rfl rfl (ho2.ext (E4.ext e5)) (in_own hown5 rfl hg5 hz5).rd (e2.ext (E4.ext e5)).size (by simp only [List.length_cons, List.length_nil, List.length_map, List.length_take]; omega) rfl ?_
    intro w6 v6 c6 ho6
    repeat' (first | apply Jbq | apply Jbr | apply Jbt | apply Jbx | (apply Jcg; (first | exact Jaa rfl | exact Jab rfl | exact Jaf rfl rfl (by omega)); exact rfl))
    refine TN_round (k + 1, v6) (subEnv_cons rfl (subEnv_cons rfl (subEnv_cons rfl (subEnv_cons rfl (subEnv_cons rfl (subEnv_nil _)))))) ⟨hlt, Ext.then_iv (e2.ext (E4.ext e5)) c6 (Nat.le_refl _), ?_⟩ (by simp only; omega)
    simp only
    rw [List.take_succ_eq_append_getElem hlt, List.map_append]
    exact ho6
  · obtain rfl : k = d.kept.length := by omega
    rw [List.take_length] at ho2
    have hb2 := hb0.ext e2
    repeat' (first | apply Jbq | apply Jbr | apply Jbs | apply Jbt | apply Jby | apply Jca | apply Jcb | apply Jcc | (apply Jcg; (first | exact Jaa rfl | exact Jac Us.h rfl | (apply Jbl; exact Us.h; exact rfl; exact Sz.h; exact rfl)); exact rfl) | refine Jcg (Pu_load Fl.h rfl (fun _ e => by rw [e]; exact hb2.ld rfl)) rfl ?_)
    refine TC_loop (ι := Nat × Value) (fun x => [(3, x.2), (23, .slice At d.turns.length ct), (24, I d.turns.length), (25, I x.1)]) (fun x w' => x.1 ≤ d.turns.length ∧ Ext wb w' ∧ RowO InC 3 1 w' wb.heap.size w'.heap.size x.2 (d.kept.map (·.id) ++ ((d.turns.take x.1).filter (fun t => decide (t.kind = 1))).map (·.id))) (fun x => d.turns.length - x.1) (0, vo) (subEnv_cons rfl (subEnv_cons rfl (subEnv_cons rfl (subEnv_cons rfl (subEnv_nil _))))) ⟨Nat.zero_le _, e2, by simpa using ho2⟩ ?_
    rintro ⟨k, vo⟩ w2 ⟨hkk, e2, ho2⟩
    simp only at hkk ho2
    show TC _ _ _ _ [(3, vo), (23, .slice At d.turns.length ct), (24, I d.turns.length), (25, I (k : Int))] w2
    repeat' (first | apply Jbq | apply Jbr | apply Jbs | apply Jbt | (apply Jcg; exact Jad rfl rfl; exact rfl))
    refine Jcx rfl (fun hlt0 => ?_) (fun hge => ?_)
    · have hlt : k < d.turns.length := by omega
      have hct := crs_take hlt
      obtain ⟨ad, rfl, hcell⟩ := Rd.elem TnC_len (hrt.ext (E.ext e2)) hlt
      repeat' (first | apply Jbq | apply Jbr | apply Jbs | apply Jbt | apply Jby | apply Jbz | (apply Jcg; (first | exact Jak rfl rfl | exact Jar Us.h Sz.h rfl rfl (by omega) | (apply Jbl; exact Us.h; exact rfl; exact Sz.h; exact rfl)); exact rfl) | refine Jcg (Pu_loadAgg (cs := TnC d.turns[k]) Us.h rfl Sz.h rfl (fun _ e j u hu => by rw [e]; exact hcell j u hu)) rfl ?_ | (refine TL_alloc Zs.h rfl rfl ?_; intro w3 g3 e3 hg3 hz3 hb3) | (refine TL_storeAgg rfl rfl Sz.h rfl hb3 rfl ?_; intro w4 c4 hz4 hb4) | refine Jcg (Pu_load Fl.h rfl (fun _ e => by rw [e]; exact hb4.ld rfl)) rfl ?_)
      have E4 : Ext w2 w4 := Ext.then_iv e3 c4 (by omega)
      refine Jcx rfl (fun h1 => ?_) (fun h1 => ?_)
      · rw [if_pos h1] at hct
        repeat' (first | apply Jbt | (apply Jcg; (first | exact Jaa rfl | (apply Jbl; exact Us.h; exact rfl; exact Sz.h; exact rfl)); exact rfl) | refine Jcg (Pu_load Fl.h rfl (fun _ e => by rw [e]; exact hb4.ld rfl)) rfl ?_)
        refine TL_buildSlice Us.h Zi.h rfl rfl rfl rfl (fillI _) rfl rfl ?_
        intro w5 g5 e5 hg5 hz5 hown5
        skip
        refine TL_appendRow Us.h Inf.h rfl rfl rfl InC_one rfl rfl (ho2.ext (E4.ext e5)) (in_own hown5 rfl hg5 hz5).rd (e2.ext (E4.ext e5)).size (by simp only [List.length_append, List.length_cons, List.length_nil, List.length_map]; refine Nat.le_trans (Nat.add_le_add_right (Nat.add_le_add_left (List.length_filter_le _ _) _) _) ?_; rw [List.length_take]; omega) rfl ?_
        intro w6 v6 c6 ho6
        repeat' (first | apply Jbq | apply Jbr | apply Jbt | apply Jbx | (apply Jcg; (first | exact Jaa rfl | exact Jab rfl | exact Jaf rfl rfl (by omega)); exact rfl))
        refine TN_round (k + 1, v6) (subEnv_cons rfl (subEnv_cons rfl (subEnv_cons rfl (subEnv_cons rfl (subEnv_nil _))))) ⟨hlt, Ext.then_iv (e2.ext (E4.ext e5)) c6 (Nat.le_refl _), ?_⟩ (by simp only; omega)
        simp only
        rw [hct, ← List.append_assoc]
        exact ho6
      · rw [if_neg h1, List.append_nil] at hct
        repeat' (first | apply Jbq | apply Jbr | apply Jbt | apply Jbx | apply Jbz | (apply Jcg; (first | exact Jaa rfl | exact Jaf rfl rfl (by omega)); exact rfl))
        refine TN_round (k + 1, vo) (subEnv_cons rfl (subEnv_cons rfl (subEnv_cons rfl (subEnv_cons rfl (subEnv_nil _))))) ⟨hlt, e2.ext E4, ?_⟩ (by simp only; omega)
        simp only
        rw [hct]
        exact (ho2.ext E4).wide (Nat.le_refl _) E4.size (Nat.le_refl _)
    · obtain rfl : k = d.turns.length := by omega
      rw [List.take_length] at ho2
      repeat' (first | apply Jbq | apply Jbr | apply Jbs | apply Jbt | apply Jbu | apply Jca | apply Jcb | apply Jcc | (apply Jcg; (first | exact Jaa rfl | exact Jab rfl); exact rfl))
      exact TR_of (res1 rfl rfl) ⟨E.ext e2, ho2.wide hzb (Nat.le_refl _) (Nat.le_refl _)⟩
end Go.Proofs.YtggaghghclomkaaGreat
