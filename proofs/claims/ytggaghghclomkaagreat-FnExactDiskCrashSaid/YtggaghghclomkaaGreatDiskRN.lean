/- Lists of nodes, links and turns that can be read, and the laws' helpers on them. -/
import Derived.Test.YtggaghghclomkaaGreatDiskR
namespace Go.Proofs.YtggaghghclomkaaGreat
open Go.RowKit
attribute [local irreducible] TL TC TN TX TR TQ TA Pu Ret

/-! lists of Node -/
theorem NdC_len (d : Nd) : (NdC d).length = 3 := rfl
def totNd (l : List NodeP) : Int := (l.map NdW).sum
theorem NdW_nn (p : NodeP) : 0 ≤ NdW p := by unfold NdW; omega
theorem totNd_take {l : List NodeP} {k : Nat} (h : k < l.length) : totNd (l.take (k + 1)) = totNd (l.take k) + NdW l[k] := by
  unfold totNd
  rw [List.take_succ_eq_append_getElem h, List.map_append, List.sum_append]
  simp
theorem totNd_nn (l : List NodeP) : 0 ≤ totNd l := by
  induction l with
  | nil => simp [totNd]
  | cons a l ih => have := NdW_nn a; simp only [totNd, List.map_cons, List.sum_cons] at *; omega
theorem totNd_mem {l : List NodeP} {p : NodeP} (h : p ∈ l) : NdW p ≤ totNd l := by
  induction l with
  | nil => cases h
  | cons a l ih =>
    have := totNd_nn l
    have := NdW_nn a
    simp only [totNd, List.map_cons, List.sum_cons] at *
    rcases List.mem_cons.1 h with rfl | h
    · omega
    · have := ih h; omega
def RN (w : World) (lo hi : Nat) (v : Value) (l : List NodeP) : Prop := ∃ (ds : List Nd) (A : Option Addr) (c : Nat), ds.map NdP = l ∧ v = .slice A ds.length c ∧ ds.length ≤ c ∧ Rd w lo hi 3 A ds.length (cellsL NdC ds) ∧ ∀ d ∈ ds, NdOk w lo hi d
theorem RN.ch {w w' : World} {lo hi : Nat} {v : Value} {l : List NodeP} {T : Nat → Prop} (h : RN w lo hi v l) (c : Ch T w w') (hd : ∀ k, lo ≤ k → k < hi → ¬ T k) : RN w' lo hi v l := by
  obtain ⟨ds, A, cc, h1, h2, h3, h4, h5⟩ := h
  exact ⟨ds, A, cc, h1, h2, h3, h4.ch c hd, fun d hm => (h5 d hm).ch c hd⟩
theorem RN.ext {w w' : World} {lo hi : Nat} {v : Value} {l : List NodeP} (h : RN w lo hi v l) (c : Ext w w') : RN w' lo hi v l := h.ch c (fun _ _ _ t => t)
theorem RN.one {w : World} {lo hi : Nat} {v : Value} {l : List NodeP} (h : RN w lo hi v l) : v.oneCell' = true := by obtain ⟨_, _, _, _, rfl, _⟩ := h; rfl
theorem RN.wide {w : World} {lo hi lo' hi' : Nat} {v : Value} {l : List NodeP} (h : RN w lo hi v l) (h1 : lo' ≤ lo) (h2 : hi ≤ hi') (h3 : hi' ≤ w.heap.size) : RN w lo' hi' v l := by
  obtain ⟨ds, A, cc, g1, g2, g3, g4, g5⟩ := h
  exact ⟨ds, A, cc, g1, g2, g3, g4.wide h1 h2 h3, fun d hm => (g5 d hm).wide h1 h2 h3⟩
set_option maxHeartbeats 1000000 in
theorem szNodeS_k {w : World} {lo hi : Nat} {v : Value} {l : List NodeP} {left : Int} (h : RN w lo hi v l) (hlen : l.length ≤ 9223372036854775807) (h0 : 0 ≤ left) (h1 : left ≤ 1048576) (hd : ∀ p ∈ l, NdFit p) :
    Ret Tryz.prog 54 #[v, I left] w fun v w' => (v = I (-1) ∨ (v = I (left - l.length - totNd l) ∧ l.length + totNd l ≤ left)) ∧ Ext w w' := by
  obtain ⟨ds, A, c, rfl, rfl, _, hr, hok⟩ := h
  rw [List.length_map] at hlen ⊢
  refine Ret_enter Tryz.func54 rfl rfl rfl ?_
  repeat' (first | apply Jbq | apply Jbr | apply Jbs | apply Jbt | (apply Jcg; (first | exact Jaa rfl | exact Jab rfl | exact Jac Us.h rfl | exact Jad rfl rfl | exact Jap rfl rfl (by omega)); exact rfl))
  refine Jcx rfl (fun hb => ?_) (fun hb => ?_)
  · repeat' (first | apply Jbq | apply Jbr | apply Jbs | apply Jbt | apply Jbu | apply Jbv | (apply Jcg; exact Jab rfl; exact rfl))
    exact TR_of (res1 rfl rfl) ⟨.inl rfl, Ch.refl _ _⟩
  · repeat' (first | apply Jbq | apply Jbr | apply Jbs | apply Jbt | apply Jby | apply Jbz | (apply Jcg; exact Jab rfl; exact rfl))
    refine TC_loop (ι := Nat) (fun k => [(0, .slice A ds.length c), (1, I (left - ds.length - totNd ((ds.map NdP).take k))), (5, I k)]) (fun k w' => k ≤ ds.length ∧ ds.length + totNd ((ds.map NdP).take k) ≤ left ∧ Ext w w') (fun k => ds.length - k) 0
      (subEnv_cons rfl (subEnv_cons (congrArg (fun z => some (I z)) (by simp [totNd])) (subEnv_cons rfl (subEnv_nil _)))) ⟨Nat.zero_le _, by simp [totNd]; omega, Ch.refl _ _⟩ ?_
    intro k w2 ⟨hk, hle, e2⟩
    have hnn := totNd_nn ((ds.map NdP).take k)
    repeat' (first | apply Jbq | apply Jbr | apply Jbs | apply Jbt | (apply Jcg; (first | exact Jaa rfl | exact Jac Us.h rfl | exact Jad rfl rfl); exact rfl))
    refine Jcx rfl (fun hlt0 => ?_) (fun hge => ?_)
    · have hlt : k < ds.length := by omega
      obtain ⟨ad, rfl, hc⟩ := Rd.elem NdC_len (hr.ext e2) hlt
      have hmem := List.getElem_mem hlt
      have hdk := hd _ (List.mem_map_of_mem (f := NdP) hmem)
      have ht := totNd_take (l := ds.map NdP) (k := k) (by rw [List.length_map]; exact hlt)
      rw [List.getElem_map] at ht
      have hwn := NdW_nn (NdP ds[k])
      repeat' (first | apply Jbr | apply Jbs | apply Jbt | apply Jby | apply Jbz | (apply Jcg; (first | exact Jaa rfl | exact Jar Us.h Sz.h rfl rfl (by omega)); exact rfl) | refine Jcg (Pu_loadAgg (cs := NdC ds[k]) Us.h rfl Sz.h rfl (fun _ e j u hu => by rw [e]; exact hc j u hu)) rfl ?_)
      refine TL_call rfl en128 (szNode_c ((hok _ hmem).ch e2 (fun _ _ _ t => t)) hdk (by omega) (by omega)) rfl rfl ?_
      rintro _ w3 ⟨hv, e3⟩
      rcases hv with rfl | ⟨rfl, hle3⟩
      · repeat' (first | apply Jbq | apply Jbr | apply Jbs | apply Jbt | apply Jbu | apply Jbv | apply Jbw | (refine Jce rfl ?_) | (apply Jcg; (first | exact Jaa rfl | exact Jab rfl | exact Jad rfl rfl); exact rfl))
        exact TR_of (res1 rfl rfl) ⟨.inl rfl, e2.ext e3⟩
      · repeat' (first | apply Jbq | apply Jbr | apply Jbs | apply Jbt | apply Jbx | apply Jbz | (apply Jcg; (first | exact Jaa rfl | exact Jab rfl | exact Jad rfl rfl | exact Jaf rfl rfl (by omega)); exact rfl) | (refine Jcx rfl (fun hb => ?_) (fun hb => ?_) <;> (try (exfalso; omega))))
        exact TN_round (k + 1) (subEnv_cons rfl (subEnv_cons (congrArg (fun z => some (I z)) (by omega)) (subEnv_cons rfl (subEnv_nil _)))) ⟨hlt, by omega, e2.ext e3⟩ (by omega)
    · obtain rfl : k = ds.length := by omega
      rw [List.take_of_length_le (by simp)] at *
      repeat' (first | apply Jbq | apply Jbr | apply Jbs | apply Jbt | apply Jbu | apply Jca | apply Jcb | apply Jcc | (apply Jcg; (first | exact Jaa rfl | exact Jab rfl); exact rfl))
      exact TR_of (res1 rfl rfl) ⟨.inr ⟨rfl, hle⟩, e2⟩
set_option maxHeartbeats 1000000 in
theorem toNodeS_k {w : World} {lo hi : Nat} {v : Value} {l : List NodeP} (h : RN w lo hi v l) (hl : l.length + totNd l ≤ 1048576) :
    Ret Tryz.prog 62 #[v] w fun v' w' => Ext w w' ∧ RN w' w.heap.size w'.heap.size v' l := by
  obtain ⟨ds, A, c, rfl, rfl, _, hr, hok⟩ := h
  have hnn := totNd_nn (ds.map NdP)
  rw [List.length_map] at hl
  refine Ret_enter Tryz.func62 rfl rfl rfl ?_
  repeat' (first | apply Jbq | apply Jbr | apply Jbs | apply Jbt | (apply Jcg; (first | exact Jaa rfl | exact Jab rfl | exact Jac Us.h rfl); exact rfl))
  refine TL_make Us.h Inf.h rfl rfl (by omega) (by omega) (by omega) rfl ?_
  intro w1 g e1 hg hz1 hown
  repeat' (first | apply Jbq | apply Jbr | apply Jbs | apply Jbt | apply Jby | (apply Jcg; exact Jab rfl; exact rfl))
  obtain ⟨xs, hxs⟩ : ∃ xs, xs = (madeCells (Value.cells (.agg #[.int .i64 0, .slice none 0 0, .slice none 0 0])) ((ds.length : Int).toNat * 3)).toList := ⟨_, rfl⟩
  rw [← hxs] at hown
  have hxl : xs.length = ds.length * 3 := by have := hown.len; simpa using this
  refine TC_loop (ι := Nat × List Nd) (fun x => [(0, .slice A ds.length c), (3, .slice (some ⟨g, 0, none⟩) ds.length ds.length), (4, I x.1)])
    (fun x w' => x.1 ≤ ds.length ∧ x.2.map NdP = (ds.map NdP).take x.1 ∧ x.2.length = x.1 ∧ Ext w w' ∧ Own w' g (g + 1) 98 3 (some ⟨g, 0, none⟩) ds.length ds.length (cellsL NdC x.2 ++ xs.drop (x.1 * 3)) ∧ ∀ d ∈ x.2, NdOk w' (g + 1) w'.heap.size d) (fun x => ds.length - x.1) (0, [])
    (subEnv_cons rfl (subEnv_cons rfl (subEnv_cons rfl (subEnv_nil _)))) ⟨Nat.zero_le _, by simp, rfl, e1, by simpa [cellsL] using hown, by simp⟩ ?_
  rintro ⟨k, ys⟩ w2 ⟨hk, hys, hyl, e2, hown2, hok2⟩
  simp only at hk hys hyl hown2 hok2
  repeat' (first | apply Jbq | apply Jbr | apply Jbs | apply Jbt | (apply Jcg; (first | exact Jaa rfl | exact Jac Us.h rfl | exact Jad rfl rfl); exact rfl))
  refine Jcx rfl (fun hlt0 => ?_) (fun hge => ?_)
  · have hlt : k < ds.length := by omega
    obtain ⟨ad, rfl, hc⟩ := Rd.elem NdC_len (hr.ext e2) hlt
    have hmem := List.getElem_mem hlt
    have hwk := totNd_mem (List.mem_map_of_mem (f := NdP) hmem)
    repeat' (first | apply Jbr | apply Jbs | apply Jbt | apply Jby | apply Jbz | (apply Jcg; (first | exact Jaa rfl | exact Jar Us.h Sz.h rfl rfl (by omega)); exact rfl) | refine Jcg (Pu_loadAgg (cs := NdC ds[k]) Us.h rfl Sz.h rfl (fun _ e j u hu => by rw [e]; exact hc j u hu)) rfl ?_)
    refine TL_call rfl en136 (toNode_c ((hok _ hmem).ch e2 (fun _ _ _ t => t)) (by omega)) rfl rfl ?_
    rintro _ w3 ⟨d', rfl, hp3, e3, hok3⟩
    have hcl : (cellsL NdC ys).length = k * 3 := by rw [cellsL_length NdC_len, hyl]
    have hgl := hown2.hi_le
    have hs3 := e3.size
    repeat' ((apply Jcg; exact Jar Us.h Sz.h rfl rfl (by omega); exact rfl))
    refine TL_storeOwnAgg rfl (add0 g (k * 3)) rfl Sz.h hok3.one (hown2.ext e3) (by rw [NdC_len]; omega) ?_
    intro w4 c4 hz4 hown4
    rw [setL_app _ _ _ _ hcl (by rw [NdC_len, List.length_drop]; omega), List.drop_drop, NdC_len] at hown4
    repeat' (first | apply Jbq | apply Jbr | apply Jbt | apply Jbx | (apply Jcg; (first | exact Jaa rfl | exact Jab rfl | exact Jaf rfl rfl (by omega)); exact rfl))
    refine TN_round (k + 1, ys ++ [d']) (subEnv_cons rfl (subEnv_cons rfl (subEnv_cons rfl (subEnv_nil _)))) ⟨hlt, ?_, by simp [hyl], Ext.then_iv (e2.ext e3) c4 (by omega), ?_, ?_⟩ (by simp only; omega)
    · rw [List.map_append, hys, List.take_succ_eq_append_getElem (by rw [List.length_map]; exact hlt)]; simp [hp3]
    · rw [cellsL_append]
      have : cellsL NdC [d'] = NdC d' := by simp [cellsL]
      rw [this, Nat.succ_mul]
      exact hown4
    · intro x hx
      rcases List.mem_append.1 hx with hx | hx
      · exact (((hok2 x hx).ch e3 (fun _ _ _ t => t)).ch c4 (by intro j _ _; simp only [Iv]; omega)).wide (Nat.le_refl _) (by omega) (Nat.le_refl _)
      · rw [List.mem_singleton.1 hx]
        exact (hok3.ch c4 (by intro j _ _; simp only [Iv]; omega)).wide (by omega) (by omega) (Nat.le_refl _)
  · obtain rfl : k = ds.length := by omega
    rw [List.drop_eq_nil_of_le (by omega), List.append_nil] at hown2
    rw [List.take_of_length_le (by simp)] at hys
    repeat' (first | apply Jbq | apply Jbr | apply Jbs | apply Jbt | apply Jbu | apply Jca | apply Jcb | apply Jcc | (apply Jcg; (first | exact Jaa rfl | exact Jab rfl); exact rfl))
    have hh := hown2.hi_le
    refine TR_of (res1 rfl rfl) ⟨e2, ys, some ⟨g, 0, none⟩, ds.length, hys, by rw [hyl], by omega, ?_, fun d hm => (hok2 d hm).wide (by omega) (Nat.le_refl _) (Nat.le_refl _)⟩
    rw [hyl]
    exact hown2.rd.wide (by omega) hh (Nat.le_refl _)
set_option maxHeartbeats 1000000 in
theorem eqNodeS_k {w : World} {lo hi lo2 hi2 : Nat} {v v2 : Value} {l : List NodeP} (h : RN w lo hi v l) (h2 : RN w lo2 hi2 v2 l) (hl : l.length + totNd l ≤ 1048576) :
    Ret Tryz.prog 72 #[v, v2] w fun v' w' => v' = .bool true ∧ Ext w w' := by
  obtain ⟨ds, A, c, rfl, rfl, _, hr, hok⟩ := h
  obtain ⟨ds2, A2, c2, hm2, rfl, _, hr2, hok2⟩ := h2
  have hnn := totNd_nn (ds.map NdP)
  have hll : ds2.length = ds.length := by have := congrArg List.length hm2; simpa using this
  rw [List.length_map] at hl
  rw [hll] at hr2 ⊢
  refine Ret_enter Tryz.func72 rfl rfl rfl ?_
  repeat' (first | apply Jbq | apply Jbr | apply Jbs | apply Jbt | apply Jby | apply Jbz | (refine Jcf rfl ?_) | (apply Jcg; (first | exact Jbm rfl rfl | exact Jaa rfl | exact Jab rfl | exact Jac Us.h rfl); exact rfl))
  refine TC_loop (ι := Nat) (fun k => [(0, .slice A ds.length c), (1, .slice A2 ds.length c2), (5, I k)]) (fun k w' => k ≤ ds.length ∧ Ext w w') (fun k => ds.length - k) 0 (subEnv_cons rfl (subEnv_cons rfl (subEnv_cons rfl (subEnv_nil _)))) ⟨Nat.zero_le _, Ch.refl _ _⟩ ?_
  intro k w2 ⟨hk, e2⟩
  repeat' (first | apply Jbq | apply Jbr | apply Jbs | apply Jbt | (apply Jcg; (first | exact Jaa rfl | exact Jac Us.h rfl | exact Jad rfl rfl); exact rfl))
  refine Jcx rfl (fun hlt0 => ?_) (fun hge => ?_)
  · have hlt : k < ds.length := by omega
    have hlt2 : k < ds2.length := by omega
    obtain ⟨ad, rfl, hc⟩ := Rd.elem NdC_len (hr.ext e2) hlt
    obtain ⟨ad2, rfl, hc2⟩ := Rd.elem (l := ds2) NdC_len (by rw [hll]; exact hr2.ext e2) hlt2
    have hpk : NdP ds[k] = NdP ds2[k] := by
      have := congrArg (fun l => l[k]?) hm2
      simp only [List.getElem?_map, List.getElem?_eq_getElem hlt, List.getElem?_eq_getElem hlt2, Option.map_some, Option.some.injEq] at this
      exact this.symm
    have hwk := totNd_mem (List.mem_map_of_mem (f := NdP) (List.getElem_mem hlt))
    repeat' (first | apply Jbr | apply Jbs | apply Jby | apply Jbz)
    refine TC_any mixed rfl ?_
    intro w3 hE hz3
    have E3 := e2.ext hE
    (refine Jco 0 rfl (by kernel_rfl) (by kernel_rfl) (by kernel_rfl) (fun _ _ _ h => h) hE (by exact Jaa rfl) rfl ?_; refine Jco 1 rfl (by kernel_rfl) (by kernel_rfl) (by kernel_rfl) (fun _ _ _ h => h) hE (by exact Jaa rfl) rfl ?_; refine Jco 2 rfl (by kernel_rfl) (by kernel_rfl) (by kernel_rfl) (fun _ _ _ h => h) hE (by exact Jar Us.h Sz.h rfl rfl (by omega)) rfl ?_; refine Jco 3 rfl (by kernel_rfl) (by kernel_rfl) (by kernel_rfl) (fun _ _ _ h => h) hE (by exact Pu_loadAgg (cs := NdC ds[k]) Us.h rfl Sz.h rfl (fun w' e j u hu => Ext.cell e (hc j u hu))) rfl ?_; refine Jco 4 rfl (by kernel_rfl) (by kernel_rfl) (by kernel_rfl) (fun _ _ _ h => h) hE (by exact Jaa rfl) rfl ?_; refine Jco 5 rfl (by kernel_rfl) (by kernel_rfl) (by kernel_rfl) (fun _ _ _ h => h) hE (by exact Jaa rfl) rfl ?_; refine Jco 6 rfl (by kernel_rfl) (by kernel_rfl) (by kernel_rfl) (fun _ _ _ h => h) hE (by exact Jar Us.h Sz.h rfl rfl (by omega)) rfl ?_; refine Jco 7 rfl (by kernel_rfl) (by kernel_rfl) (by kernel_rfl) (fun _ _ _ h => h) hE (by exact Pu_loadAgg (cs := NdC ds2[k]) Us.h rfl Sz.h rfl (fun w' e j u hu => Ext.cell e (hc2 j u hu))) rfl ?_)
    refine TA_one 8 (by kernel_rfl) rfl ?_
    refine TL_call rfl en147 (eqNode_c ((hok _ (List.getElem_mem hlt)).ch E3 (fun _ _ _ t => t)) ((hok2 _ (List.getElem_mem hlt2)).ch E3 (fun _ _ _ t => t)) hpk (by omega)) rfl rfl ?_
    rintro _ w4 ⟨rfl, e4⟩
    replace hE := hE.ext e4
    refine Jbq (TN_any hE ?_)
    (refine Jco 9 rfl (by kernel_rfl) (by kernel_rfl) (by kernel_rfl) (fun _ _ _ h => h) hE (by exact Jaj rfl) rfl ?_)
    refine TA_done (by kernel_rfl) ?_
    repeat' (first | apply Jbq | apply Jbr | apply Jbt | apply Jbx | apply Jbz | (refine Jcf rfl ?_) | (apply Jcg; (first | exact Jaa rfl | exact Jab rfl | exact Jaf rfl rfl (by omega)); exact rfl))
    exact TN_round (k + 1) (subEnv_cons rfl (subEnv_cons rfl (subEnv_cons rfl (subEnv_nil _)))) ⟨hlt, e2.ext hE⟩ (by omega)
  · repeat' (first | apply Jbq | apply Jbr | apply Jbs | apply Jbt | apply Jbu | apply Jca | apply Jcb | apply Jcc | (apply Jcg; exact Jab rfl; exact rfl))
    exact TR_of (res1 rfl rfl) ⟨rfl, e2⟩
end Go.Proofs.YtggaghghclomkaaGreat
