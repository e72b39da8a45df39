/- Texts of this proof laid together, in the order in which they build; what each proves stands ahead of it. No condition but those told there. -/
import Derived.Test.YtggaghghclomkaaGreatQFEOFT25b
import Derived.Maps.OwnSet
import Derived.WideShapes
import Derived.Carry
import Derived.WalkArith

/- Lists of nodes, links and turns that can be read, and the laws' helpers on them. -/
namespace Go.Proofs.YtggaghghclomkaaGreat
open Go.RowKit
attribute [local irreducible] TL TC TN TX TR TQ TA Pu Ret

/-! lists of Node -/
theorem NdC_len (d : Nd) : (NdC d).length = 3 := rfl
def totNd (l : List NodeP) : Int := (l.map NdW).sum
theorem NdW_nn (p : NodeP) : 0 ≤ NdW p := by unfold NdW; omega
theorem totNd_take {l : List NodeP} {k : Nat} (h : k < l.length) : totNd (l.take (k + 1)) = totNd (l.take k) + NdW l[k] := by
  unfold totNd
  rw [List.take_succ_eq_append_getElem h, List.map_append, List.sum_append]
  simp
theorem totNd_nn (l : List NodeP) : 0 ≤ totNd l := by
  induction l with
  | nil => simp [totNd]
  | cons a l ih => have := NdW_nn a; simp only [totNd, List.map_cons, List.sum_cons] at *; omega
theorem totNd_mem {l : List NodeP} {p : NodeP} (h : p ∈ l) : NdW p ≤ totNd l := by
  induction l with
  | nil => cases h
  | cons a l ih =>
    have := totNd_nn l
    have := NdW_nn a
    simp only [totNd, List.map_cons, List.sum_cons] at *
    rcases List.mem_cons.1 h with rfl | h
    · omega
    · have := ih h; omega
def RN (w : World) (lo hi : Nat) (v : Value) (l : List NodeP) : Prop := ∃ (ds : List Nd) (A : Option Addr) (c : Nat), ds.map NdP = l ∧ v = .slice A ds.length c ∧ ds.length ≤ c ∧ Rd w lo hi 3 A ds.length (cellsL NdC ds) ∧ ∀ d ∈ ds, NdOk w lo hi d
theorem RN.ch {w w' : World} {lo hi : Nat} {v : Value} {l : List NodeP} {T : Nat → Prop} (h : RN w lo hi v l) (c : Ch T w w') (hd : ∀ k, lo ≤ k → k < hi → ¬ T k) : RN w' lo hi v l := by
  obtain ⟨ds, A, cc, h1, h2, h3, h4, h5⟩ := h
  exact ⟨ds, A, cc, h1, h2, h3, h4.ch c hd, fun d hm => (h5 d hm).ch c hd⟩
theorem RN.ext {w w' : World} {lo hi : Nat} {v : Value} {l : List NodeP} (h : RN w lo hi v l) (c : Ext w w') : RN w' lo hi v l := h.ch c (fun _ _ _ t => t)
theorem RN.one {w : World} {lo hi : Nat} {v : Value} {l : List NodeP} (h : RN w lo hi v l) : v.oneCell' = true := by obtain ⟨_, _, _, _, rfl, _⟩ := h; rfl
theorem RN.wide {w : World} {lo hi lo' hi' : Nat} {v : Value} {l : List NodeP} (h : RN w lo hi v l) (h1 : lo' ≤ lo) (h2 : hi ≤ hi') (h3 : hi' ≤ w.heap.size) : RN w lo' hi' v l := by
  obtain ⟨ds, A, cc, g1, g2, g3, g4, g5⟩ := h
  exact ⟨ds, A, cc, g1, g2, g3, g4.wide h1 h2 h3, fun d hm => (g5 d hm).wide h1 h2 h3⟩
set_option maxHeartbeats 1000000 in
theorem szNodeS_k {w : World} {lo hi : Nat} {v : Value} {l : List NodeP} {left : Int} (h : RN w lo hi v l) (hlen : l.length ≤ 9223372036854775807) (h0 : 0 ≤ left) (h1 : left ≤ 1048576) (hd : ∀ p ∈ l, NdFit p) :
    Ret Tryz.prog 54 #[v, I left] w fun v w' => (v = I (-1) ∨ (v = I (left - l.length - totNd l) ∧ l.length + totNd l ≤ left)) ∧ Ext w w' := by
  obtain ⟨ds, A, c, rfl, rfl, _, hr, hok⟩ := h
  rw [List.length_map] at hlen ⊢
  refine Ret_enter Tryz.func54 rfl rfl rfl ?_
  repeat' (first | apply Jbq | apply Jbr | apply Jbs | apply Jbt | (apply Jcg; (first | exact Jaa rfl | exact Jab rfl | exact Jac Us.h rfl | exact Jad rfl rfl | exact Jap rfl rfl (by omega)); exact rfl))
  refine Jcx rfl (fun hb => ?_) (fun hb => ?_)
  · repeat' (first | apply Jbq | apply Jbr | apply Jbs | apply Jbt | apply Jbu | apply Jbv | (apply Jcg; exact Jab rfl; exact rfl))
    exact TR_of (res1 rfl rfl) ⟨.inl rfl, Ch.refl _ _⟩
  · repeat' (first | apply Jbq | apply Jbr | apply Jbs | apply Jbt | apply Jby | apply Jbz | (apply Jcg; exact Jab rfl; exact rfl))
    refine TC_loop (ι := Nat) (fun k => [(0, .slice A ds.length c), (1, I (left - ds.length - totNd ((ds.map NdP).take k))), (5, I k)]) (fun k w' => k ≤ ds.length ∧ ds.length + totNd ((ds.map NdP).take k) ≤ left ∧ Ext w w') (fun k => ds.length - k) 0
      (subEnv_cons rfl (subEnv_cons (congrArg (fun z => some (I z)) (by simp [totNd])) (subEnv_cons rfl (subEnv_nil _)))) ⟨Nat.zero_le _, by simp [totNd]; omega, Ch.refl _ _⟩ ?_
    intro k w2 ⟨hk, hle, e2⟩
    have hnn := totNd_nn ((ds.map NdP).take k)
    repeat' (first | apply Jbq | apply Jbr | apply Jbs | apply Jbt | (apply Jcg; (first | exact Jaa rfl | exact Jac Us.h rfl | exact Jad rfl rfl); exact rfl))
    refine Jcx rfl (fun hlt0 => ?_) (fun hge => ?_)
    · have hlt : k < ds.length := by omega
      obtain ⟨ad, rfl, hc⟩ := Rd.elem NdC_len (hr.ext e2) hlt
      have hmem := List.getElem_mem hlt
      have hdk := hd _ (List.mem_map_of_mem (f := NdP) hmem)
      have ht := totNd_take (l := ds.map NdP) (k := k) (by rw [List.length_map]; exact hlt)
      rw [List.getElem_map] at ht
      have hwn := NdW_nn (NdP ds[k])
      repeat' (first | apply Jbr | apply Jbs | apply Jbt | apply Jby | apply Jbz | (apply Jcg; (first | exact Jaa rfl | exact Jar Us.h Sz.h rfl rfl (by omega)); exact rfl) | refine Jcg (Pu_loadAgg (cs := NdC ds[k]) Us.h rfl Sz.h rfl (fun _ e j u hu => by rw [e]; exact hc j u hu)) rfl ?_)
      refine TL_call rfl en128 (szNode_c ((hok _ hmem).ch e2 (fun _ _ _ t => t)) hdk (by omega) (by omega)) rfl rfl ?_
      rintro _ w3 ⟨hv, e3⟩
      rcases hv with rfl | ⟨rfl, hle3⟩
      · repeat' (first | apply Jbq | apply Jbr | apply Jbs | apply Jbt | apply Jbu | apply Jbv | apply Jbw | (refine Jce rfl ?_) | (apply Jcg; (first | exact Jaa rfl | exact Jab rfl | exact Jad rfl rfl); exact rfl))
        exact TR_of (res1 rfl rfl) ⟨.inl rfl, e2.ext e3⟩
      · repeat' (first | apply Jbq | apply Jbr | apply Jbs | apply Jbt | apply Jbx | apply Jbz | (apply Jcg; (first | exact Jaa rfl | exact Jab rfl | exact Jad rfl rfl | exact Jaf rfl rfl (by omega)); exact rfl) | (refine Jcx rfl (fun hb => ?_) (fun hb => ?_) <;> (try (exfalso; omega))))
        exact TN_round (k + 1) (subEnv_cons rfl (subEnv_cons (congrArg (fun z => some (I z)) (by omega)) (subEnv_cons rfl (subEnv_nil _)))) ⟨hlt, by omega, e2.ext e3⟩ (by omega)
    · obtain rfl : k = ds.length := by omega
      rw [List.take_of_length_le (by simp)] at *
      repeat' (first | apply Jbq | apply Jbr | apply Jbs | apply Jbt | apply Jbu | apply Jca | apply Jcb | apply Jcc | (apply Jcg; (first | exact Jaa rfl | exact Jab rfl); exact rfl))
      exact TR_of (res1 rfl rfl) ⟨.inr ⟨rfl, hle⟩, e2⟩
set_option maxHeartbeats 1000000 in
theorem toNodeS_k {w : World} {lo hi : Nat} {v : Value} {l : List NodeP} (h : RN w lo hi v l) (hl : l.length + totNd l ≤ 1048576) :
    Ret Tryz.prog 62 #[v] w fun v' w' => Ext w w' ∧ RN w' w.heap.size w'.heap.size v' l := by
  obtain ⟨ds, A, c, rfl, rfl, _, hr, hok⟩ := h
  have hnn := totNd_nn (ds.map NdP)
  rw [List.length_map] at hl
  refine Ret_enter Tryz.func62 rfl rfl rfl ?_
  repeat' (first | apply Jbq | apply Jbr | apply Jbs | apply Jbt | (apply Jcg; (first | exact Jaa rfl | exact Jab rfl | exact Jac Us.h rfl); exact rfl))
  refine TL_make Us.h Inf.h rfl rfl (by omega) (by omega) (by omega) rfl ?_
  intro w1 g e1 hg hz1 hown
  repeat' (first | apply Jbq | apply Jbr | apply Jbs | apply Jbt | apply Jby | (apply Jcg; exact Jab rfl; exact rfl))
  obtain ⟨xs, hxs⟩ : ∃ xs, xs = (madeCells (Value.cells (.agg #[.int .i64 0, .slice none 0 0, .slice none 0 0])) ((ds.length : Int).toNat * 3)).toList := ⟨_, rfl⟩
  rw [← hxs] at hown
  have hxl : xs.length = ds.length * 3 := by have := hown.len; simpa using this
  refine TC_loop (ι := Nat × List Nd) (fun x => [(0, .slice A ds.length c), (3, .slice (some ⟨g, 0, none⟩) ds.length ds.length), (4, I x.1)])
    (fun x w' => x.1 ≤ ds.length ∧ x.2.map NdP = (ds.map NdP).take x.1 ∧ x.2.length = x.1 ∧ Ext w w' ∧ Own w' g (g + 1) 98 3 (some ⟨g, 0, none⟩) ds.length ds.length (cellsL NdC x.2 ++ xs.drop (x.1 * 3)) ∧ ∀ d ∈ x.2, NdOk w' (g + 1) w'.heap.size d) (fun x => ds.length - x.1) (0, [])
    (subEnv_cons rfl (subEnv_cons rfl (subEnv_cons rfl (subEnv_nil _)))) ⟨Nat.zero_le _, by simp, rfl, e1, by simpa [cellsL] using hown, by simp⟩ ?_
  rintro ⟨k, ys⟩ w2 ⟨hk, hys, hyl, e2, hown2, hok2⟩
  simp only at hk hys hyl hown2 hok2
  repeat' (first | apply Jbq | apply Jbr | apply Jbs | apply Jbt | (apply Jcg; (first | exact Jaa rfl | exact Jac Us.h rfl | exact Jad rfl rfl); exact rfl))
  refine Jcx rfl (fun hlt0 => ?_) (fun hge => ?_)
  · have hlt : k < ds.length := by omega
    obtain ⟨ad, rfl, hc⟩ := Rd.elem NdC_len (hr.ext e2) hlt
    have hmem := List.getElem_mem hlt
    have hwk := totNd_mem (List.mem_map_of_mem (f := NdP) hmem)
    repeat' (first | apply Jbr | apply Jbs | apply Jbt | apply Jby | apply Jbz | (apply Jcg; (first | exact Jaa rfl | exact Jar Us.h Sz.h rfl rfl (by omega)); exact rfl) | refine Jcg (Pu_loadAgg (cs := NdC ds[k]) Us.h rfl Sz.h rfl (fun _ e j u hu => by rw [e]; exact hc j u hu)) rfl ?_)
    refine TL_call rfl en136 (toNode_c ((hok _ hmem).ch e2 (fun _ _ _ t => t)) (by omega)) rfl rfl ?_
    rintro _ w3 ⟨d', rfl, hp3, e3, hok3⟩
    have hcl : (cellsL NdC ys).length = k * 3 := by rw [cellsL_length NdC_len, hyl]
    have hgl := hown2.hi_le
    have hs3 := e3.size
    repeat' ((apply Jcg; exact Jar Us.h Sz.h rfl rfl (by omega); exact rfl))
    refine TL_storeOwnAgg rfl (add0 g (k * 3)) rfl Sz.h hok3.one (hown2.ext e3) (by rw [NdC_len]; omega) ?_
    intro w4 c4 hz4 hown4
    rw [setL_app _ _ _ _ hcl (by rw [NdC_len, List.length_drop]; omega), List.drop_drop, NdC_len] at hown4
    repeat' (first | apply Jbq | apply Jbr | apply Jbt | apply Jbx | (apply Jcg; (first | exact Jaa rfl | exact Jab rfl | exact Jaf rfl rfl (by omega)); exact rfl))
    refine TN_round (k + 1, ys ++ [d']) (subEnv_cons rfl (subEnv_cons rfl (subEnv_cons rfl (subEnv_nil _)))) ⟨hlt, ?_, by simp [hyl], Ext.then_iv (e2.ext e3) c4 (by omega), ?_, ?_⟩ (by simp only; omega)
    · rw [List.map_append, hys, List.take_succ_eq_append_getElem (by rw [List.length_map]; exact hlt)]; simp [hp3]
    · rw [cellsL_append]
      have : cellsL NdC [d'] = NdC d' := by simp [cellsL]
      rw [this, Nat.succ_mul]
      exact hown4
    · intro x hx
      rcases List.mem_append.1 hx with hx | hx
      · exact (((hok2 x hx).ch e3 (fun _ _ _ t => t)).ch c4 (by intro j _ _; simp only [Iv]; omega)).wide (Nat.le_refl _) (by omega) (Nat.le_refl _)
      · rw [List.mem_singleton.1 hx]
        exact (hok3.ch c4 (by intro j _ _; simp only [Iv]; omega)).wide (by omega) (by omega) (Nat.le_refl _)
  · obtain rfl : k = ds.length := by omega
    rw [List.drop_eq_nil_of_le (by omega), List.append_nil] at hown2
    rw [List.take_of_length_le (by simp)] at hys
    repeat' (first | apply Jbq | apply Jbr | apply Jbs | apply Jbt | apply Jbu | apply Jca | apply Jcb | apply Jcc | (apply Jcg; (first | exact Jaa rfl | exact Jab rfl); exact rfl))
    have hh := hown2.hi_le
    refine TR_of (res1 rfl rfl) ⟨e2, ys, some ⟨g, 0, none⟩, ds.length, hys, by rw [hyl], by omega, ?_, fun d hm => (hok2 d hm).wide (by omega) (Nat.le_refl _) (Nat.le_refl _)⟩
    rw [hyl]
    exact hown2.rd.wide (by omega) hh (Nat.le_refl _)
set_option maxHeartbeats 1000000 in
theorem eqNodeS_k {w : World} {lo hi lo2 hi2 : Nat} {v v2 : Value} {l : List NodeP} (h : RN w lo hi v l) (h2 : RN w lo2 hi2 v2 l) (hl : l.length + totNd l ≤ 1048576) :
    Ret Tryz.prog 72 #[v, v2] w fun v' w' => v' = .bool true ∧ Ext w w' := by
  obtain ⟨ds, A, c, rfl, rfl, _, hr, hok⟩ := h
  obtain ⟨ds2, A2, c2, hm2, rfl, _, hr2, hok2⟩ := h2
  have hnn := totNd_nn (ds.map NdP)
  have hll : ds2.length = ds.length := by have := congrArg List.length hm2; simpa using this
  rw [List.length_map] at hl
  rw [hll] at hr2 ⊢
  refine Ret_enter Tryz.func72 rfl rfl rfl ?_
  repeat' (first | apply Jbq | apply Jbr | apply Jbs | apply Jbt | apply Jby | apply Jbz | (refine Jcf rfl ?_) | (apply Jcg; (first | exact Jbm rfl rfl | exact Jaa rfl | exact Jab rfl | exact Jac Us.h rfl); exact rfl))
  refine TC_loop (ι := Nat) (fun k => [(0, .slice A ds.length c), (1, .slice A2 ds.length c2), (5, I k)]) (fun k w' => k ≤ ds.length ∧ Ext w w') (fun k => ds.length - k) 0 (subEnv_cons rfl (subEnv_cons rfl (subEnv_cons rfl (subEnv_nil _)))) ⟨Nat.zero_le _, Ch.refl _ _⟩ ?_
  intro k w2 ⟨hk, e2⟩
  repeat' (first | apply Jbq | apply Jbr | apply Jbs | apply Jbt | (apply Jcg; (first | exact Jaa rfl | exact Jac Us.h rfl | exact Jad rfl rfl); exact rfl))
  refine Jcx rfl (fun hlt0 => ?_) (fun hge => ?_)
  · have hlt : k < ds.length := by omega
    have hlt2 : k < ds2.length := by omega
    obtain ⟨ad, rfl, hc⟩ := Rd.elem NdC_len (hr.ext e2) hlt
    obtain ⟨ad2, rfl, hc2⟩ := Rd.elem (l := ds2) NdC_len (by rw [hll]; exact hr2.ext e2) hlt2
    have hpk : NdP ds[k] = NdP ds2[k] := by
      have := congrArg (fun l => l[k]?) hm2
      simp only [List.getElem?_map, List.getElem?_eq_getElem hlt, List.getElem?_eq_getElem hlt2, Option.map_some, Option.some.injEq] at this
      exact this.symm
    have hwk := totNd_mem (List.mem_map_of_mem (f := NdP) (List.getElem_mem hlt))
    repeat' (first | apply Jbr | apply Jbs | apply Jby | apply Jbz)
    refine TC_any mixed rfl ?_
    intro w3 hE hz3
    have E3 := e2.ext hE
    (refine Jco 0 rfl (by kernel_rfl) (by kernel_rfl) (by kernel_rfl) (fun _ _ _ h => h) hE (by exact Jaa rfl) rfl ?_; refine Jco 1 rfl (by kernel_rfl) (by kernel_rfl) (by kernel_rfl) (fun _ _ _ h => h) hE (by exact Jaa rfl) rfl ?_; refine Jco 2 rfl (by kernel_rfl) (by kernel_rfl) (by kernel_rfl) (fun _ _ _ h => h) hE (by exact Jar Us.h Sz.h rfl rfl (by omega)) rfl ?_; refine Jco 3 rfl (by kernel_rfl) (by kernel_rfl) (by kernel_rfl) (fun _ _ _ h => h) hE (by exact Pu_loadAgg (cs := NdC ds[k]) Us.h rfl Sz.h rfl (fun w' e j u hu => Ext.cell e (hc j u hu))) rfl ?_; refine Jco 4 rfl (by kernel_rfl) (by kernel_rfl) (by kernel_rfl) (fun _ _ _ h => h) hE (by exact Jaa rfl) rfl ?_; refine Jco 5 rfl (by kernel_rfl) (by kernel_rfl) (by kernel_rfl) (fun _ _ _ h => h) hE (by exact Jaa rfl) rfl ?_; refine Jco 6 rfl (by kernel_rfl) (by kernel_rfl) (by kernel_rfl) (fun _ _ _ h => h) hE (by exact Jar Us.h Sz.h rfl rfl (by omega)) rfl ?_; refine Jco 7 rfl (by kernel_rfl) (by kernel_rfl) (by kernel_rfl) (fun _ _ _ h => h) hE (by exact Pu_loadAgg (cs := NdC ds2[k]) Us.h rfl Sz.h rfl (fun w' e j u hu => Ext.cell e (hc2 j u hu))) rfl ?_)
    refine TA_one 8 (by kernel_rfl) rfl ?_
    refine TL_call rfl en147 (eqNode_c ((hok _ (List.getElem_mem hlt)).ch E3 (fun _ _ _ t => t)) ((hok2 _ (List.getElem_mem hlt2)).ch E3 (fun _ _ _ t => t)) hpk (by omega)) rfl rfl ?_
    rintro _ w4 ⟨rfl, e4⟩
    replace hE := hE.ext e4
    refine Jbq (TN_any hE ?_)
    (refine Jco 9 rfl (by kernel_rfl) (by kernel_rfl) (by kernel_rfl) (fun _ _ _ h => h) hE (by exact Jaj rfl) rfl ?_)
    refine TA_done (by kernel_rfl) ?_
    repeat' (first | apply Jbq | apply Jbr | apply Jbt | apply Jbx | apply Jbz | (refine Jcf rfl ?_) | (apply Jcg; (first | exact Jaa rfl | exact Jab rfl | exact Jaf rfl rfl (by omega)); exact rfl))
    exact TN_round (k + 1) (subEnv_cons rfl (subEnv_cons rfl (subEnv_cons rfl (subEnv_nil _)))) ⟨hlt, e2.ext hE⟩ (by omega)
  · repeat' (first | apply Jbq | apply Jbr | apply Jbs | apply Jbt | apply Jbu | apply Jca | apply Jcb | apply Jcc | (apply Jcg; exact Jab rfl; exact rfl))
    exact TR_of (res1 rfl rfl) ⟨rfl, e2⟩
end Go.Proofs.YtggaghghclomkaaGreat

/- Lists of nodes, links and turns that can be read, and the laws' helpers on them. -/
namespace Go.Proofs.YtggaghghclomkaaGreat
open Go.RowKit
attribute [local irreducible] TL TC TN TX TR TQ TA Pu Ret

/-! lists of Link -/
theorem LkC_len (d : LkD) : (LkC d).length = 2 := rfl
def totLk (l : List LinkP) : Int := (l.map LkW).sum
theorem LkW_nn (p : LinkP) : 0 ≤ LkW p := by unfold LkW; omega
theorem totLk_take {l : List LinkP} {k : Nat} (h : k < l.length) : totLk (l.take (k + 1)) = totLk (l.take k) + LkW l[k] := by
  unfold totLk
  rw [List.take_succ_eq_append_getElem h, List.map_append, List.sum_append]
  simp
theorem totLk_nn (l : List LinkP) : 0 ≤ totLk l := by
  induction l with
  | nil => simp [totLk]
  | cons a l ih => have := LkW_nn a; simp only [totLk, List.map_cons, List.sum_cons] at *; omega
theorem totLk_mem {l : List LinkP} {p : LinkP} (h : p ∈ l) : LkW p ≤ totLk l := by
  induction l with
  | nil => cases h
  | cons a l ih =>
    have := totLk_nn l
    have := LkW_nn a
    simp only [totLk, List.map_cons, List.sum_cons] at *
    rcases List.mem_cons.1 h with rfl | h
    · omega
    · have := ih h; omega
def RK (w : World) (lo hi : Nat) (v : Value) (l : List LinkP) : Prop := ∃ (ds : List LkD) (A : Option Addr) (c : Nat), ds.map LkP = l ∧ v = .slice A ds.length c ∧ ds.length ≤ c ∧ Rd w lo hi 2 A ds.length (cellsL LkC ds) ∧ ∀ d ∈ ds, LkOk w lo hi d
theorem RK.ch {w w' : World} {lo hi : Nat} {v : Value} {l : List LinkP} {T : Nat → Prop} (h : RK w lo hi v l) (c : Ch T w w') (hd : ∀ k, lo ≤ k → k < hi → ¬ T k) : RK w' lo hi v l := by
  obtain ⟨ds, A, cc, h1, h2, h3, h4, h5⟩ := h
  exact ⟨ds, A, cc, h1, h2, h3, h4.ch c hd, fun d hm => (h5 d hm).ch c hd⟩
theorem RK.ext {w w' : World} {lo hi : Nat} {v : Value} {l : List LinkP} (h : RK w lo hi v l) (c : Ext w w') : RK w' lo hi v l := h.ch c (fun _ _ _ t => t)
theorem RK.one {w : World} {lo hi : Nat} {v : Value} {l : List LinkP} (h : RK w lo hi v l) : v.oneCell' = true := by obtain ⟨_, _, _, _, rfl, _⟩ := h; rfl
theorem RK.wide {w : World} {lo hi lo' hi' : Nat} {v : Value} {l : List LinkP} (h : RK w lo hi v l) (h1 : lo' ≤ lo) (h2 : hi ≤ hi') (h3 : hi' ≤ w.heap.size) : RK w lo' hi' v l := by
  obtain ⟨ds, A, cc, g1, g2, g3, g4, g5⟩ := h
  exact ⟨ds, A, cc, g1, g2, g3, g4.wide h1 h2 h3, fun d hm => (g5 d hm).wide h1 h2 h3⟩
set_option maxHeartbeats 1000000 in
theorem szLinkS_k {w : World} {lo hi : Nat} {v : Value} {l : List LinkP} {left : Int} (h : RK w lo hi v l) (hlen : l.length ≤ 9223372036854775807) (h0 : 0 ≤ left) (h1 : left ≤ 1048576) (hd : ∀ p ∈ l, LkFit p) :
    Ret Tryz.prog 55 #[v, I left] w fun v w' => (v = I (-1) ∨ (v = I (left - l.length - totLk l) ∧ l.length + totLk l ≤ left)) ∧ Ext w w' := by
  obtain ⟨ds, A, c, rfl, rfl, _, hr, hok⟩ := h
  rw [List.length_map] at hlen ⊢
  refine Ret_enter Tryz.func55 rfl rfl rfl ?_
  repeat' (first | apply Jbq | apply Jbr | apply Jbs | apply Jbt | (apply Jcg; (first | exact Jaa rfl | exact Jab rfl | exact Jac Us.h rfl | exact Jad rfl rfl | exact Jap rfl rfl (by omega)); exact rfl))
  refine Jcx rfl (fun hb => ?_) (fun hb => ?_)
  · repeat' (first | apply Jbq | apply Jbr | apply Jbs | apply Jbt | apply Jbu | apply Jbv | (apply Jcg; exact Jab rfl; exact rfl))
    exact TR_of (res1 rfl rfl) ⟨.inl rfl, Ch.refl _ _⟩
  · repeat' (first | apply Jbq | apply Jbr | apply Jbs | apply Jbt | apply Jby | apply Jbz | (apply Jcg; exact Jab rfl; exact rfl))
    refine TC_loop (ι := Nat) (fun k => [(0, .slice A ds.length c), (1, I (left - ds.length - totLk ((ds.map LkP).take k))), (5, I k)]) (fun k w' => k ≤ ds.length ∧ ds.length + totLk ((ds.map LkP).take k) ≤ left ∧ Ext w w') (fun k => ds.length - k) 0
      (subEnv_cons rfl (subEnv_cons (congrArg (fun z => some (I z)) (by simp [totLk])) (subEnv_cons rfl (subEnv_nil _)))) ⟨Nat.zero_le _, by simp [totLk]; omega, Ch.refl _ _⟩ ?_
    intro k w2 ⟨hk, hle, e2⟩
    have hnn := totLk_nn ((ds.map LkP).take k)
    repeat' (first | apply Jbq | apply Jbr | apply Jbs | apply Jbt | (apply Jcg; (first | exact Jaa rfl | exact Jac Us.h rfl | exact Jad rfl rfl); exact rfl))
    refine Jcx rfl (fun hlt0 => ?_) (fun hge => ?_)
    · have hlt : k < ds.length := by omega
      obtain ⟨ad, rfl, hc⟩ := Rd.elem LkC_len (hr.ext e2) hlt
      have hmem := List.getElem_mem hlt
      have hdk := hd _ (List.mem_map_of_mem (f := LkP) hmem)
      have ht := totLk_take (l := ds.map LkP) (k := k) (by rw [List.length_map]; exact hlt)
      rw [List.getElem_map] at ht
      have hwn := LkW_nn (LkP ds[k])
      repeat' (first | apply Jbr | apply Jbs | apply Jbt | apply Jby | apply Jbz | (apply Jcg; (first | exact Jaa rfl | exact Jar Us.h Sz.h rfl rfl (by omega)); exact rfl) | refine Jcg (Pu_loadAgg (cs := LkC ds[k]) Us.h rfl Sz.h rfl (fun _ e j u hu => by rw [e]; exact hc j u hu)) rfl ?_)
      refine TL_call rfl en129 (szLink_c ((hok _ hmem).ch e2 (fun _ _ _ t => t)) hdk (by omega) (by omega)) rfl rfl ?_
      rintro _ w3 ⟨hv, e3⟩
      rcases hv with rfl | ⟨rfl, hle3⟩
      · repeat' (first | apply Jbq | apply Jbr | apply Jbs | apply Jbt | apply Jbu | apply Jbv | apply Jbw | (refine Jce rfl ?_) | (apply Jcg; (first | exact Jaa rfl | exact Jab rfl | exact Jad rfl rfl); exact rfl))
        exact TR_of (res1 rfl rfl) ⟨.inl rfl, e2.ext e3⟩
      · repeat' (first | apply Jbq | apply Jbr | apply Jbs | apply Jbt | apply Jbx | apply Jbz | (apply Jcg; (first | exact Jaa rfl | exact Jab rfl | exact Jad rfl rfl | exact Jaf rfl rfl (by omega)); exact rfl) | (refine Jcx rfl (fun hb => ?_) (fun hb => ?_) <;> (try (exfalso; omega))))
        exact TN_round (k + 1) (subEnv_cons rfl (subEnv_cons (congrArg (fun z => some (I z)) (by omega)) (subEnv_cons rfl (subEnv_nil _)))) ⟨hlt, by omega, e2.ext e3⟩ (by omega)
    · obtain rfl : k = ds.length := by omega
      rw [List.take_of_length_le (by simp)] at *
      repeat' (first | apply Jbq | apply Jbr | apply Jbs | apply Jbt | apply Jbu | apply Jca | apply Jcb | apply Jcc | (apply Jcg; (first | exact Jaa rfl | exact Jab rfl); exact rfl))
      exact TR_of (res1 rfl rfl) ⟨.inr ⟨rfl, hle⟩, e2⟩
set_option maxHeartbeats 1000000 in
theorem toLinkS_k {w : World} {lo hi : Nat} {v : Value} {l : List LinkP} (h : RK w lo hi v l) (hl : l.length + totLk l ≤ 1048576) :
    Ret Tryz.prog 63 #[v] w fun v' w' => Ext w w' ∧ RK w' w.heap.size w'.heap.size v' l := by
  obtain ⟨ds, A, c, rfl, rfl, _, hr, hok⟩ := h
  have hnn := totLk_nn (ds.map LkP)
  rw [List.length_map] at hl
  refine Ret_enter Tryz.func63 rfl rfl rfl ?_
  repeat' (first | apply Jbq | apply Jbr | apply Jbs | apply Jbt | (apply Jcg; (first | exact Jaa rfl | exact Jab rfl | exact Jac Us.h rfl); exact rfl))
  refine TL_make Us.h Inf.h rfl rfl (by omega) (by omega) (by omega) rfl ?_
  intro w1 g e1 hg hz1 hown
  repeat' (first | apply Jbq | apply Jbr | apply Jbs | apply Jbt | apply Jby | (apply Jcg; exact Jab rfl; exact rfl))
  obtain ⟨xs, hxs⟩ : ∃ xs, xs = (madeCells (Value.cells (.agg #[.string ByteArray.empty, .int .i64 0])) ((ds.length : Int).toNat * 2)).toList := ⟨_, rfl⟩
  rw [← hxs] at hown
  have hxl : xs.length = ds.length * 2 := by have := hown.len; simpa using this
  refine TC_loop (ι := Nat × List LkD) (fun x => [(0, .slice A ds.length c), (3, .slice (some ⟨g, 0, none⟩) ds.length ds.length), (4, I x.1)])
    (fun x w' => x.1 ≤ ds.length ∧ x.2.map LkP = (ds.map LkP).take x.1 ∧ x.2.length = x.1 ∧ Ext w w' ∧ Own w' g (g + 1) 162 2 (some ⟨g, 0, none⟩) ds.length ds.length (cellsL LkC x.2 ++ xs.drop (x.1 * 2)) ∧ ∀ d ∈ x.2, LkOk w' (g + 1) w'.heap.size d) (fun x => ds.length - x.1) (0, [])
    (subEnv_cons rfl (subEnv_cons rfl (subEnv_cons rfl (subEnv_nil _)))) ⟨Nat.zero_le _, by simp, rfl, e1, by simpa [cellsL] using hown, by simp⟩ ?_
  rintro ⟨k, ys⟩ w2 ⟨hk, hys, hyl, e2, hown2, hok2⟩
  simp only at hk hys hyl hown2 hok2
  repeat' (first | apply Jbq | apply Jbr | apply Jbs | apply Jbt | (apply Jcg; (first | exact Jaa rfl | exact Jac Us.h rfl | exact Jad rfl rfl); exact rfl))
  refine Jcx rfl (fun hlt0 => ?_) (fun hge => ?_)
  · have hlt : k < ds.length := by omega
    obtain ⟨ad, rfl, hc⟩ := Rd.elem LkC_len (hr.ext e2) hlt
    have hmem := List.getElem_mem hlt
    have hwk := totLk_mem (List.mem_map_of_mem (f := LkP) hmem)
    repeat' (first | apply Jbr | apply Jbs | apply Jbt | apply Jby | apply Jbz | (apply Jcg; (first | exact Jaa rfl | exact Jar Us.h Sz.h rfl rfl (by omega)); exact rfl) | refine Jcg (Pu_loadAgg (cs := LkC ds[k]) Us.h rfl Sz.h rfl (fun _ e j u hu => by rw [e]; exact hc j u hu)) rfl ?_)
    refine TL_call rfl en137 (toLink_c ((hok _ hmem).ch e2 (fun _ _ _ t => t)) (by omega)) rfl rfl ?_
    rintro _ w3 ⟨d', rfl, hp3, e3, hok3⟩
    have hcl : (cellsL LkC ys).length = k * 2 := by rw [cellsL_length LkC_len, hyl]
    have hgl := hown2.hi_le
    have hs3 := e3.size
    repeat' ((apply Jcg; exact Jar Us.h Sz.h rfl rfl (by omega); exact rfl))
    refine TL_storeOwnAgg rfl (add0 g (k * 2)) rfl Sz.h hok3.one (hown2.ext e3) (by rw [LkC_len]; omega) ?_
    intro w4 c4 hz4 hown4
    rw [setL_app _ _ _ _ hcl (by rw [LkC_len, List.length_drop]; omega), List.drop_drop, LkC_len] at hown4
    repeat' (first | apply Jbq | apply Jbr | apply Jbt | apply Jbx | (apply Jcg; (first | exact Jaa rfl | exact Jab rfl | exact Jaf rfl rfl (by omega)); exact rfl))
    refine TN_round (k + 1, ys ++ [d']) (subEnv_cons rfl (subEnv_cons rfl (subEnv_cons rfl (subEnv_nil _)))) ⟨hlt, ?_, by simp [hyl], Ext.then_iv (e2.ext e3) c4 (by omega), ?_, ?_⟩ (by simp only; omega)
    · rw [List.map_append, hys, List.take_succ_eq_append_getElem (by rw [List.length_map]; exact hlt)]; simp [hp3]
    · rw [cellsL_append]
      have : cellsL LkC [d'] = LkC d' := by simp [cellsL]
      rw [this, Nat.succ_mul]
      exact hown4
    · intro x hx
      rcases List.mem_append.1 hx with hx | hx
      · exact (((hok2 x hx).ch e3 (fun _ _ _ t => t)).ch c4 (by intro j _ _; simp only [Iv]; omega)).wide (Nat.le_refl _) (by omega) (Nat.le_refl _)
      · rw [List.mem_singleton.1 hx]
        exact (hok3.ch c4 (by intro j _ _; simp only [Iv]; omega)).wide (by omega) (by omega) (Nat.le_refl _)
  · obtain rfl : k = ds.length := by omega
    rw [List.drop_eq_nil_of_le (by omega), List.append_nil] at hown2
    rw [List.take_of_length_le (by simp)] at hys
    repeat' (first | apply Jbq | apply Jbr | apply Jbs | apply Jbt | apply Jbu | apply Jca | apply Jcb | apply Jcc | (apply Jcg; (first | exact Jaa rfl | exact Jab rfl); exact rfl))
    have hh := hown2.hi_le
    refine TR_of (res1 rfl rfl) ⟨e2, ys, some ⟨g, 0, none⟩, ds.length, hys, by rw [hyl], by omega, ?_, fun d hm => (hok2 d hm).wide (by omega) (Nat.le_refl _) (Nat.le_refl _)⟩
    rw [hyl]
    exact hown2.rd.wide (by omega) hh (Nat.le_refl _)
set_option maxHeartbeats 1000000 in
theorem eqLinkS_k {w : World} {lo hi lo2 hi2 : Nat} {v v2 : Value} {l : List LinkP} (h : RK w lo hi v l) (h2 : RK w lo2 hi2 v2 l) (hl : l.length + totLk l ≤ 1048576) :
    Ret Tryz.prog 73 #[v, v2] w fun v' w' => v' = .bool true ∧ Ext w w' := by
  obtain ⟨ds, A, c, rfl, rfl, _, hr, hok⟩ := h
  obtain ⟨ds2, A2, c2, hm2, rfl, _, hr2, hok2⟩ := h2
  have hnn := totLk_nn (ds.map LkP)
  have hll : ds2.length = ds.length := by have := congrArg List.length hm2; simpa using this
  rw [List.length_map] at hl
  rw [hll] at hr2 ⊢
  refine Ret_enter Tryz.func73 rfl rfl rfl ?_
  repeat' (first | apply Jbq | apply Jbr | apply Jbs | apply Jbt | apply Jby | apply Jbz | (refine Jcf rfl ?_) | (apply Jcg; (first | exact Jbm rfl rfl | exact Jaa rfl | exact Jab rfl | exact Jac Us.h rfl); exact rfl))
  refine TC_loop (ι := Nat) (fun k => [(0, .slice A ds.length c), (1, .slice A2 ds.length c2), (5, I k)]) (fun k w' => k ≤ ds.length ∧ Ext w w') (fun k => ds.length - k) 0 (subEnv_cons rfl (subEnv_cons rfl (subEnv_cons rfl (subEnv_nil _)))) ⟨Nat.zero_le _, Ch.refl _ _⟩ ?_
  intro k w2 ⟨hk, e2⟩
  repeat' (first | apply Jbq | apply Jbr | apply Jbs | apply Jbt | (apply Jcg; (first | exact Jaa rfl | exact Jac Us.h rfl | exact Jad rfl rfl); exact rfl))
  refine Jcx rfl (fun hlt0 => ?_) (fun hge => ?_)
  · have hlt : k < ds.length := by omega
    have hlt2 : k < ds2.length := by omega
    obtain ⟨ad, rfl, hc⟩ := Rd.elem LkC_len (hr.ext e2) hlt
    obtain ⟨ad2, rfl, hc2⟩ := Rd.elem (l := ds2) LkC_len (by rw [hll]; exact hr2.ext e2) hlt2
    have hpk : LkP ds[k] = LkP ds2[k] := by
      have := congrArg (fun l => l[k]?) hm2
      simp only [List.getElem?_map, List.getElem?_eq_getElem hlt, List.getElem?_eq_getElem hlt2, Option.map_some, Option.some.injEq] at this
      exact this.symm
    have hwk := totLk_mem (List.mem_map_of_mem (f := LkP) (List.getElem_mem hlt))
    repeat' (first | apply Jbr | apply Jbs | apply Jby | apply Jbz)
    refine TC_any mixed rfl ?_
    intro w3 hE hz3
    have E3 := e2.ext hE
    (refine Jco 0 rfl (by kernel_rfl) (by kernel_rfl) (by kernel_rfl) (fun _ _ _ h => h) hE (by exact Jaa rfl) rfl ?_; refine Jco 1 rfl (by kernel_rfl) (by kernel_rfl) (by kernel_rfl) (fun _ _ _ h => h) hE (by exact Jaa rfl) rfl ?_; refine Jco 2 rfl (by kernel_rfl) (by kernel_rfl) (by kernel_rfl) (fun _ _ _ h => h) hE (by exact Jar Us.h Sz.h rfl rfl (by omega)) rfl ?_; refine Jco 3 rfl (by kernel_rfl) (by kernel_rfl) (by kernel_rfl) (fun _ _ _ h => h) hE (by exact Pu_loadAgg (cs := LkC ds[k]) Us.h rfl Sz.h rfl (fun w' e j u hu => Ext.cell e (hc j u hu))) rfl ?_; refine Jco 4 rfl (by kernel_rfl) (by kernel_rfl) (by kernel_rfl) (fun _ _ _ h => h) hE (by exact Jaa rfl) rfl ?_; refine Jco 5 rfl (by kernel_rfl) (by kernel_rfl) (by kernel_rfl) (fun _ _ _ h => h) hE (by exact Jaa rfl) rfl ?_; refine Jco 6 rfl (by kernel_rfl) (by kernel_rfl) (by kernel_rfl) (fun _ _ _ h => h) hE (by exact Jar Us.h Sz.h rfl rfl (by omega)) rfl ?_; refine Jco 7 rfl (by kernel_rfl) (by kernel_rfl) (by kernel_rfl) (fun _ _ _ h => h) hE (by exact Pu_loadAgg (cs := LkC ds2[k]) Us.h rfl Sz.h rfl (fun w' e j u hu => Ext.cell e (hc2 j u hu))) rfl ?_)
    refine TA_one 8 (by kernel_rfl) rfl ?_
    refine TL_call rfl en148 (eqLink_c ((hok _ (List.getElem_mem hlt)).ch E3 (fun _ _ _ t => t)) ((hok2 _ (List.getElem_mem hlt2)).ch E3 (fun _ _ _ t => t)) hpk (by omega)) rfl rfl ?_
    rintro _ w4 ⟨rfl, e4⟩
    replace hE := hE.ext e4
    refine Jbq (TN_any hE ?_)
    (refine Jco 9 rfl (by kernel_rfl) (by kernel_rfl) (by kernel_rfl) (fun _ _ _ h => h) hE (by exact Jaj rfl) rfl ?_)
    refine TA_done (by kernel_rfl) ?_
    repeat' (first | apply Jbq | apply Jbr | apply Jbt | apply Jbx | apply Jbz | (refine Jcf rfl ?_) | (apply Jcg; (first | exact Jaa rfl | exact Jab rfl | exact Jaf rfl rfl (by omega)); exact rfl))
    exact TN_round (k + 1) (subEnv_cons rfl (subEnv_cons rfl (subEnv_cons rfl (subEnv_nil _)))) ⟨hlt, e2.ext hE⟩ (by omega)
  · repeat' (first | apply Jbq | apply Jbr | apply Jbs | apply Jbt | apply Jbu | apply Jca | apply Jcb | apply Jcc | (apply Jcg; exact Jab rfl; exact rfl))
    exact TR_of (res1 rfl rfl) ⟨rfl, e2⟩
end Go.Proofs.YtggaghghclomkaaGreat

/- Lists of nodes, links and turns that can be read, and the laws' helpers on them. -/
namespace Go.Proofs.YtggaghghclomkaaGreat
open Go.RowKit
attribute [local irreducible] TL TC TN TX TR TQ TA Pu Ret

/-! lists of Turn -/
theorem TnC_len (d : TnD) : (TnC d).length = 4 := rfl
def totTn (l : List TurnP) : Int := (l.map TnW).sum
theorem TnW_nn (p : TurnP) : 0 ≤ TnW p := by unfold TnW; omega
theorem totTn_take {l : List TurnP} {k : Nat} (h : k < l.length) : totTn (l.take (k + 1)) = totTn (l.take k) + TnW l[k] := by
  unfold totTn
  rw [List.take_succ_eq_append_getElem h, List.map_append, List.sum_append]
  simp
theorem totTn_nn (l : List TurnP) : 0 ≤ totTn l := by
  induction l with
  | nil => simp [totTn]
  | cons a l ih => have := TnW_nn a; simp only [totTn, List.map_cons, List.sum_cons] at *; omega
theorem totTn_mem {l : List TurnP} {p : TurnP} (h : p ∈ l) : TnW p ≤ totTn l := by
  induction l with
  | nil => cases h
  | cons a l ih =>
    have := totTn_nn l
    have := TnW_nn a
    simp only [totTn, List.map_cons, List.sum_cons] at *
    rcases List.mem_cons.1 h with rfl | h
    · omega
    · have := ih h; omega
def RT (w : World) (lo hi : Nat) (v : Value) (l : List TurnP) : Prop := ∃ (ds : List TnD) (A : Option Addr) (c : Nat), ds.map TnP = l ∧ v = .slice A ds.length c ∧ ds.length ≤ c ∧ Rd w lo hi 4 A ds.length (cellsL TnC ds) ∧ ∀ d ∈ ds, TnOk w lo hi d
theorem RT.ch {w w' : World} {lo hi : Nat} {v : Value} {l : List TurnP} {T : Nat → Prop} (h : RT w lo hi v l) (c : Ch T w w') (hd : ∀ k, lo ≤ k → k < hi → ¬ T k) : RT w' lo hi v l := by
  obtain ⟨ds, A, cc, h1, h2, h3, h4, h5⟩ := h
  exact ⟨ds, A, cc, h1, h2, h3, h4.ch c hd, fun d hm => (h5 d hm).ch c hd⟩
theorem RT.ext {w w' : World} {lo hi : Nat} {v : Value} {l : List TurnP} (h : RT w lo hi v l) (c : Ext w w') : RT w' lo hi v l := h.ch c (fun _ _ _ t => t)
theorem RT.one {w : World} {lo hi : Nat} {v : Value} {l : List TurnP} (h : RT w lo hi v l) : v.oneCell' = true := by obtain ⟨_, _, _, _, rfl, _⟩ := h; rfl
theorem RT.wide {w : World} {lo hi lo' hi' : Nat} {v : Value} {l : List TurnP} (h : RT w lo hi v l) (h1 : lo' ≤ lo) (h2 : hi ≤ hi') (h3 : hi' ≤ w.heap.size) : RT w lo' hi' v l := by
  obtain ⟨ds, A, cc, g1, g2, g3, g4, g5⟩ := h
  exact ⟨ds, A, cc, g1, g2, g3, g4.wide h1 h2 h3, fun d hm => (g5 d hm).wide h1 h2 h3⟩
set_option maxHeartbeats 1000000 in
theorem szTurnS_k {w : World} {lo hi : Nat} {v : Value} {l : List TurnP} {left : Int} (h : RT w lo hi v l) (hlen : l.length ≤ 9223372036854775807) (h0 : 0 ≤ left) (h1 : left ≤ 1048576) (hd : ∀ p ∈ l, TnFit p) :
    Ret Tryz.prog 56 #[v, I left] w fun v w' => (v = I (-1) ∨ (v = I (left - l.length - totTn l) ∧ l.length + totTn l ≤ left)) ∧ Ext w w' := by
  obtain ⟨ds, A, c, rfl, rfl, _, hr, hok⟩ := h
  rw [List.length_map] at hlen ⊢
  refine Ret_enter Tryz.func56 rfl rfl rfl ?_
  repeat' (first | apply Jbq | apply Jbr | apply Jbs | apply Jbt | (apply Jcg; (first | exact Jaa rfl | exact Jab rfl | exact Jac Us.h rfl | exact Jad rfl rfl | exact Jap rfl rfl (by omega)); exact rfl))
  refine Jcx rfl (fun hb => ?_) (fun hb => ?_)
  · repeat' (first | apply Jbq | apply Jbr | apply Jbs | apply Jbt | apply Jbu | apply Jbv | (apply Jcg; exact Jab rfl; exact rfl))
    exact TR_of (res1 rfl rfl) ⟨.inl rfl, Ch.refl _ _⟩
  · repeat' (first | apply Jbq | apply Jbr | apply Jbs | apply Jbt | apply Jby | apply Jbz | (apply Jcg; exact Jab rfl; exact rfl))
    refine TC_loop (ι := Nat) (fun k => [(0, .slice A ds.length c), (1, I (left - ds.length - totTn ((ds.map TnP).take k))), (5, I k)]) (fun k w' => k ≤ ds.length ∧ ds.length + totTn ((ds.map TnP).take k) ≤ left ∧ Ext w w') (fun k => ds.length - k) 0
      (subEnv_cons rfl (subEnv_cons (congrArg (fun z => some (I z)) (by simp [totTn])) (subEnv_cons rfl (subEnv_nil _)))) ⟨Nat.zero_le _, by simp [totTn]; omega, Ch.refl _ _⟩ ?_
    intro k w2 ⟨hk, hle, e2⟩
    have hnn := totTn_nn ((ds.map TnP).take k)
    repeat' (first | apply Jbq | apply Jbr | apply Jbs | apply Jbt | (apply Jcg; (first | exact Jaa rfl | exact Jac Us.h rfl | exact Jad rfl rfl); exact rfl))
    refine Jcx rfl (fun hlt0 => ?_) (fun hge => ?_)
    · have hlt : k < ds.length := by omega
      obtain ⟨ad, rfl, hc⟩ := Rd.elem TnC_len (hr.ext e2) hlt
      have hmem := List.getElem_mem hlt
      have hdk := hd _ (List.mem_map_of_mem (f := TnP) hmem)
      have ht := totTn_take (l := ds.map TnP) (k := k) (by rw [List.length_map]; exact hlt)
      rw [List.getElem_map] at ht
      have hwn := TnW_nn (TnP ds[k])
      repeat' (first | apply Jbr | apply Jbs | apply Jbt | apply Jby | apply Jbz | (apply Jcg; (first | exact Jaa rfl | exact Jar Us.h Sz.h rfl rfl (by omega)); exact rfl) | refine Jcg (Pu_loadAgg (cs := TnC ds[k]) Us.h rfl Sz.h rfl (fun _ e j u hu => by rw [e]; exact hc j u hu)) rfl ?_)
      refine TL_call rfl en130 (szTurn_c ((hok _ hmem).ch e2 (fun _ _ _ t => t)) hdk (by omega) (by omega)) rfl rfl ?_
      rintro _ w3 ⟨hv, e3⟩
      rcases hv with rfl | ⟨rfl, hle3⟩
      · repeat' (first | apply Jbq | apply Jbr | apply Jbs | apply Jbt | apply Jbu | apply Jbv | apply Jbw | (refine Jce rfl ?_) | (apply Jcg; (first | exact Jaa rfl | exact Jab rfl | exact Jad rfl rfl); exact rfl))
        exact TR_of (res1 rfl rfl) ⟨.inl rfl, e2.ext e3⟩
      · repeat' (first | apply Jbq | apply Jbr | apply Jbs | apply Jbt | apply Jbx | apply Jbz | (apply Jcg; (first | exact Jaa rfl | exact Jab rfl | exact Jad rfl rfl | exact Jaf rfl rfl (by omega)); exact rfl) | (refine Jcx rfl (fun hb => ?_) (fun hb => ?_) <;> (try (exfalso; omega))))
        exact TN_round (k + 1) (subEnv_cons rfl (subEnv_cons (congrArg (fun z => some (I z)) (by omega)) (subEnv_cons rfl (subEnv_nil _)))) ⟨hlt, by omega, e2.ext e3⟩ (by omega)
    · obtain rfl : k = ds.length := by omega
      rw [List.take_of_length_le (by simp)] at *
      repeat' (first | apply Jbq | apply Jbr | apply Jbs | apply Jbt | apply Jbu | apply Jca | apply Jcb | apply Jcc | (apply Jcg; (first | exact Jaa rfl | exact Jab rfl); exact rfl))
      exact TR_of (res1 rfl rfl) ⟨.inr ⟨rfl, hle⟩, e2⟩
set_option maxHeartbeats 1000000 in
theorem toTurnS_k {w : World} {lo hi : Nat} {v : Value} {l : List TurnP} (h : RT w lo hi v l) (hl : l.length + totTn l ≤ 1048576) :
    Ret Tryz.prog 64 #[v] w fun v' w' => Ext w w' ∧ RT w' w.heap.size w'.heap.size v' l := by
  obtain ⟨ds, A, c, rfl, rfl, _, hr, hok⟩ := h
  have hnn := totTn_nn (ds.map TnP)
  rw [List.length_map] at hl
  refine Ret_enter Tryz.func64 rfl rfl rfl ?_
  repeat' (first | apply Jbq | apply Jbr | apply Jbs | apply Jbt | (apply Jcg; (first | exact Jaa rfl | exact Jab rfl | exact Jac Us.h rfl); exact rfl))
  refine TL_make Us.h Inf.h rfl rfl (by omega) (by omega) (by omega) rfl ?_
  intro w1 g e1 hg hz1 hown
  repeat' (first | apply Jbq | apply Jbr | apply Jbs | apply Jbt | apply Jby | (apply Jcg; exact Jab rfl; exact rfl))
  obtain ⟨xs, hxs⟩ : ∃ xs, xs = (madeCells (Value.cells (.agg #[.int .i64 0, .string ByteArray.empty, .string ByteArray.empty, .int .i64 0])) ((ds.length : Int).toNat * 4)).toList := ⟨_, rfl⟩
  rw [← hxs] at hown
  have hxl : xs.length = ds.length * 4 := by have := hown.len; simpa using this
  refine TC_loop (ι := Nat × List TnD) (fun x => [(0, .slice A ds.length c), (3, .slice (some ⟨g, 0, none⟩) ds.length ds.length), (4, I x.1)])
    (fun x w' => x.1 ≤ ds.length ∧ x.2.map TnP = (ds.map TnP).take x.1 ∧ x.2.length = x.1 ∧ Ext w w' ∧ Own w' g (g + 1) 121 4 (some ⟨g, 0, none⟩) ds.length ds.length (cellsL TnC x.2 ++ xs.drop (x.1 * 4)) ∧ ∀ d ∈ x.2, TnOk w' (g + 1) w'.heap.size d) (fun x => ds.length - x.1) (0, [])
    (subEnv_cons rfl (subEnv_cons rfl (subEnv_cons rfl (subEnv_nil _)))) ⟨Nat.zero_le _, by simp, rfl, e1, by simpa [cellsL] using hown, by simp⟩ ?_
  rintro ⟨k, ys⟩ w2 ⟨hk, hys, hyl, e2, hown2, hok2⟩
  simp only at hk hys hyl hown2 hok2
  repeat' (first | apply Jbq | apply Jbr | apply Jbs | apply Jbt | (apply Jcg; (first | exact Jaa rfl | exact Jac Us.h rfl | exact Jad rfl rfl); exact rfl))
  refine Jcx rfl (fun hlt0 => ?_) (fun hge => ?_)
  · have hlt : k < ds.length := by omega
    obtain ⟨ad, rfl, hc⟩ := Rd.elem TnC_len (hr.ext e2) hlt
    have hmem := List.getElem_mem hlt
    have hwk := totTn_mem (List.mem_map_of_mem (f := TnP) hmem)
    repeat' (first | apply Jbr | apply Jbs | apply Jbt | apply Jby | apply Jbz | (apply Jcg; (first | exact Jaa rfl | exact Jar Us.h Sz.h rfl rfl (by omega)); exact rfl) | refine Jcg (Pu_loadAgg (cs := TnC ds[k]) Us.h rfl Sz.h rfl (fun _ e j u hu => by rw [e]; exact hc j u hu)) rfl ?_)
    refine TL_call rfl en138 (toTurn_c ((hok _ hmem).ch e2 (fun _ _ _ t => t)) (by omega)) rfl rfl ?_
    rintro _ w3 ⟨d', rfl, hp3, e3, hok3⟩
    have hcl : (cellsL TnC ys).length = k * 4 := by rw [cellsL_length TnC_len, hyl]
    have hgl := hown2.hi_le
    have hs3 := e3.size
    repeat' ((apply Jcg; exact Jar Us.h Sz.h rfl rfl (by omega); exact rfl))
    refine TL_storeOwnAgg rfl (add0 g (k * 4)) rfl Sz.h hok3.one (hown2.ext e3) (by rw [TnC_len]; omega) ?_
    intro w4 c4 hz4 hown4
    rw [setL_app _ _ _ _ hcl (by rw [TnC_len, List.length_drop]; omega), List.drop_drop, TnC_len] at hown4
    repeat' (first | apply Jbq | apply Jbr | apply Jbt | apply Jbx | (apply Jcg; (first | exact Jaa rfl | exact Jab rfl | exact Jaf rfl rfl (by omega)); exact rfl))
    refine TN_round (k + 1, ys ++ [d']) (subEnv_cons rfl (subEnv_cons rfl (subEnv_cons rfl (subEnv_nil _)))) ⟨hlt, ?_, by simp [hyl], Ext.then_iv (e2.ext e3) c4 (by omega), ?_, ?_⟩ (by simp only; omega)
    · rw [List.map_append, hys, List.take_succ_eq_append_getElem (by rw [List.length_map]; exact hlt)]; simp [hp3]
    · rw [cellsL_append]
      have : cellsL TnC [d'] = TnC d' := by simp [cellsL]
      rw [this, Nat.succ_mul]
      exact hown4
    · intro x hx
      rcases List.mem_append.1 hx with hx | hx
      · exact (((hok2 x hx).ch e3 (fun _ _ _ t => t)).ch c4 (by intro j _ _; simp only [Iv]; omega)).wide (Nat.le_refl _) (by omega) (Nat.le_refl _)
      · rw [List.mem_singleton.1 hx]
        exact (hok3.ch c4 (by intro j _ _; simp only [Iv]; omega)).wide (by omega) (by omega) (Nat.le_refl _)
  · obtain rfl : k = ds.length := by omega
    rw [List.drop_eq_nil_of_le (by omega), List.append_nil] at hown2
    rw [List.take_of_length_le (by simp)] at hys
    repeat' (first | apply Jbq | apply Jbr | apply Jbs | apply Jbt | apply Jbu | apply Jca | apply Jcb | apply Jcc | (apply Jcg; (first | exact Jaa rfl | exact Jab rfl); exact rfl))
    have hh := hown2.hi_le
    refine TR_of (res1 rfl rfl) ⟨e2, ys, some ⟨g, 0, none⟩, ds.length, hys, by rw [hyl], by omega, ?_, fun d hm => (hok2 d hm).wide (by omega) (Nat.le_refl _) (Nat.le_refl _)⟩
    rw [hyl]
    exact hown2.rd.wide (by omega) hh (Nat.le_refl _)
set_option maxHeartbeats 1000000 in
theorem eqTurnS_k {w : World} {lo hi lo2 hi2 : Nat} {v v2 : Value} {l : List TurnP} (h : RT w lo hi v l) (h2 : RT w lo2 hi2 v2 l) (hl : l.length + totTn l ≤ 1048576) :
    Ret Tryz.prog 74 #[v, v2] w fun v' w' => v' = .bool true ∧ Ext w w' := by
  obtain ⟨ds, A, c, rfl, rfl, _, hr, hok⟩ := h
  obtain ⟨ds2, A2, c2, hm2, rfl, _, hr2, hok2⟩ := h2
  have hnn := totTn_nn (ds.map TnP)
  have hll : ds2.length = ds.length := by have := congrArg List.length hm2; simpa using this
  rw [List.length_map] at hl
  rw [hll] at hr2 ⊢
  refine Ret_enter Tryz.func74 rfl rfl rfl ?_
  repeat' (first | apply Jbq | apply Jbr | apply Jbs | apply Jbt | apply Jby | apply Jbz | (refine Jcf rfl ?_) | (apply Jcg; (first | exact Jbm rfl rfl | exact Jaa rfl | exact Jab rfl | exact Jac Us.h rfl); exact rfl))
  refine TC_loop (ι := Nat) (fun k => [(0, .slice A ds.length c), (1, .slice A2 ds.length c2), (5, I k)]) (fun k w' => k ≤ ds.length ∧ Ext w w') (fun k => ds.length - k) 0 (subEnv_cons rfl (subEnv_cons rfl (subEnv_cons rfl (subEnv_nil _)))) ⟨Nat.zero_le _, Ch.refl _ _⟩ ?_
  intro k w2 ⟨hk, e2⟩
  repeat' (first | apply Jbq | apply Jbr | apply Jbs | apply Jbt | (apply Jcg; (first | exact Jaa rfl | exact Jac Us.h rfl | exact Jad rfl rfl); exact rfl))
  refine Jcx rfl (fun hlt0 => ?_) (fun hge => ?_)
  · have hlt : k < ds.length := by omega
    have hlt2 : k < ds2.length := by omega
    obtain ⟨ad, rfl, hc⟩ := Rd.elem TnC_len (hr.ext e2) hlt
    obtain ⟨ad2, rfl, hc2⟩ := Rd.elem (l := ds2) TnC_len (by rw [hll]; exact hr2.ext e2) hlt2
    have hpk : TnP ds[k] = TnP ds2[k] := by
      have := congrArg (fun l => l[k]?) hm2
      simp only [List.getElem?_map, List.getElem?_eq_getElem hlt, List.getElem?_eq_getElem hlt2, Option.map_some, Option.some.injEq] at this
      exact this.symm
    have hwk := totTn_mem (List.mem_map_of_mem (f := TnP) (List.getElem_mem hlt))
    repeat' (first | apply Jbr | apply Jbs | apply Jby | apply Jbz)
    refine TC_any mixed rfl ?_
    intro w3 hE hz3
    have E3 := e2.ext hE
    (refine Jco 0 rfl (by kernel_rfl) (by kernel_rfl) (by kernel_rfl) (fun _ _ _ h => h) hE (by exact Jaa rfl) rfl ?_; refine Jco 1 rfl (by kernel_rfl) (by kernel_rfl) (by kernel_rfl) (fun _ _ _ h => h) hE (by exact Jaa rfl) rfl ?_; refine Jco 2 rfl (by kernel_rfl) (by kernel_rfl) (by kernel_rfl) (fun _ _ _ h => h) hE (by exact Jar Us.h Sz.h rfl rfl (by omega)) rfl ?_; refine Jco 3 rfl (by kernel_rfl) (by kernel_rfl) (by kernel_rfl) (fun _ _ _ h => h) hE (by exact Pu_loadAgg (cs := TnC ds[k]) Us.h rfl Sz.h rfl (fun w' e j u hu => Ext.cell e (hc j u hu))) rfl ?_; refine Jco 4 rfl (by kernel_rfl) (by kernel_rfl) (by kernel_rfl) (fun _ _ _ h => h) hE (by exact Jaa rfl) rfl ?_; refine Jco 5 rfl (by kernel_rfl) (by kernel_rfl) (by kernel_rfl) (fun _ _ _ h => h) hE (by exact Jaa rfl) rfl ?_; refine Jco 6 rfl (by kernel_rfl) (by kernel_rfl) (by kernel_rfl) (fun _ _ _ h => h) hE (by exact Jar Us.h Sz.h rfl rfl (by omega)) rfl ?_; refine Jco 7 rfl (by kernel_rfl) (by kernel_rfl) (by kernel_rfl) (fun _ _ _ h => h) hE (by exact Pu_loadAgg (cs := TnC ds2[k]) Us.h rfl Sz.h rfl (fun w' e j u hu => Ext.cell e (hc2 j u hu))) rfl ?_)
    refine TA_one 8 (by kernel_rfl) rfl ?_
    refine TL_call rfl en149 (eqTurn_c ((hok _ (List.getElem_mem hlt)).ch E3 (fun _ _ _ t => t)) ((hok2 _ (List.getElem_mem hlt2)).ch E3 (fun _ _ _ t => t)) hpk (by omega)) rfl rfl ?_
    rintro _ w4 ⟨rfl, e4⟩
    replace hE := hE.ext e4
    refine Jbq (TN_any hE ?_)
    (refine Jco 9 rfl (by kernel_rfl) (by kernel_rfl) (by kernel_rfl) (fun _ _ _ h => h) hE (by exact Jaj rfl) rfl ?_)
    refine TA_done (by kernel_rfl) ?_
    repeat' (first | apply Jbq | apply Jbr | apply Jbt | apply Jbx | apply Jbz | (refine Jcf rfl ?_) | (apply Jcg; (first | exact Jaa rfl | exact Jab rfl | exact Jaf rfl rfl (by omega)); exact rfl))
    exact TN_round (k + 1) (subEnv_cons rfl (subEnv_cons rfl (subEnv_cons rfl (subEnv_nil _)))) ⟨hlt, e2.ext hE⟩ (by omega)
  · repeat' (first | apply Jbq | apply Jbr | apply Jbs | apply Jbt | apply Jbu | apply Jca | apply Jcb | apply Jcc | (apply Jcg; exact Jab rfl; exact rfl))
    exact TR_of (res1 rfl rfl) ⟨rfl, e2⟩
end Go.Proofs.YtggaghghclomkaaGreat

/- Disks that can be read, and the laws' helpers on them. -/
namespace Go.Proofs.YtggaghghclomkaaGreat
open Go.RowKit
attribute [local irreducible] TL TC TN TX TR TQ TA Pu Ret

structure DiskP where
  room : Int
  fuse : Int
  next : Int
  nodes : List NodeP
  kept : List LinkP
  turns : List TurnP
def dskC (d : DiskP) (sn sk st : Value) : List Value := [I d.room, I d.fuse, I d.next, sn, sk, st]
def RDk (w : World) (lo hi : Nat) (d : DiskP) (sn sk st : Value) : Prop := RN w lo hi sn d.nodes ∧ RK w lo hi sk d.kept ∧ RT w lo hi st d.turns
def totD (d : DiskP) : Int := (d.nodes.length + totNd d.nodes) + (d.kept.length + totLk d.kept) + (d.turns.length + totTn d.turns)
def DiskP.fits (d : DiskP) : Prop := (-9223372036854775808 ≤ d.room ∧ d.room ≤ 9223372036854775807) ∧ (-9223372036854775808 ≤ d.fuse ∧ d.fuse ≤ 9223372036854775807) ∧ (-9223372036854775808 ≤ d.next ∧ d.next ≤ 9223372036854775807) ∧
  (d.nodes.length ≤ 9223372036854775807 ∧ ∀ p ∈ d.nodes, NdFit p) ∧ (d.kept.length ≤ 9223372036854775807 ∧ ∀ p ∈ d.kept, LkFit p) ∧ (d.turns.length ≤ 9223372036854775807 ∧ ∀ p ∈ d.turns, TnFit p)
theorem RDk.ch {w w' : World} {lo hi : Nat} {d : DiskP} {sn sk st : Value} {T : Nat → Prop} (h : RDk w lo hi d sn sk st) (c : Ch T w w') (hd : ∀ k, lo ≤ k → k < hi → ¬ T k) : RDk w' lo hi d sn sk st := ⟨h.1.ch c hd, h.2.1.ch c hd, h.2.2.ch c hd⟩
theorem RDk.ext {w w' : World} {lo hi : Nat} {d : DiskP} {sn sk st : Value} (h : RDk w lo hi d sn sk st) (c : Ext w w') : RDk w' lo hi d sn sk st := h.ch c (fun _ _ _ t => t)
theorem RDk.wide {w : World} {lo hi lo' hi' : Nat} {d : DiskP} {sn sk st : Value} (h : RDk w lo hi d sn sk st) (h1 : lo' ≤ lo) (h2 : hi ≤ hi') (h3 : hi' ≤ w.heap.size) : RDk w lo' hi' d sn sk st := ⟨h.1.wide h1 h2 h3, h.2.1.wide h1 h2 h3, h.2.2.wide h1 h2 h3⟩
theorem RDk.one {w : World} {lo hi : Nat} {d : DiskP} {sn sk st : Value} (h : RDk w lo hi d sn sk st) : (dskC d sn sk st).all (·.oneCell') = true := by
  simp only [dskC, List.all_cons, List.all_nil, h.1.one, h.2.1.one, h.2.2.one]; rfl
theorem totD_parts {d : DiskP} (h : totD d ≤ 1048576) : d.nodes.length + totNd d.nodes ≤ 1048576 ∧ d.kept.length + totLk d.kept ≤ 1048576 ∧ d.turns.length + totTn d.turns ≤ 1048576 := by
  have h1 := totNd_nn d.nodes
  have h2 := totLk_nn d.kept
  have h3 := totTn_nn d.turns
  unfold totD at h
  omega
set_option maxHeartbeats 1000000 in
theorem szDisk_c {w : World} {lo hi : Nat} {d : DiskP} {sn sk st : Value} {left : Int} (h : RDk w lo hi d sn sk st) (hf : d.fits) (h0 : 0 ≤ left) (h1 : left ≤ 1048576) :
    Ret Tryz.prog 11 #[.agg (dskC d sn sk st).toArray, I left] w fun v w' => (v = I (-1) ∨ (v = I (left - totD d) ∧ totD d ≤ left)) ∧ Ext w w' := by
  obtain ⟨_, _, _, ⟨f1, f2⟩, ⟨f3, f4⟩, ⟨f5, f6⟩⟩ := hf
  have n1 := totNd_nn d.nodes
  have n2 := totLk_nn d.kept
  have n3 := totTn_nn d.turns
  refine Ret_enter Tryz.func11 rfl rfl rfl ?_
  repeat' (first | apply Jbs | apply Jbt)
  refine TL_box (cs := dskC d sn sk st) rfl rfl ?_
  intro w1 g E hg hz hbk
  clear hg hz
  repeat' (first | apply Jbq | apply Jbr | apply Jbs | apply Jbt | (apply Jcg; (first | exact Jaa rfl | exact Jab rfl | (apply Jbl; exact Us.h; exact rfl; exact Sz.h; exact rfl)); exact rfl) | refine Jcg (Pu_load Fl.h rfl (fun _ e => by rw [e]; exact hbk.ld rfl)) rfl ?_)
  refine TL_call rfl en54 (szNodeS_k (h.1.ext E) f1 h0 h1 f2) rfl rfl ?_
  rintro _ w2 ⟨hv, e2⟩
  replace E := E.ext e2
  replace hbk := hbk.ext e2
  rcases hv with rfl | ⟨rfl, hle⟩
  · repeat' (first | apply Jbq | apply Jbr | apply Jbs | apply Jbt | apply Jbu | apply Jbv | (refine Jce rfl ?_) | (apply Jcg; (first | exact Jaa rfl | exact Jab rfl | exact Jad rfl rfl); exact rfl))
    exact TR_of (res1 rfl rfl) ⟨.inl rfl, E⟩
  repeat' (first | apply Jbq | apply Jbr | apply Jbs | apply Jbt | apply Jbz | (apply Jcg; (first | exact Jaa rfl | exact Jab rfl | exact Jad rfl rfl | (apply Jbl; exact Us.h; exact rfl; exact Sz.h; exact rfl)); exact rfl) | refine Jcg (Pu_load Fl.h rfl (fun _ e => by rw [e]; exact hbk.ld rfl)) rfl ?_ | (refine Jcx rfl (fun hb => ?_) (fun hb => ?_) <;> (try (exfalso; omega))))
  refine TL_call rfl en55 (szLinkS_k (h.2.1.ext E) f3 (by omega) (by omega) f4) rfl rfl ?_
  rintro _ w3 ⟨hv, e3⟩
  replace E := E.ext e3
  replace hbk := hbk.ext e3
  rcases hv with rfl | ⟨rfl, hle2⟩
  · repeat' (first | apply Jbq | apply Jbr | apply Jbs | apply Jbt | apply Jbu | apply Jbv | (refine Jce rfl ?_) | (apply Jcg; (first | exact Jaa rfl | exact Jab rfl | exact Jad rfl rfl); exact rfl))
    exact TR_of (res1 rfl rfl) ⟨.inl rfl, E⟩
  repeat' (first | apply Jbq | apply Jbr | apply Jbs | apply Jbt | apply Jbz | (apply Jcg; (first | exact Jaa rfl | exact Jab rfl | exact Jad rfl rfl | (apply Jbl; exact Us.h; exact rfl; exact Sz.h; exact rfl)); exact rfl) | refine Jcg (Pu_load Fl.h rfl (fun _ e => by rw [e]; exact hbk.ld rfl)) rfl ?_ | (refine Jcx rfl (fun hb => ?_) (fun hb => ?_) <;> (try (exfalso; omega))))
  refine TL_call rfl en56 (szTurnS_k (h.2.2.ext E) f5 (by omega) (by omega) f6) rfl rfl ?_
  rintro _ w4 ⟨hv, e4⟩
  replace E := E.ext e4
  rcases hv with rfl | ⟨rfl, hle3⟩
  · repeat' (first | apply Jbq | apply Jbr | apply Jbs | apply Jbt | apply Jbu | apply Jbv | (refine Jce rfl ?_) | (apply Jcg; (first | exact Jaa rfl | exact Jab rfl | exact Jad rfl rfl); exact rfl))
    exact TR_of (res1 rfl rfl) ⟨.inl rfl, E⟩
  repeat' (first | apply Jbq | apply Jbr | apply Jbs | apply Jbt | apply Jbu | apply Jbz | (apply Jcg; (first | exact Jaa rfl | exact Jab rfl | exact Jad rfl rfl); exact rfl) | (refine Jcx rfl (fun hb => ?_) (fun hb => ?_) <;> (try (exfalso; omega))))
  exact TR_of (res1 rfl rfl) ⟨.inr ⟨congrArg I (by unfold totD; omega), by unfold totD; omega⟩, E⟩
set_option maxHeartbeats 2000000 in
theorem toDisk_c {w : World} {lo hi : Nat} {d : DiskP} {sn sk st : Value} (h : RDk w lo hi d sn sk st) (hl : totD d ≤ 1048576) :
    Ret Tryz.prog 13 #[.agg (dskC d sn sk st).toArray] w fun v' w' => ∃ sn' sk' st', v' = .agg (dskC d sn' sk' st').toArray ∧ Ext w w' ∧ RDk w' w.heap.size w'.heap.size d sn' sk' st' := by
  obtain ⟨l1, l2, l3⟩ := totD_parts hl
  refine Ret_enter Tryz.func13 rfl rfl rfl ?_
  repeat' (first | apply Jbs | apply Jbt)
  refine TL_box (cs := dskC d sn sk st) rfl rfl ?_
  intro w1 g1 e1 hg1 hz1 hb1
  skip
  refine TL_alloc Zs.h rfl rfl ?_
  intro w2 g2 e2 hg2 hz2 hb2
  replace hb1 := hb1.ext e2
  repeat' (first | apply Jbq | apply Jbr | apply Jbs | apply Jbt)
  refine TL_alloc Zs.h rfl rfl ?_
  intro w3 g3 e3 hg3 hz3 hb3
  replace hb1 := hb1.ext e3
  replace hb2 := hb2.ext e3
  have E : Ext w w3 := (e1.ext e2).ext e3
  have hgw : w.heap.size ≤ g1 ∧ g1 < g2 ∧ g2 < g3 := by omega
  clear hg1 hg2 hg3 e1 e2 e3 hz1 hz2 hz3
  repeat' (first | apply Jbq | apply Jbr | apply Jbs | apply Jbt | (apply Jcg; (apply Jbl; exact Us.h; exact rfl; exact Sz.h; exact rfl); exact rfl) | refine Jcg (Pu_load Fl.h rfl (fun _ e => by rw [e]; exact hb1.ld rfl)) rfl ?_)
  refine TL_store rfl rfl Sz.h rfl hb3 rfl ?_
  clear hb3
  intro w4 c4 hz4 hb3
  replace hb1 := hb1.ch c4 (by simp only [Iv]; omega)
  replace hb2 := hb2.ch c4 (by simp only [Iv]; omega)
  replace E : Ext w w4 := Ext.then_iv E c4 (by omega)
  repeat' (first | apply Jbq | apply Jbr | apply Jbs | apply Jbt | (apply Jcg; (apply Jbl; exact Us.h; exact rfl; exact Sz.h; exact rfl); exact rfl) | refine Jcg (Pu_load Fl.h rfl (fun _ e => by rw [e]; exact hb1.ld rfl)) rfl ?_)
  refine TL_store rfl rfl Sz.h rfl hb3 rfl ?_
  clear hb3
  intro w5 c5 hz5 hb3
  replace hb1 := hb1.ch c5 (by simp only [Iv]; omega)
  replace hb2 := hb2.ch c5 (by simp only [Iv]; omega)
  replace E : Ext w w5 := Ext.then_iv E c5 (by omega)
  repeat' (first | apply Jbq | apply Jbr | apply Jbs | apply Jbt | (apply Jcg; (apply Jbl; exact Us.h; exact rfl; exact Sz.h; exact rfl); exact rfl) | refine Jcg (Pu_load Fl.h rfl (fun _ e => by rw [e]; exact hb1.ld rfl)) rfl ?_)
  refine TL_store rfl rfl Sz.h rfl hb3 rfl ?_
  clear hb3
  intro w6 c6 hz6 hb3
  replace hb1 := hb1.ch c6 (by simp only [Iv]; omega)
  replace hb2 := hb2.ch c6 (by simp only [Iv]; omega)
  replace E : Ext w w6 := Ext.then_iv E c6 (by omega)
  have hlt := hb3.lt
  repeat' (first | apply Jbq | apply Jbr | apply Jbs | apply Jbt | (apply Jcg; (apply Jbl; exact Us.h; exact rfl; exact Sz.h; exact rfl); exact rfl) | refine Jcg (Pu_load Fl.h rfl (fun _ e => by rw [e]; exact hb1.ld rfl)) rfl ?_)
  refine TL_call rfl en62 (toNodeS_k (h.1.ext E) l1) rfl rfl ?_
  intro sn2 w7 ⟨e7, ho7⟩
  replace hb1 := hb1.ext e7
  replace hb2 := hb2.ext e7
  replace hb3 := hb3.ext e7
  have hs6 := E.size
  have hs7 := e7.size
  replace E := E.ext e7
  repeat' ((apply Jcg; (apply Jbl; exact Us.h; exact rfl; exact Sz.h; exact rfl); exact rfl))
  refine TL_store rfl rfl Sz.h ho7.one hb3 rfl ?_
  clear hb3
  intro w8 c8 hz8 hb3
  replace hb1 := hb1.ch c8 (by simp only [Iv]; omega)
  replace hb2 := hb2.ch c8 (by simp only [Iv]; omega)
  replace ho7 := ho7.ch c8 (by intro k _ _; simp only [Iv]; omega)
  replace E : Ext w w8 := Ext.then_iv E c8 (by omega)
  repeat' (first | apply Jbq | apply Jbr | apply Jbs | apply Jbt | (apply Jcg; (apply Jbl; exact Us.h; exact rfl; exact Sz.h; exact rfl); exact rfl) | refine Jcg (Pu_load Fl.h rfl (fun _ e => by rw [e]; exact hb1.ld rfl)) rfl ?_)
  refine TL_call rfl en63 (toLinkS_k (h.2.1.ext E) l2) rfl rfl ?_
  intro sk2 w9 ⟨e9, ho9⟩
  replace hb1 := hb1.ext e9
  replace hb2 := hb2.ext e9
  replace hb3 := hb3.ext e9
  replace ho7 := ho7.ext e9
  have hs9 := e9.size
  replace E := E.ext e9
  repeat' ((apply Jcg; (apply Jbl; exact Us.h; exact rfl; exact Sz.h; exact rfl); exact rfl))
  refine TL_store rfl rfl Sz.h ho9.one hb3 rfl ?_
  clear hb3
  intro w10 c10 hz10 hb3
  replace hb1 := hb1.ch c10 (by simp only [Iv]; omega)
  replace hb2 := hb2.ch c10 (by simp only [Iv]; omega)
  replace ho7 := ho7.ch c10 (by intro k _ _; simp only [Iv]; omega)
  replace ho9 := ho9.ch c10 (by intro k _ _; simp only [Iv]; omega)
  replace E : Ext w w10 := Ext.then_iv E c10 (by omega)
  repeat' (first | apply Jbq | apply Jbr | apply Jbs | apply Jbt | (apply Jcg; (apply Jbl; exact Us.h; exact rfl; exact Sz.h; exact rfl); exact rfl) | refine Jcg (Pu_load Fl.h rfl (fun _ e => by rw [e]; exact hb1.ld rfl)) rfl ?_)
  refine TL_call rfl en64 (toTurnS_k (h.2.2.ext E) l3) rfl rfl ?_
  intro st2 w11 ⟨e11, ho11⟩
  replace hb2 := hb2.ext e11
  replace hb3 := hb3.ext e11
  replace ho7 := ho7.ext e11
  replace ho9 := ho9.ext e11
  have hs11 := e11.size
  replace E := E.ext e11
  repeat' ((apply Jcg; (apply Jbl; exact Us.h; exact rfl; exact Sz.h; exact rfl); exact rfl))
  refine TL_store rfl rfl Sz.h ho11.one hb3 rfl ?_
  clear hb3
  intro w12 c12 hz12 hb3
  replace hb2 := hb2.ch c12 (by simp only [Iv]; omega)
  replace ho7 := ho7.ch c12 (by intro k _ _; simp only [Iv]; omega)
  replace ho9 := ho9.ch c12 (by intro k _ _; simp only [Iv]; omega)
  replace ho11 := ho11.ch c12 (by intro k _ _; simp only [Iv]; omega)
  replace E : Ext w w12 := Ext.then_iv E c12 (by omega)
  repeat' (first | apply Jbq | apply Jbr | apply Jbs | apply Jbt)
  refine Jcg (Pu_loadAgg (cs := dskC d sn2 sk2 st2) Us.h rfl Sz.h rfl (fun _ e j u hu => by rw [e, add0, hb3.cell]; exact hu)) rfl ?_
  skip
  refine TL_storeAgg rfl rfl Sz.h (by show ((dskC d sn2 sk2 st2).all (·.oneCell')) = true; simp only [dskC, List.all_cons, List.all_nil, ho7.one, ho9.one, ho11.one]; rfl) hb2 rfl ?_
  clear hb2
  intro w13 c13 hz13 hb2
  replace ho7 := ho7.ch c13 (by intro k _ _; simp only [Iv]; omega)
  replace ho9 := ho9.ch c13 (by intro k _ _; simp only [Iv]; omega)
  replace ho11 := ho11.ch c13 (by intro k _ _; simp only [Iv]; omega)
  repeat' (first | apply Jbq | apply Jbr | apply Jbu)
  exact TR_of (resA rfl rfl hb2 Us.h rfl Sz.h) ⟨sn2, sk2, st2, rfl, Ext.then_iv E c13 (by omega), ho7.wide (by omega) (by omega) (Nat.le_refl _), ho9.wide (by omega) (by omega) (Nat.le_refl _), ho11.wide (by omega) (by omega) (Nat.le_refl _)⟩
set_option maxHeartbeats 1000000 in
theorem eqDisk_c {w : World} {lo hi lo2 hi2 : Nat} {d : DiskP} {sn sk st sn2 sk2 st2 : Value} (h : RDk w lo hi d sn sk st) (h2 : RDk w lo2 hi2 d sn2 sk2 st2) (hl : totD d ≤ 1048576) :
    Ret Tryz.prog 16 #[.agg (dskC d sn sk st).toArray, .agg (dskC d sn2 sk2 st2).toArray] w fun v' w' => v' = .bool true ∧ Ext w w' := by
  obtain ⟨l1, l2, l3⟩ := totD_parts hl
  refine Ret_enter Tryz.func16 rfl rfl rfl ?_
  repeat' (first | apply Jbs | apply Jbt)
  refine TL_box (cs := dskC d sn sk st) rfl rfl ?_
  intro w1 g1 e1 hg1 hz1 hb1
  skip
  refine TL_box (cs := dskC d sn2 sk2 st2) rfl rfl ?_
  intro w2 g2 e2 hg2 hz2 hb2
  replace hb1 := hb1.ext e2
  have E := e1.ext e2
  repeat' (first | apply Jbq | apply Jbr | apply Jbs | apply Jbt | apply Jbz | (refine Jcf rfl ?_) | (apply Jcg; (first | exact Jbm rfl rfl | exact Jab rfl | (apply Jbl; exact Us.h; exact rfl; exact Sz.h; exact rfl)); exact rfl) | refine Jcg (Pu_load Fl.h rfl (fun _ e => by rw [e]; exact hb1.ld rfl)) rfl ?_ | refine Jcg (Pu_load Fl.h rfl (fun _ e => by rw [e]; exact hb2.ld rfl)) rfl ?_)
  refine TL_call rfl en72 (eqNodeS_k (h.1.ext E) (h2.1.ext E) l1) rfl rfl ?_
  rintro _ w3 ⟨rfl, e3⟩
  replace hb1 := hb1.ext e3
  replace hb2 := hb2.ext e3
  replace E := E.ext e3
  repeat' (first | apply Jbq | apply Jbr | apply Jbs | apply Jbt | apply Jbz | (refine Jcf rfl ?_) | (apply Jcg; (first | exact Jaj rfl | (apply Jbl; exact Us.h; exact rfl; exact Sz.h; exact rfl)); exact rfl) | refine Jcg (Pu_load Fl.h rfl (fun _ e => by rw [e]; exact hb1.ld rfl)) rfl ?_ | refine Jcg (Pu_load Fl.h rfl (fun _ e => by rw [e]; exact hb2.ld rfl)) rfl ?_)
  refine TL_call rfl en73 (eqLinkS_k (h.2.1.ext E) (h2.2.1.ext E) l2) rfl rfl ?_
  rintro _ w4 ⟨rfl, e4⟩
  replace hb1 := hb1.ext e4
  replace hb2 := hb2.ext e4
  replace E := E.ext e4
  repeat' (first | apply Jbq | apply Jbr | apply Jbs | apply Jbt | apply Jbz | (refine Jcf rfl ?_) | (apply Jcg; (first | exact Jaj rfl | (apply Jbl; exact Us.h; exact rfl; exact Sz.h; exact rfl)); exact rfl) | refine Jcg (Pu_load Fl.h rfl (fun _ e => by rw [e]; exact hb1.ld rfl)) rfl ?_ | refine Jcg (Pu_load Fl.h rfl (fun _ e => by rw [e]; exact hb2.ld rfl)) rfl ?_)
  refine TL_call rfl en74 (eqTurnS_k (h.2.2.ext E) (h2.2.2.ext E) l3) rfl rfl ?_
  rintro _ w5 ⟨rfl, e5⟩
  repeat' (first | apply Jbq | apply Jbr | apply Jbs | apply Jbt | apply Jbu | apply Jbz | (refine Jcf rfl ?_) | (apply Jcg; (first | exact Jab rfl | exact Jaj rfl); exact rfl))
  exact TR_of (res1 rfl rfl) ⟨rfl, E.ext e5⟩
end Go.Proofs.YtggaghghclomkaaGreat

/- What a disk's argument looks like in memory. No condition. -/
namespace Go.Proofs.YtggaghghclomkaaGreat
open Go.RowKit Go.ChangeShapes Go.WideShapes Go.Deep
section
variable {H : Type} {enc : TypeId × Value → H} {P : Program} {w : World} {base : Nat} {spare : Nat → Bool} {held : Bool} {t e : TypeId} {fuel : Nat} {v : Value} {x : DataW H × List MemPlace}
theorem cell_node {cs : List Value} {f0 f1 f2 : Field} {e8 : TypeId} (he : P.underlying e = some (.struct #[f0, f1, f2])) (hc : P.cellsOf e = 3) (h0 : f0.offset = 0) (h1 : f1.offset = 1) (h2 : f2.offset = 2)
    (t0 : P.underlying f0.type = some (.int .i64)) (t1 : P.underlying f1.type = some (.slice e8)) (t2 : P.underlying f2.type = some (.slice e8)) (t8 : P.underlying e8 = some (.int .u8)) (c8 : P.cellsOf e8 = 1)
    (c0 : P.cellsOf f0.type = 1) (c1 : P.cellsOf f1.type = 1) (c2 : P.cellsOf f2.type = 1)
    (h : DataW.trod enc P w base spare held fuel e cs = some x) : ∃ d : Nd, cs = NdC d ∧ NdOk w 0 w.heap.size d ∧ NdFit (NdP d) := by
  have hl := (fld_len he h).trans hc
  obtain ⟨y0, n0, g0⟩ := fld (j := 0) he h rfl h0 c0
  obtain ⟨y1, n1, g1⟩ := fld (j := 1) he h rfl h1 c1
  obtain ⟨y2, n2, g2⟩ := fld (j := 2) he h rfl h2 c2
  obtain ⟨a, e0, ba⟩ := cell_int t0 g0
  match cs, hl with
  | [u0, u1, u2], _ =>
    simp at e0 g1 g2
    obtain ⟨A, c, s, hv, m, b, R⟩ := arg_bytes t1 t8 c8 g1
    obtain ⟨A2, c2', s2, hv2, m2, b2, R2⟩ := arg_bytes t2 t8 c8 g2
    exact ⟨⟨a, s, s2, u1, u2⟩, by rw [e0]; rfl, ⟨⟨A, c, hv, m, R⟩, ⟨A2, c2', hv2, m2, R2⟩⟩, by simp only [NdP]; omega, by simp only [NdP]; omega⟩
theorem cell_link {cs : List Value} {f0 f1 : Field} (he : P.underlying e = some (.struct #[f0, f1])) (hc : P.cellsOf e = 2) (h0 : f0.offset = 0) (h1 : f1.offset = 1)
    (t0 : P.underlying f0.type = some .string) (t1 : P.underlying f1.type = some (.int .i64)) (c0 : P.cellsOf f0.type = 1) (c1 : P.cellsOf f1.type = 1)
    (h : DataW.trod enc P w base spare held fuel e cs = some x) : ∃ d : LkD, cs = LkC d ∧ LkOk w 0 w.heap.size d ∧ LkFit (LkP d) := by
  have hl := (fld_len he h).trans hc
  obtain ⟨y0, n0, g0⟩ := fld (j := 0) he h rfl h0 c0
  obtain ⟨y1, n1, g1⟩ := fld (j := 1) he h rfl h1 c1
  obtain ⟨s, e0, bs⟩ := cell_str t0 g0
  obtain ⟨a, e1, ba⟩ := cell_int t1 g1
  match cs, hl with
  | [u0, u1], _ =>
    simp at e0 e1
    exact ⟨⟨s, a⟩, by rw [e0, e1]; rfl, trivial, bs, ba⟩
theorem cell_turn {cs : List Value} {f0 f1 f2 f3 : Field} (he : P.underlying e = some (.struct #[f0, f1, f2, f3])) (hc : P.cellsOf e = 4) (h0 : f0.offset = 0) (h1 : f1.offset = 1) (h2 : f2.offset = 2) (h3 : f3.offset = 3)
    (t0 : P.underlying f0.type = some (.int .i64)) (t1 : P.underlying f1.type = some .string) (t2 : P.underlying f2.type = some .string) (t3 : P.underlying f3.type = some (.int .i64))
    (c0 : P.cellsOf f0.type = 1) (c1 : P.cellsOf f1.type = 1) (c2 : P.cellsOf f2.type = 1) (c3 : P.cellsOf f3.type = 1)
    (h : DataW.trod enc P w base spare held fuel e cs = some x) : ∃ d : TnD, cs = TnC d ∧ TnOk w 0 w.heap.size d ∧ TnFit (TnP d) := by
  have hl := (fld_len he h).trans hc
  obtain ⟨y0, n0, g0⟩ := fld (j := 0) he h rfl h0 c0
  obtain ⟨y1, n1, g1⟩ := fld (j := 1) he h rfl h1 c1
  obtain ⟨y2, n2, g2⟩ := fld (j := 2) he h rfl h2 c2
  obtain ⟨y3, n3, g3⟩ := fld (j := 3) he h rfl h3 c3
  obtain ⟨a, e0, ba⟩ := cell_int t0 g0
  obtain ⟨s, e1, bs⟩ := cell_str t1 g1
  obtain ⟨s2, e2, bs2⟩ := cell_str t2 g2
  obtain ⟨a3, e3, ba3⟩ := cell_int t3 g3
  match cs, hl with
  | [u0, u1, u2, u3], _ =>
    simp at e0 e1 e2 e3
    exact ⟨⟨a, s, s2, a3⟩, by rw [e0, e1, e2, e3]; rfl, trivial, bs, bs2, ba3⟩
theorem cell_disk {cs : List Value} {f0 f1 f2 f3 f4 f5 : Field} {eN eK eT : TypeId} (he : P.underlying e = some (.struct #[f0, f1, f2, f3, f4, f5])) (hc : P.cellsOf e = 6) (h0 : f0.offset = 0) (h1 : f1.offset = 1) (h2 : f2.offset = 2) (h3 : f3.offset = 3) (h4 : f4.offset = 4) (h5 : f5.offset = 5)
    (t0 : P.underlying f0.type = some (.int .i64)) (t1 : P.underlying f1.type = some (.int .i64)) (t2 : P.underlying f2.type = some (.int .i64)) (t3 : P.underlying f3.type = some (.slice eN)) (t4 : P.underlying f4.type = some (.slice eK)) (t5 : P.underlying f5.type = some (.slice eT))
    (c0 : P.cellsOf f0.type = 1) (c1 : P.cellsOf f1.type = 1) (c2 : P.cellsOf f2.type = 1) (c3 : P.cellsOf f3.type = 1) (c4 : P.cellsOf f4.type = 1) (c5 : P.cellsOf f5.type = 1) (cN : P.cellsOf eN = 3) (cK : P.cellsOf eK = 2) (cT : P.cellsOf eT = 4)
    (hN : ∀ n cs x, DataW.trod enc P w base spare held n eN cs = some x → ∃ d : Nd, cs = NdC d ∧ NdOk w 0 w.heap.size d ∧ NdFit (NdP d))
    (hK : ∀ n cs x, DataW.trod enc P w base spare held n eK cs = some x → ∃ d : LkD, cs = LkC d ∧ LkOk w 0 w.heap.size d ∧ LkFit (LkP d))
    (hT : ∀ n cs x, DataW.trod enc P w base spare held n eT cs = some x → ∃ d : TnD, cs = TnC d ∧ TnOk w 0 w.heap.size d ∧ TnFit (TnP d))
    (h : DataW.trod enc P w base spare held fuel e cs = some x) : ∃ (d : DiskP) (sn sk st : Value), cs = dskC d sn sk st ∧ d.fits ∧ RDk w 0 w.heap.size d sn sk st := by
  have hl := (fld_len he h).trans hc
  obtain ⟨y0, n0, g0⟩ := fld (j := 0) he h rfl h0 c0
  obtain ⟨y1, n1, g1⟩ := fld (j := 1) he h rfl h1 c1
  obtain ⟨y2, n2, g2⟩ := fld (j := 2) he h rfl h2 c2
  obtain ⟨y3, n3, g3⟩ := fld (j := 3) he h rfl h3 c3
  obtain ⟨y4, n4, g4⟩ := fld (j := 4) he h rfl h4 c4
  obtain ⟨y5, n5, g5⟩ := fld (j := 5) he h rfl h5 c5
  obtain ⟨a0, e0, b0⟩ := cell_int t0 g0
  obtain ⟨a1, e1, b1⟩ := cell_int t1 g1
  obtain ⟨a2, e2, b2⟩ := cell_int t2 g2
  match cs, hl with
  | [u0, u1, u2, u3, u4, u5], _ =>
    simp at e0 e1 e2 g3 g4 g5
    obtain ⟨A3, k3, l3, v3, m3, q3, R3, z3⟩ := arg_rows (f := NdC) (s := 3) NdC_len (by omega) t3 cN hN g3
    obtain ⟨A4, k4, l4, v4, m4, q4, R4, z4⟩ := arg_rows (f := LkC) (s := 2) LkC_len (by omega) t4 cK hK g4
    obtain ⟨A5, k5, l5, v5, m5, q5, R5, z5⟩ := arg_rows (f := TnC) (s := 4) TnC_len (by omega) t5 cT hT g5
    refine ⟨⟨a0, a1, a2, l3.map NdP, l4.map LkP, l5.map TnP⟩, u3, u4, u5, by rw [e0, e1, e2]; rfl, ⟨b0, b1, b2, ⟨by simp only [List.length_map]; omega, ?_⟩, ⟨by simp only [List.length_map]; omega, ?_⟩, ⟨by simp only [List.length_map]; omega, ?_⟩⟩,
      ⟨l3, A3, k3, rfl, v3, m3, R3, fun d hd => (z3 d hd).1⟩, ⟨l4, A4, k4, rfl, v4, m4, R4, fun d hd => (z4 d hd).1⟩, ⟨l5, A5, k5, rfl, v5, m5, R5, fun d hd => (z5 d hd).1⟩⟩
    · intro p hp
      obtain ⟨d, hd, rfl⟩ := List.mem_map.1 hp
      exact (z3 d hd).2
    · intro p hp
      obtain ⟨d, hd, rfl⟩ := List.mem_map.1 hp
      exact (z4 d hd).2
    · intro p hp
      obtain ⟨d, hd, rfl⟩ := List.mem_map.1 hp
      exact (z5 d hd).2
end
end Go.Proofs.YtggaghghclomkaaGreat

/- Contracts: the space a disk uses. -/
namespace Go.Proofs.YtggaghghclomkaaGreat
open Go.RowKit
attribute [local irreducible] TL TC TN TX TR TQ TA Pu Ret

def NdM (p : NodeP) : Int := max (p.2.1.length : Int) (p.2.2.length : Int)
def pUsed (l : List NodeP) : Int := (l.map NdM).sum
theorem pUsed_take {l : List NodeP} {k : Nat} (h : k < l.length) : pUsed (l.take (k + 1)) = pUsed (l.take k) + NdM l[k] := by
  unfold pUsed
  rw [List.take_succ_eq_append_getElem h, List.map_append, List.sum_append]
  simp
theorem pUsed_le : ∀ l : List NodeP, 0 ≤ pUsed l ∧ pUsed l ≤ totNd l
  | [] => by simp [pUsed, totNd]
  | a :: l => by
    have := pUsed_le l
    simp only [pUsed, totNd, List.map_cons, List.sum_cons, NdM, NdW] at *
    omega
theorem totNd_le_take (l : List NodeP) (k : Nat) : totNd (l.take k) ≤ totNd l := by
  have h1 := totNd_nn (l.drop k)
  have : totNd l = totNd (l.take k) + totNd (l.drop k) := by
    unfold totNd
    rw [← List.sum_append, ← List.map_append, List.take_append_drop]
  omega
theorem l03Most_c (a b : Int) (w : World) : Ret Tryz.prog 88 #[I a, I b] w fun v w' => v = I (max a b) ∧ w = w' := by
  refine Ret_enter Tryz.func88 rfl rfl rfl ?_
  repeat' (first | apply Jbq | apply Jbr | apply Jbs | apply Jbt | apply Jbu | apply Jbv | apply Jbz | (apply Jcg; (first | exact Jaa rfl | exact Jab rfl | exact Jam rfl rfl); exact rfl) | (refine Jcx rfl (fun hb => ?_) (fun hb => ?_) <;> (try (exfalso; omega))))
  · exact TR_of (res1 rfl rfl) ⟨congrArg I (by omega), rfl⟩
  · exact TR_of (res1 rfl rfl) ⟨congrArg I (by omega), rfl⟩
set_option maxHeartbeats 2000000 in
theorem specDiskUsed_c {w : World} {lo hi : Nat} {d : DiskP} {sn sk st : Value} (h : RDk w lo hi d sn sk st) (hl : totD d ≤ 1048576) :
    Ret Tryz.prog 87 #[.agg (dskC d sn sk st).toArray] w fun v' w' => v' = I (pUsed d.nodes) ∧ Ext w w' := by
  obtain ⟨l1, _, _⟩ := totD_parts hl
  obtain ⟨ds, A, c, hm, rfl, _, hr, hok⟩ := h.1
  have hln : d.nodes.length = ds.length := by rw [← hm, List.length_map]
  refine Ret_enter Tryz.func87 rfl rfl rfl ?_
  repeat' (first | apply Jbs | apply Jbt)
  refine TL_box (cs := dskC d (.slice A ds.length c) sk st) rfl rfl ?_
  intro w1 g E hg hz hbk
  clear hg hz
  repeat' (first | apply Jbq | apply Jbr | apply Jbs | apply Jbt | apply Jby | (apply Jcg; (first | exact Jaa rfl | exact Jab rfl | exact Jac Us.h rfl | (apply Jbl; exact Us.h; exact rfl; exact Sz.h; exact rfl)); exact rfl) | refine Jcg (Pu_load Fl.h rfl (fun _ e => by rw [e]; exact hbk.ld rfl)) rfl ?_)
  refine TC_loop (ι := Nat) (fun k => [(3, I (pUsed (d.nodes.take k))), (7, .slice A ds.length c), (8, I ds.length), (9, I k)]) (fun k w' => k ≤ ds.length ∧ Ext w w') (fun k => ds.length - k) 0 (subEnv_cons rfl (subEnv_cons rfl (subEnv_cons rfl (subEnv_cons rfl (subEnv_nil _))))) ⟨Nat.zero_le _, E⟩ ?_
  intro k w2 ⟨hk, e2⟩
  repeat' (first | apply Jbq | apply Jbr | apply Jbs | apply Jbt | (apply Jcg; exact Jad rfl rfl; exact rfl))
  refine Jcx rfl (fun hlt0 => ?_) (fun hge => ?_)
  · have hlt : k < ds.length := by omega
    obtain ⟨ad, rfl, hc⟩ := Rd.elem NdC_len (hr.ext e2) hlt
    have hnk : d.nodes[k]'(by omega) = NdP ds[k] := by simp only [← hm, List.getElem_map]
    have hq := pUsed_take (l := d.nodes) (k := k) (by omega)
    have hq2 := pUsed_le (d.nodes.take k)
    have hq3 := pUsed_le (d.nodes.take (k + 1))
    have hq4 := totNd_le_take d.nodes k
    have hq5 := totNd_le_take d.nodes (k + 1)
    rw [hnk] at hq
    obtain ⟨⟨Ab, cb, hvb, _⟩, ⟨As, cs, hvs, _⟩⟩ := hok _ (List.getElem_mem hlt)
    obtain ⟨x, hx⟩ : ∃ x, x = ds[k] := ⟨_, rfl⟩
    rw [← hx] at hc hq hvb hvs
    obtain ⟨id, body, safe, vb, vs⟩ := x
    simp only at hvb hvs
    subst hvb hvs
    simp only [NdM, NdP] at hq
    repeat' (first | apply Jbq | apply Jbr | apply Jbs | apply Jbt | apply Jbx | apply Jby | apply Jbz | (apply Jcg; (first | exact Jaa rfl | exact Jab rfl | exact Jac Us.h rfl | exact Jaf rfl rfl (by omega) | exact Jar Us.h Sz.h rfl rfl (by omega) | (apply Jbl; exact Us.h; exact rfl; exact Sz.h; exact rfl)); exact rfl) | refine Jcg (Pu_loadAgg (cs := NdC ⟨id, body, safe, .slice Ab body.length cb, .slice As safe.length cs⟩) Us.h rfl Sz.h rfl (fun _ e j u hu => by rw [e]; exact hc j u hu)) rfl ?_ | (refine TL_alloc Zs.h rfl rfl ?_; intro w3 g3 e3 hg3 hz3 hb3) | (refine TL_storeAgg rfl rfl Sz.h rfl hb3 rfl ?_; intro w4 c4 hz4 hb4) | refine Jcg (Pu_load Fl.h rfl (fun _ e => by rw [e]; exact hb4.ld rfl)) rfl ?_ | (refine TL_call rfl en88 (l03Most_c _ _ _) rfl rfl ?_; rintro _ _ ⟨rfl, rfl⟩))
    exact TN_round (k + 1) (subEnv_cons (congrArg (fun z => some (I z)) hq.symm) (subEnv_cons rfl (subEnv_cons rfl (subEnv_cons rfl (subEnv_nil _))))) ⟨hlt, Ext.then_iv (e2.ext e3) c4 (by have := e2.size; omega)⟩ (by omega)
  · obtain rfl : k = ds.length := by omega
    rw [List.take_of_length_le (by omega)]
    repeat' (first | apply Jbq | apply Jbr | apply Jbs | apply Jbt | apply Jbu | apply Jca | apply Jcb | apply Jcc | (apply Jcg; (first | exact Jaa rfl | exact Jab rfl); exact rfl))
    exact TR_of (res1 rfl rfl) ⟨rfl, e2⟩
set_option maxHeartbeats 2000000 in
theorem implDiskUsed_c {w : World} {lo hi : Nat} {d : DiskP} {sn sk st : Value} (h : RDk w lo hi d sn sk st) (hl : totD d ≤ 1048576) :
    Ret Tryz.prog 95 #[.agg (dskC d sn sk st).toArray] w fun v' w' => v' = I (pUsed d.nodes) ∧ Ext w w' := by
  obtain ⟨l1, _, _⟩ := totD_parts hl
  obtain ⟨ds, A, c, hm, rfl, _, hr, hok⟩ := h.1
  have hln : d.nodes.length = ds.length := by rw [← hm, List.length_map]
  refine Ret_enter Tryz.func95 rfl rfl rfl ?_
  repeat' (first | apply Jbs | apply Jbt)
  refine TL_box (cs := dskC d (.slice A ds.length c) sk st) rfl rfl ?_
  intro w1 g E hg hz hbk
  clear hg hz
  repeat' (first | apply Jbq | apply Jbr | apply Jbs | apply Jbt | apply Jby | (apply Jcg; (first | exact Jaa rfl | exact Jab rfl | exact Jac Us.h rfl | (apply Jbl; exact Us.h; exact rfl; exact Sz.h; exact rfl)); exact rfl) | refine Jcg (Pu_load Fl.h rfl (fun _ e => by rw [e]; exact hbk.ld rfl)) rfl ?_)
  refine TC_loop (ι := Nat) (fun k => [(3, I (pUsed (d.nodes.take k))), (7, .slice A ds.length c), (8, I ds.length), (9, I k)]) (fun k w' => k ≤ ds.length ∧ Ext w w') (fun k => ds.length - k) 0 (subEnv_cons rfl (subEnv_cons rfl (subEnv_cons rfl (subEnv_cons rfl (subEnv_nil _))))) ⟨Nat.zero_le _, E⟩ ?_
  intro k w2 ⟨hk, e2⟩
  repeat' (first | apply Jbq | apply Jbr | apply Jbs | apply Jbt | (apply Jcg; exact Jad rfl rfl; exact rfl))
  refine Jcx rfl (fun hlt0 => ?_) (fun hge => ?_)
  · have hlt : k < ds.length := by omega
    obtain ⟨ad, rfl, hc⟩ := Rd.elem NdC_len (hr.ext e2) hlt
    have hnk : d.nodes[k]'(by omega) = NdP ds[k] := by simp only [← hm, List.getElem_map]
    have hq := pUsed_take (l := d.nodes) (k := k) (by omega)
    have hq2 := pUsed_le (d.nodes.take k)
    have hq3 := pUsed_le (d.nodes.take (k + 1))
    have hq4 := totNd_le_take d.nodes k
    have hq5 := totNd_le_take d.nodes (k + 1)
    rw [hnk] at hq
    obtain ⟨⟨Ab, cb, hvb, _⟩, ⟨As, cs, hvs, _⟩⟩ := hok _ (List.getElem_mem hlt)
    obtain ⟨x, hx⟩ : ∃ x, x = ds[k] := ⟨_, rfl⟩
    rw [← hx] at hc hq hvb hvs
    obtain ⟨id, body, safe, vb, vs⟩ := x
    simp only at hvb hvs
    subst hvb hvs
    simp only [NdM, NdP] at hq
    repeat' (first | apply Jbq | apply Jbr | apply Jbs | apply Jbt | apply Jbx | apply Jby | apply Jbz | (apply Jcg; (first | exact Jaa rfl | exact Jab rfl | exact Jac Us.h rfl | exact Jaf rfl rfl (by omega) | exact Jar Us.h Sz.h rfl rfl (by omega) | exact Jaz rfl rfl | (apply Jbl; exact Us.h; exact rfl; exact Sz.h; exact rfl)); exact rfl) | refine Jcg (Pu_loadAgg (cs := NdC ⟨id, body, safe, .slice Ab body.length cb, .slice As safe.length cs⟩) Us.h rfl Sz.h rfl (fun _ e j u hu => by rw [e]; exact hc j u hu)) rfl ?_ | (refine TL_alloc Zs.h rfl rfl ?_; intro w3 g3 e3 hg3 hz3 hb3) | (refine TL_storeAgg rfl rfl Sz.h rfl hb3 rfl ?_; intro w4 c4 hz4 hb4) | refine Jcg (Pu_load Fl.h rfl (fun _ e => by rw [e]; exact hb4.ld rfl)) rfl ?_)
    exact TN_round (k + 1) (subEnv_cons (congrArg (fun z => some (I z)) hq.symm) (subEnv_cons rfl (subEnv_cons rfl (subEnv_cons rfl (subEnv_nil _))))) ⟨hlt, Ext.then_iv (e2.ext e3) c4 (by have := e2.size; omega)⟩ (by omega)
  · obtain rfl : k = ds.length := by omega
    rw [List.take_of_length_le (by omega)]
    repeat' (first | apply Jbq | apply Jbr | apply Jbs | apply Jbt | apply Jbu | apply Jca | apply Jcb | apply Jcc | (apply Jcg; (first | exact Jaa rfl | exact Jab rfl); exact rfl))
    exact TR_of (res1 rfl rfl) ⟨rfl, e2⟩
end Go.Proofs.YtggaghghclomkaaGreat

/- Directories in the order of their names, and when a disk is right: the plain law. No condition. -/
namespace Go.Proofs.YtggaghghclomkaaGreat
open Go.RowKit

/-! ### the order of texts -/
theorem less_before : ∀ a b : List UInt8, Op.bytesLess a b = bytesBefore a b
  | [], [] => by simp [Op.bytesLess, bytesBefore]
  | [], _ :: _ => by simp [Op.bytesLess, bytesBefore]
  | _ :: _, [] => by simp [Op.bytesLess, bytesBefore]
  | a :: r, b :: s => by simp [Op.bytesLess, bytesBefore, less_before r s]
theorem bb_irrefl (a : List UInt8) : bytesBefore a a = false := WideAt.bytes_irrefl a
theorem bb_total {a b : List UInt8} (h : a ≠ b) : bytesBefore a b = true ∨ bytesBefore b a = true := WideAt.bytes_total a b h
theorem bb_trans {a b c : List UInt8} (h : bytesBefore a b = true) (k : bytesBefore b c = true) : bytesBefore a c = true := WideShapes.bytes_trans a b c h k
theorem bb_asymm {a b : List UInt8} (h : bytesBefore a b = true) : bytesBefore b a = false := by
  cases k : bytesBefore b a with
  | false => rfl
  | true => have := bb_trans h k; rw [bb_irrefl] at this; cases this

/-! ### directories -/
def dHas (L : List LkD) (s : List UInt8) : Bool := L.any (fun x => x.name == s)
def dFind (L : List LkD) (s : List UInt8) : Int := match L.find? (fun x => x.name == s) with | some x => x.id | none => 0
def dLess (L : List LkD) (s : List UInt8) : List LkD := L.filter (fun x => !(x.name == s))
def dIns (x : LkD) : List LkD → List LkD
  | [] => [x]
  | y :: r => if bytesBefore x.name y.name = true then x :: y :: r else y :: dIns x r
def Asc (L : List LkD) : Prop := L.Pairwise (fun x y => bytesBefore x.name y.name = true)
def Pos (L : List LkD) : Prop := ∀ x ∈ L, 1 ≤ x.id
theorem mem_dIns {x y : LkD} : ∀ L : List LkD, y ∈ dIns x L ↔ y = x ∨ y ∈ L
  | [] => by simp [dIns]
  | z :: r => by
    unfold dIns
    split
    · simp
    · rw [List.mem_cons, mem_dIns r, List.mem_cons]; exact ⟨fun h => h.elim (fun h => .inr (.inl h)) (fun h => h.elim .inl (fun h => .inr (.inr h))), fun h => h.elim (fun h => .inr (.inl h)) (fun h => h.elim .inl (fun h => .inr (.inr h)))⟩
theorem dIns_length (x : LkD) : ∀ L : List LkD, (dIns x L).length = L.length + 1
  | [] => rfl
  | y :: r => by unfold dIns; split <;> simp [dIns_length x r]
theorem dLess_length (L : List LkD) (s : List UInt8) : (dLess L s).length ≤ L.length := List.length_filter_le _ _
theorem mem_dLess {y : LkD} {L : List LkD} {s : List UInt8} (h : y ∈ dLess L s) : y ∈ L := (List.mem_filter.1 h).1
theorem dHas_none {L : List LkD} {s : List UInt8} (h : dHas L s = false) : ∀ y ∈ L, y.name ≠ s := by
  intro y hy e
  have : dHas L s = true := by unfold dHas; rw [List.any_eq_true]; exact ⟨y, hy, by simp [e]⟩
  rw [h] at this; cases this
theorem dHas_dLess (L : List LkD) (s : List UInt8) : dHas (dLess L s) s = false := by
  cases h : dHas (dLess L s) s with
  | false => rfl
  | true =>
    unfold dHas at h
    rw [List.any_eq_true] at h
    obtain ⟨y, hy, he⟩ := h
    have := (List.mem_filter.1 hy).2
    simp only [he, Bool.not_true] at this
    cases this
theorem dLess_none {L : List LkD} {s : List UInt8} (h : dHas L s = false) : dLess L s = L := by
  unfold dLess
  rw [List.filter_eq_self]
  intro y hy
  have := dHas_none h y hy
  simp [this]
theorem asc_dLess {L : List LkD} (h : Asc L) (s : List UInt8) : Asc (dLess L s) := List.Pairwise.filter _ h
theorem asc_dIns {x : LkD} : ∀ {L : List LkD}, Asc L → dHas L x.name = false → Asc (dIns x L)
  | [], _, _ => by simp [dIns, Asc]
  | y :: r, h, hn => by
    have hy : y.name ≠ x.name := dHas_none hn y (by simp)
    have hr : dHas r x.name = false := by unfold dHas at *; rw [List.any_cons, Bool.or_eq_false_iff] at hn; exact hn.2
    unfold Asc at h
    rw [List.pairwise_cons] at h
    unfold dIns
    split
    · rename_i hb
      refine List.pairwise_cons.2 ⟨fun z hz => ?_, List.pairwise_cons.2 h⟩
      rcases List.mem_cons.1 hz with rfl | hz
      · exact hb
      · exact bb_trans hb (h.1 z hz)
    · rename_i hb
      refine List.pairwise_cons.2 ⟨fun z hz => ?_, asc_dIns h.2 hr⟩
      rcases (mem_dIns r).1 hz with rfl | hz
      · exact (bb_total hy).resolve_right hb
      · exact h.1 z hz
theorem dFind_pos {L : List LkD} (hp : Pos L) (s : List UInt8) : 1 ≤ dFind L s ↔ dHas L s = true := by
  unfold dFind dHas
  constructor
  · intro h
    cases hf : L.find? (fun x => x.name == s) with
    | none => rw [hf] at h; simp at h
    | some x => exact List.any_eq_true.2 ⟨x, List.mem_of_find?_eq_some hf, List.find?_some (p := fun x : LkD => x.name == s) hf⟩
  · intro h
    cases hf : L.find? (fun x => x.name == s) with
    | none =>
      rw [List.find?_eq_none] at hf
      rw [List.any_eq_true] at h
      obtain ⟨x, hx, he⟩ := h
      exact absurd he (hf x hx)
    | some x => exact hp x (List.mem_of_find?_eq_some hf)
theorem dFind_none {L : List LkD} {s : List UInt8} (h : dHas L s = false) : dFind L s = 0 := by
  unfold dFind
  have : L.find? (fun x => x.name == s) = none := by
    rw [List.find?_eq_none]
    intro x hx
    have := dHas_none h x hx
    simpa using this
  rw [this]
theorem dFind_mem {L : List LkD} {s : List UInt8} (h : dHas L s = true) : ∃ x ∈ L, x.name = s ∧ x.id = dFind L s := by
  unfold dFind
  cases hf : L.find? (fun x => x.name == s) with
  | none =>
    rw [List.find?_eq_none] at hf
    unfold dHas at h
    rw [List.any_eq_true] at h
    obtain ⟨x, hx, he⟩ := h
    exact absurd he (hf x hx)
  | some x => exact ⟨x, List.mem_of_find?_eq_some hf, by simpa using List.find?_some (p := fun x : LkD => x.name == s) hf, rfl⟩

/-! ### the datum that a map of the program reads as -/
def entD (x : LkD) : Lit × DataW Unit := (.string x.name, .lit (.int .i64 x.id))
def toD (L : List LkD) : DataW Unit := .map (L.map entD)
theorem toD_ins (x : LkD) : ∀ L : List LkD, DataW.insert (entD x) (L.map entD) = (dIns x L).map entD
  | [] => rfl
  | y :: r => by
    have hb : (entD x).1.before (entD y).1 = bytesBefore x.name y.name := rfl
    rw [List.map_cons, DataW.insert, hb, dIns]
    split
    · rfl
    · rw [List.map_cons, toD_ins x r]
theorem toD_filter (L : List LkD) (s : List UInt8) : (L.map entD).filter (fun p => !p.1.sameKey (.string s)) = (dLess L s).map entD := by
  unfold dLess
  rw [List.filter_map]
  rfl
theorem toD_put (L : List LkD) (s : List UInt8) (i : Int) : (toD L).put (.string s) (.lit (.int .i64 i)) = toD (dIns ⟨s, i⟩ (dLess L s)) := by
  unfold toD DataW.put
  simp only
  rw [toD_filter, ← toD_ins]
  rfl
theorem toD_del (L : List LkD) (s : List UInt8) : (toD L).del (.string s) = toD (dLess L s) := by
  unfold toD DataW.del
  simp only
  rw [toD_filter]
theorem toD_has (L : List LkD) (s : List UInt8) : Maps.has (toD L) (.string s) = dHas L s := by
  unfold toD Maps.has dHas
  simp only [List.any_map]
  rfl
theorem toD_at (L : List LkD) (s : List UInt8) : (toD L).atKey (.string s) (.lit (.int .i64 0)) = .lit (.int .i64 (dFind L s)) := by
  unfold toD DataW.atKey dFind
  simp only [List.find?_map]
  have : (fun p : Lit × DataW Unit => p.1.sameKey (.string s)) ∘ entD = fun x => x.name == s := rfl
  rw [this]
  cases L.find? (fun x => x.name == s) <;> rfl

/-! ### turns -/
def pTurn (L : List LkD) (t : TnD) : List LkD :=
  if t.kind = 1 then dIns ⟨t.name, t.id⟩ L
  else if t.kind = 5 then dIns ⟨t.to, dFind L t.name⟩ (dLess (dLess L t.name) t.to) else dLess L t.name
def runT (L : List LkD) (ts : List TnD) : List LkD := ts.foldl pTurn L
def tOk (L : List LkD) (t : TnD) : Prop :=
  pName t.name = true ∧ ((t.kind = 1 ∧ t.to = [] ∧ 1 ≤ t.id ∧ ¬ 1 ≤ dFind L t.name) ∨ (t.kind = 5 ∧ pName t.to = true ∧ t.to ≠ t.name ∧ t.id = 0 ∧ 1 ≤ dFind L t.name) ∨ (t.kind = 6 ∧ t.to = [] ∧ t.id = 0 ∧ 1 ≤ dFind L t.name))
def tOk0 (t : TnD) : Prop :=
  pName t.name = true ∧ ((t.kind = 1 ∧ t.to = []) ∨ (t.kind = 5 ∧ pName t.to = true ∧ t.id = 0) ∨ (t.kind = 6 ∧ t.to = [] ∧ t.id = 0))
def aOk (L : List LkD) (t : TnD) : Prop :=
  (t.kind = 1 ∧ dHas L t.name = false) ∨ (t.kind = 5 ∧ dHas L t.name = true ∧ t.to ≠ t.name) ∨ (t.kind = 6 ∧ dHas L t.name = true)
theorem runT_take {L : List LkD} {ts : List TnD} {k : Nat} (h : k < ts.length) : runT L (ts.take (k + 1)) = pTurn (runT L (ts.take k)) ts[k] := by
  unfold runT
  rw [List.take_succ_eq_append_getElem h, List.foldl_append]
  rfl
theorem tOk_iff {L : List LkD} {t : TnD} (hp : Pos L) (h1 : t.kind = 1 → 1 ≤ t.id) : tOk L t ↔ tOk0 t ∧ aOk L t := by
  have hf := dFind_pos hp t.name
  have hn : ¬ 1 ≤ dFind L t.name ↔ dHas L t.name = false := by rw [hf]; simp
  unfold tOk tOk0 aOk
  rw [hn, hf]
  constructor
  · rintro ⟨h, ⟨a, b, c, d⟩ | ⟨a, b, c, d, e⟩ | ⟨a, b, c, d⟩⟩
    · exact ⟨⟨h, .inl ⟨a, b⟩⟩, .inl ⟨a, d⟩⟩
    · exact ⟨⟨h, .inr (.inl ⟨a, b, d⟩)⟩, .inr (.inl ⟨a, e, c⟩)⟩
    · exact ⟨⟨h, .inr (.inr ⟨a, b, c⟩)⟩, .inr (.inr ⟨a, d⟩)⟩
  · rintro ⟨⟨h, ha⟩, hb⟩
    refine ⟨h, ?_⟩
    rcases ha with ⟨a, b⟩ | ⟨a, b, c⟩ | ⟨a, b, c⟩
    · rcases hb with ⟨x, y⟩ | ⟨x, y, z⟩ | ⟨x, y⟩
      · exact .inl ⟨a, b, h1 a, y⟩
      · exact absurd (a.symm.trans x) (by decide)
      · exact absurd (a.symm.trans x) (by decide)
    · rcases hb with ⟨x, y⟩ | ⟨x, y, z⟩ | ⟨x, y⟩
      · exact absurd (a.symm.trans x) (by decide)
      · exact .inr (.inl ⟨a, b, z, c, y⟩)
      · exact absurd (a.symm.trans x) (by decide)
    · rcases hb with ⟨x, y⟩ | ⟨x, y, z⟩ | ⟨x, y⟩
      · exact absurd (a.symm.trans x) (by decide)
      · exact absurd (a.symm.trans x) (by decide)
      · exact .inr (.inr ⟨a, b, c, y⟩)
theorem pos_pTurn {L : List LkD} {t : TnD} (hp : Pos L) (h : tOk L t) : Pos (pTurn L t) := by
  intro x hx
  unfold pTurn at hx
  rcases h.2 with ⟨a, b, c, d⟩ | ⟨a, b, c, d, e⟩ | ⟨a, b, c, d⟩
  · rw [if_pos a] at hx
    rcases (mem_dIns _).1 hx with rfl | hx
    · exact c
    · exact hp x hx
  · rw [if_neg (by omega), if_pos a] at hx
    rcases (mem_dIns _).1 hx with rfl | hx
    · exact e
    · exact hp x (mem_dLess (mem_dLess hx))
  · rw [if_neg (by omega), if_neg (by omega)] at hx
    exact hp x (mem_dLess hx)
theorem asc_pTurn {L : List LkD} {t : TnD} (ha : Asc L) (h : aOk L t) : Asc (pTurn L t) := by
  unfold pTurn
  rcases h with ⟨a, b⟩ | ⟨a, b, c⟩ | ⟨a, b⟩
  · rw [if_pos a]; exact asc_dIns ha b
  · rw [if_neg (by omega), if_pos a]; exact asc_dIns (asc_dLess (asc_dLess ha _) _) (dHas_dLess _ _)
  · rw [if_neg (by omega), if_neg (by omega)]; exact asc_dLess ha _

/-! ### lists of numbers -/
theorem nodup_sub_length : ∀ {l m : List Int}, l.Nodup → (∀ x ∈ l, x ∈ m) → l.length ≤ m.length
  | [], _, _, _ => Nat.zero_le _
  | a :: r, m, h, hs => by
    rw [List.nodup_cons] at h
    have ha : a ∈ m := hs a (by simp)
    have := nodup_sub_length (l := r) (m := m.erase a) h.2 (fun x hx => by
      have hne : x ≠ a := fun e => h.1 (e ▸ hx)
      exact (List.mem_erase_of_ne hne).2 (hs x (by simp [hx])))
    rw [List.length_erase_of_mem ha] at this
    have hpos : 0 < m.length := List.length_pos_of_mem ha
    simp only [List.length_cons]
    omega
theorem nodup_sub_back {l m : List Int} (h : l.Nodup) (hs : ∀ x ∈ l, x ∈ m) (hl : m.length ≤ l.length) : ∀ x ∈ m, x ∈ l := by
  intro x hx
  by_cases hxl : x ∈ l
  · exact hxl
  · have := nodup_sub_length (l := x :: l) (m := m) (List.nodup_cons.2 ⟨hxl, h⟩) (fun y hy => by
      rcases List.mem_cons.1 hy with rfl | hy
      · exact hx
      · exact hs y hy)
    simp only [List.length_cons] at this
    omega
theorem nodup_of_take {l : List Int} (h : ∀ j (hj : j < l.length), l[j] ∉ l.take j) : l.Nodup := by
  unfold List.Nodup
  rw [List.pairwise_iff_getElem]
  intro i j hi hj hij e
  exact h j hj (by rw [← e]; exact List.mem_take_iff_getElem.2 ⟨i, by omega, rfl⟩)
theorem take_of_nodup {l : List Int} (h : l.Nodup) : ∀ j (hj : j < l.length), l[j] ∉ l.take j := by
  intro j hj hm
  obtain ⟨i, hi, e⟩ := List.mem_take_iff_getElem.1 hm
  unfold List.Nodup at h
  rw [List.pairwise_iff_getElem] at h
  exact h i j (by omega) hj (by omega) e

/-! ### when a disk is right -/
def nIds (l : List NodeP) : List Int := l.map (·.1)
def pIds (d : DiskP) : List Int := d.kept.map (·.id) ++ (d.turns.filter (fun t => decide (t.kind = 1))).map (·.id)
def dBase (d : DiskP) : Prop := (0 ≤ d.room ∧ d.room ≤ 60000) ∧ (-1 ≤ d.fuse ∧ d.fuse ≤ 1000) ∧ (1 ≤ d.next ∧ d.next ≤ 1000000) ∧ d.nodes.length ≤ 8 ∧ d.kept.length ≤ 8 ∧ d.turns.length ≤ 40
def nStep (d : DiskP) (i : Nat) : Prop := ∀ h : i < d.nodes.length, 1 ≤ d.nodes[i].1 ∧ d.nodes[i].1 < d.next ∧ (0 < i → (d.nodes[i - 1]'(by omega)).1 < d.nodes[i].1)
def kStep (d : DiskP) (i : Nat) : Prop := ∀ h : i < d.kept.length, pName d.kept[i].name = true ∧ (0 < i → bytesBefore (d.kept[i - 1]'(by omega)).name d.kept[i].name = true)
structure DOk (d : DiskP) : Prop where
  base : dBase d
  node : ∀ i, nStep d i
  link : ∀ i, kStep d i
  pos : Pos d.kept
  len : (pIds d).length = d.nodes.length
  ids : ∀ j (h : j < (pIds d).length), (pIds d)[j] ∉ (pIds d).take j ∧ (pIds d)[j] ∈ nIds d.nodes
  turn : ∀ j (h : j < d.turns.length), tOk (runT d.kept (d.turns.take j)) d.turns[j]
  used : pUsed d.nodes ≤ d.room
structure IOk (d : DiskP) : Prop where
  base : dBase d
  node : ∀ i, nStep d i
  link : ∀ i, kStep d i
  turn0 : ∀ j (h : j < d.turns.length), tOk0 d.turns[j]
  turn : ∀ j (h : j < d.turns.length), aOk (runT d.kept (d.turns.take j)) d.turns[j]
  nodup : (pIds d).Nodup
  len : (pIds d).length = d.nodes.length
  ids : ∀ p ∈ d.nodes, p.1 ∈ pIds d
  used : pUsed d.nodes ≤ d.room
theorem nodes_rise {d : DiskP} (h : ∀ i, nStep d i) : ∀ (j : Nat) (i : Nat) (hi : i < j) (hj : j < d.nodes.length), (d.nodes[i]'(by omega)).1 < d.nodes[j].1 := by
  intro j
  induction j with
  | zero => intro i hi; omega
  | succ j ih =>
    intro i hi hj
    have h1 := (h (j + 1) hj).2.2 (by omega)
    simp only [Nat.add_sub_cancel] at h1
    rcases Nat.lt_or_ge i j with h2 | h2
    · exact Int.lt_trans (ih i h2 (by omega)) h1
    · obtain rfl : i = j := by omega
      exact h1
theorem nIds_nodup {d : DiskP} (h : ∀ i, nStep d i) : (nIds d.nodes).Nodup := by
  unfold List.Nodup nIds
  rw [List.pairwise_iff_getElem]
  intro i j hi hj hij e
  simp only [List.getElem_map] at e
  simp only [List.length_map] at hi hj
  have := nodes_rise h j i hij hj
  omega
theorem kept_asc {d : DiskP} (h : ∀ i, kStep d i) : Asc d.kept := by
  unfold Asc
  rw [List.pairwise_iff_getElem]
  intro i j
  induction j with
  | zero => intro hi hj hij; omega
  | succ j ih =>
    intro hi hj hij
    have h1 := (h (j + 1) hj).2 (by omega)
    simp only [Nat.add_sub_cancel] at h1
    rcases Nat.lt_or_ge i j with h2 | h2
    · exact bb_trans (ih (by omega) (by omega) h2) h1
    · obtain rfl : i = j := by omega
      exact h1
theorem creates_mem {d : DiskP} {t : TnD} (ht : t ∈ d.turns) (h1 : t.kind = 1) : t.id ∈ pIds d := by
  unfold pIds
  rw [List.mem_append]
  right
  exact List.mem_map.2 ⟨t, List.mem_filter.2 ⟨ht, by simp [h1]⟩, rfl⟩
theorem kept_mem {d : DiskP} {x : LkD} (hx : x ∈ d.kept) : x.id ∈ pIds d := by
  unfold pIds
  rw [List.mem_append]
  left
  exact List.mem_map.2 ⟨x, hx, rfl⟩
theorem nIds_pos {d : DiskP} (h : ∀ i, nStep d i) : ∀ x ∈ nIds d.nodes, 1 ≤ x := by
  intro x hx
  obtain ⟨p, hp, rfl⟩ := List.mem_map.1 hx
  obtain ⟨i, hi, rfl⟩ := List.mem_iff_getElem.1 hp
  exact (h i hi).1
theorem dok_iff (d : DiskP) : DOk d ↔ IOk d := by
  constructor
  · intro h
    have hidn : ∀ x ∈ pIds d, x ∈ nIds d.nodes := by
      intro x hx
      obtain ⟨j, hj, rfl⟩ := List.mem_iff_getElem.1 hx
      exact (h.ids j hj).2
    have hnd : (pIds d).Nodup := nodup_of_take (fun j hj => (h.ids j hj).1)
    have hpos : ∀ x ∈ pIds d, 1 ≤ x := fun x hx => nIds_pos h.node x (hidn x hx)
    have hP : ∀ j, j ≤ d.turns.length → Pos (runT d.kept (d.turns.take j)) := by
      intro j
      induction j with
      | zero => intro _; exact fun x hx => h.pos x (by simpa [runT] using hx)
      | succ j ih => intro hj; rw [runT_take (by omega)]; exact pos_pTurn (ih (by omega)) (h.turn j (by omega))
    have hT := fun j (hj : j < d.turns.length) => (tOk_iff (hP j (by omega)) (fun e => hpos _ (creates_mem (List.getElem_mem hj) e))).1 (h.turn j hj)
    refine ⟨h.base, h.node, h.link, fun j hj => (hT j hj).1, fun j hj => (hT j hj).2, hnd, h.len, fun p hp => ?_, h.used⟩
    refine nodup_sub_back hnd hidn (by unfold nIds; rw [List.length_map, h.len]; exact Nat.le_refl _) p.1 (List.mem_map.2 ⟨p, hp, rfl⟩)
  · intro h
    have hnn := nIds_nodup h.node
    have hback : ∀ x ∈ pIds d, x ∈ nIds d.nodes := nodup_sub_back hnn (fun x hx => by
      obtain ⟨p, hp, rfl⟩ := List.mem_map.1 hx
      exact h.ids p hp) (by unfold nIds; rw [List.length_map, h.len]; exact Nat.le_refl _)
    have hpos : ∀ x ∈ pIds d, 1 ≤ x := fun x hx => nIds_pos h.node x (hback x hx)
    have hP : ∀ j, j ≤ d.turns.length → Pos (runT d.kept (d.turns.take j)) ∧ ∀ i (hi : i < j) (hl : i < d.turns.length), tOk (runT d.kept (d.turns.take i)) d.turns[i] := by
      intro j
      induction j with
      | zero => intro _; exact ⟨fun x hx => hpos _ (kept_mem (by simpa [runT] using hx)), fun i hi => absurd hi (by omega)⟩
      | succ j ih =>
        intro hj
        obtain ⟨i1, i2⟩ := ih (by omega)
        have hlt : j < d.turns.length := by omega
        have ht : tOk (runT d.kept (d.turns.take j)) d.turns[j] := (tOk_iff i1 (fun e => hpos _ (creates_mem (List.getElem_mem hlt) e))).2 ⟨h.turn0 j hlt, h.turn j hlt⟩
        refine ⟨by rw [runT_take hlt]; exact pos_pTurn i1 ht, fun i hi hl => ?_⟩
        rcases Nat.lt_or_ge i j with h2 | h2
        · exact i2 i h2 hl
        · obtain rfl : i = j := by omega
          exact ht
    refine ⟨h.base, h.node, h.link, fun x hx => hpos _ (kept_mem hx), h.len, fun j hj => ⟨take_of_nodup h.nodup j hj, hback _ (List.getElem_mem hj)⟩, fun j hj => (hP (j + 1) (by omega)).2 j (by omega) hj, h.used⟩
open Classical in
noncomputable def pDOk (d : DiskP) : Bool := decide (DOk d)
open Classical in
theorem pDOk_yes {d : DiskP} (h : DOk d) : pDOk d = true := by unfold pDOk; exact decide_eq_true h
open Classical in
theorem pDOk_no {d : DiskP} (h : ¬ DOk d) : pDOk d = false := by unfold pDOk; exact decide_eq_false h
open Classical in
theorem pDOk_of {d : DiskP} (h : pDOk d = true) : DOk d := by unfold pDOk at h; exact of_decide_eq_true h
theorem DOk.asc {d : DiskP} (h : DOk d) (k : Nat) (hk : k ≤ d.turns.length) : Asc (runT d.kept (d.turns.take k)) := by
  have h2 := (dok_iff d).1 h
  induction k with
  | zero => simpa [runT] using kept_asc h.link
  | succ k ih => rw [runT_take (by omega)]; exact asc_pTurn (ih (by omega)) (h2.turn k (by omega))
theorem DOk.posT {d : DiskP} (h : DOk d) (k : Nat) (hk : k ≤ d.turns.length) : Pos (runT d.kept (d.turns.take k)) := by
  induction k with
  | zero => exact fun x hx => h.pos x (by simpa [runT] using hx)
  | succ k ih => rw [runT_take (by omega)]; exact pos_pTurn (ih (by omega)) (h.turn k (by omega))
end Go.Proofs.YtggaghghclomkaaGreat

/- Maps that the program makes: a directory by name, a set of numbers. -/
namespace Go.Proofs.YtggaghghclomkaaGreat
open Go.RowKit
attribute [local irreducible] TL TC TN TX TR TQ TA Ret

theorem rev_ind {α : Type} {motive : List α → Prop} (nil : motive []) (snoc : ∀ r x, motive r → motive (r ++ [x])) (l : List α) : motive l := by
  have h : ∀ m : List α, motive m.reverse := by
    intro m
    induction m with
    | nil => exact nil
    | cons a m ih => rw [List.reverse_cons]; exact snoc _ _ ih
  have := h l.reverse
  rwa [List.reverse_reverse] at this
theorem kStr : Maps.Keyed Tryz.prog 9 := Maps.string_keyed Tryz.underlying9
theorem kInt : Maps.Keyed Tryz.prog 3 := Maps.int_keyed Tryz.underlying3
theorem zInt (w : World) : (zeroValue 3).run Tryz.prog w = .ok (I 0) w := by kernel_rfl
theorem mUnder : Tryz.prog.underlying 104 = some (.map 9 3) := Tryz.underlying104
theorem sUnder : Tryz.prog.underlying 172 = some (.map 3 3) := Tryz.underlying172
theorem wfI {i : Int} (h : -9223372036854775808 ≤ i ∧ i ≤ 9223372036854775807) : (Lit.int .i64 i).wf = true := by
  exact WalkArith.wf_i64 h
theorem plI {i : Int} (h : -9223372036854775808 ≤ i ∧ i ≤ 9223372036854775807) : plainElem (H := Unit) Tryz.prog 3 (I i) = some (.lit (.int .i64 i), []) := plainElem_int Tryz.underlying3 (wfI h)
theorem kyS {s : List UInt8} (h : s.length ≤ 9223372036854775807) : keyOf Tryz.prog 9 (S s) = some (.string s) := by
  have := WideMaps.keyOf_string_mk (P := Tryz.prog) Tryz.underlying9 (s := ⟨s.toArray⟩) (by simp only [maxLen, ByteArray.size, List.size_toArray]; omega)
  simpa using this
theorem kyI {i : Int} (h : -9223372036854775808 ≤ i ∧ i ≤ 9223372036854775807) : keyOf Tryz.prog 3 (I i) = some (.int .i64 i) := Maps.keyOf_int_mk Tryz.underlying3 (wfI h)
/-- Block b is the directory L. -/
def MD (w : World) (b k : Nat) (L : List LkD) : Prop := w.ownsMap Tryz.prog 9 (plainElem Tryz.prog 3) b k (toD L)
def setD (l : List Int) : DataW Unit := Maps.setOf (.lit (.int .i64 1)) (l.map fun i => Lit.int .i64 i)
/-- Block b is a set of the numbers of l. -/
def MS (w : World) (b k : Nat) (l : List Int) : Prop := w.ownsMap Tryz.prog 3 (plainElem Tryz.prog 3) b k (setD l)
section
variable {w w' : World} {b k : Nat} {D : DataW Unit} {T : Nat → Prop} {K : TypeId}
theorem owns_ch {R : Value → Option (DataW Unit × List MemPlace)} (h : w.ownsMap Tryz.prog K R b k D) (c : Ch T w w') (hb : ¬ T b) : w'.ownsMap Tryz.prog K R b k D := by
  obtain ⟨es, clock, h1, h2⟩ := h
  exact ⟨es, clock, (c.block b (Array.getElem?_eq_some_iff.1 h1).1 hb).trans h1, h2⟩
theorem MD.ch {L : List LkD} (h : MD w b k L) (c : Ch T w w') (hb : ¬ T b) : MD w' b k L := owns_ch h c hb
theorem MD.ext {L : List LkD} (h : MD w b k L) (c : Ext w w') : MD w' b k L := h.ch c (fun t => t)
theorem MS.ch {L : List Int} (h : MS w b k L) (c : Ch T w w') (hb : ¬ T b) : MS w' b k L := owns_ch h c hb
theorem MS.ext {L : List Int} (h : MS w b k L) (c : Ext w w') : MS w' b k L := h.ch c (fun t => t)
theorem turned_ch (h : w.mapTurned w' b) : Ch (Iv b (b + 1)) w w' ∧ w'.heap.size = w.heap.size := by
  refine ⟨Ch.of_grown h.grown (fun k hk => by injection hk with hk; subst hk; exact ⟨Nat.le_refl _, Nat.lt_succ_self _⟩), ?_⟩
  obtain ⟨es, clock, es', clock', _, rfl⟩ := h
  simp [ChangeMaps.setBlock]
end
theorem setD_snoc (l : List Int) (i : Int) : setD (l ++ [i]) = (setD l).put (.int .i64 i) (.lit (.int .i64 1)) := by
  unfold setD
  rw [List.map_append]
  exact Maps.setOf_snoc _ _ _
theorem keyI (l : List Int) : ∀ x ∈ l.map (fun i => Lit.int .i64 i), WideAt.IsKeyLit x := by
  intro x hx
  obtain ⟨i, _, rfl⟩ := List.mem_map.1 hx
  trivial
theorem setD_has (l : List Int) (i : Int) : Maps.has (setD l) (.int .i64 i) = decide (i ∈ l) := by
  unfold setD
  rw [Maps.has_setOf _ _ _ (keyI l), List.any_map]
  apply Bool.eq_iff_iff.2
  rw [List.any_eq_true]
  constructor
  · rintro ⟨x, hx, he⟩
    have : x = i := by simpa [Lit.sameKey] using he
    subst this
    simpa using hx
  · intro h
    exact ⟨i, by simpa using h, by simp [Lit.sameKey]⟩
theorem setD_at : ∀ (l : List Int) (i : Int), (setD l).atKey (.int .i64 i) (.lit (.int .i64 0)) = .lit (.int .i64 (if i ∈ l then 1 else 0)) := by
  intro l i
  by_cases h : i ∈ l
  · rw [if_pos h]
    induction l using rev_ind with
    | nil => cases h
    | snoc r x ih =>
      rw [setD_snoc]
      by_cases hx : x = i
      · subst hx
        exact Maps.atKey_put_same (k := .int .i64 x) (Maps.Tidy.isMap (Maps.tidy_setOf _ _ (keyI r))) trivial _ _
      · rw [Maps.atKey_put_other (by intro e; injection e with _ e; exact hx e.symm)]
        refine ih ?_
        rcases List.mem_append.1 h with h | h
        · exact h
        · exact absurd (List.mem_singleton.1 h).symm hx
  · rw [if_neg h]
    exact Maps.atKey_of_not_has (by rw [setD_has]; exact decide_eq_false h) _
theorem setD_size_snoc (l : List Int) (i : Int) : Maps.size (setD (l ++ [i])) = if i ∈ l then Maps.size (setD l) else Maps.size (setD l) + 1 := by
  rw [setD_snoc, Maps.size_put (D := setD l) (Maps.tidy_setOf _ _ (keyI l)), setD_has]
  by_cases h : i ∈ l <;> simp [h]
theorem setD_size (l : List Int) : Maps.size (setD l) ≤ l.length ∧ (Maps.size (setD l) = l.length ↔ l.Nodup) := by
  induction l using rev_ind with
  | nil => exact ⟨by simp [setD, Maps.setOf, Maps.size], by simp [setD, Maps.setOf, Maps.size]⟩
  | snoc r x ih =>
    rw [setD_size_snoc, List.length_append, List.length_singleton, List.nodup_append]
    by_cases h : x ∈ r
    · rw [if_pos h]
      refine ⟨by omega, ⟨fun e => by omega, fun e => absurd rfl (e.2.2 x h x (by simp))⟩⟩
    · rw [if_neg h]
      refine ⟨by omega, ⟨fun e => ⟨ih.2.1 (by omega), by simp, fun a ha b hb => ?_⟩, fun e => by rw [ih.2.2 e.1]⟩⟩
      rw [List.mem_singleton.1 hb]
      intro e; subst e; exact h ha
section
variable {P : Program} {C : World → Prop} {n : Nat} {l : Env} {dd : Option Nat} {w : World} {ty t : TypeId} {pos : String} {af : Array Edge} {m x : Operand} {u key v : Value} {c : Bool}
theorem Pu_lookG (hm : ev l m = some u) (hx : ev l x = some key) (h : ∀ w, C w → (Instr.lookup t u key c).run P w = .ok v w) : Pu P C n l ⟨dd, .lookup t m x c, ty, pos, af, none⟩ v := fun a ha w hw => by
  simp [execOp, ha.eval hm, ha.eval hx, h w hw, Result.andThen]
theorem Pu_lenG (hm : ev l m = some u) (h : ∀ w, C w → (Builtin.len_ #[t] ty #[u]).run P w = .ok v w) : Pu P C n l ⟨dd, .call { callee := .builtin .len, args := #[m], argTypes := #[t] }, ty, pos, af, none⟩ v := fun a ha w hw => by
  simp [execOp, resolve, invoke, builtin, ha.eval hm, h w hw, Result.andThen]
theorem alloc_size (w : World) (o : Obj) : (w.alloc o).heap.size = w.heap.size + 1 := by simp
theorem TL_mapG {L : List Oper} {Q : Exit → Act → World → Prop} {d : Nat} {rest : List Oper} (hn : Nat.blt d n = true)
    (h : TL P L Q rest n ((d, .map (some w.heap.size)) :: l) (w.alloc (.map #[] 0))) : TL P L Q (⟨some d, .makeMap t none, ty, pos, af, none⟩ :: rest) n l w :=
  TL_run (w' := w.alloc (.map #[] 0)) rfl rfl hn (fun s _ => by simp [execOp, run_makeMap, Result.andThen]) h
end
section
variable {C : World → Prop} {L : List Oper} {Q : Exit → Act → World → Prop} {n d : Nat} {l : Env} {w : World} {rest : List Oper} {ty : TypeId} {pos : String} {af : Array Edge} {m x y : Operand} {b k : Nat} {dd : Option Nat}
theorem TL_makeMap {t : TypeId} (hn : Nat.blt d n = true)
    (h : ∀ w', Ext w w' → w'.heap.size = w.heap.size + 1 → MD w' w.heap.size 0 [] → MS w' w.heap.size 0 [] → TL Tryz.prog L Q rest n ((d, .map (some w.heap.size)) :: l) w') :
    TL Tryz.prog L Q (⟨some d, .makeMap t none, ty, pos, af, none⟩ :: rest) n l w := by
  exact TL_mapG hn (h _ (Ext.alloc_ _ _) (alloc_size _ _) (World.ownsMap_made _ _ _ _) (World.ownsMap_made _ _ _ _))
theorem Pu_dirLook {s : List UInt8} (hm : ev l m = some (.map (some b))) (hx : ev l x = some (S s)) (hs : s.length ≤ 9223372036854775807) {D : List LkD} (hM : ∀ w, C w → ∃ k, MD w b k D) :
    Pu Tryz.prog C n l ⟨dd, .lookup 104 m x true, ty, pos, af, none⟩ (.tuple #[I (dFind D s), .bool (dHas D s)]) := Pu_lookG hm hx fun w hw => by
  obtain ⟨k, hk⟩ := hM w hw
  obtain ⟨v, ps, hrun, hv⟩ := World.ownsMap.look_ok hk kStr mUnder (zInt w) (plI (by omega)) (kyS hs)
  rw [toD_at, toD_has] at *
  obtain ⟨c, rfl, hc, _⟩ := plainElem_int_inv Tryz.underlying3 hv
  simp only [Prod.mk.injEq, DataW.lit.injEq, Lit.int.injEq, true_and] at hc
  rw [hrun, hc.1]
theorem Pu_dirLookB {s : List UInt8} {q : Bool} (hm : ev l m = some (.map (some b))) (hx : ev l x = some (S s)) (hs : s.length ≤ 9223372036854775807) {D : List LkD} (hq : dHas D s = q) (hM : ∀ w, C w → ∃ k, MD w b k D) :
    Pu Tryz.prog C n l ⟨dd, .lookup 104 m x true, ty, pos, af, none⟩ (.tuple #[I (dFind D s), .bool q]) := by
  rw [← hq]; exact Pu_dirLook hm hx hs hM
theorem Pu_setLook {i : Int} (hm : ev l m = some (.map (some b))) (hx : ev l x = some (I i)) (hi : -9223372036854775808 ≤ i ∧ i ≤ 9223372036854775807) {s : List Int} (hM : ∀ w, C w → ∃ k, MS w b k s) :
    Pu Tryz.prog C n l ⟨dd, .lookup 172 m x false, ty, pos, af, none⟩ (I (if i ∈ s then 1 else 0)) := Pu_lookG hm hx fun w hw => by
  obtain ⟨k, hk⟩ := hM w hw
  obtain ⟨c, hrun, hc, _⟩ := World.ownsMap.lookup_int hk kInt sUnder Tryz.underlying3 (zInt w) (kyI hi)
  rw [setD_at] at hc
  simp only [DataW.lit.injEq, Lit.int.injEq, true_and] at hc
  rw [hrun, hc]
theorem Pu_setLen (hm : ev l m = some (.map (some b))) {s : List Int} (hM : ∀ w, C w → ∃ k, MS w b k s) :
    Pu Tryz.prog C n l ⟨dd, .call { callee := .builtin .len, args := #[m], argTypes := #[172] }, ty, pos, af, none⟩ (I (Maps.size (setD s) : Nat)) := Pu_lenG hm fun w hw => by
  obtain ⟨k, hk⟩ := hM w hw
  exact World.ownsMap.len hk sUnder ty
theorem TL_dirPut {D : List LkD} {s : List UInt8} {i : Int} (hm : ev l m = some (.map (some b))) (hx : ev l x = some (S s)) (hy : ev l y = some (I i)) (hM : MD w b k D) (hs : s.length ≤ 9223372036854775807)
    (hi : -9223372036854775808 ≤ i ∧ i ≤ 9223372036854775807) (hk : k < 1048576)
    (h : ∀ w', Ch (Iv b (b + 1)) w w' → w'.heap.size = w.heap.size → MD w' b (k + 1) (dIns ⟨s, i⟩ (dLess D s)) → TL Tryz.prog L Q rest n l w') :
    TL Tryz.prog L Q (⟨none, .mapUpdate 104 m x y, ty, pos, af, none⟩ :: rest) n l w := by
  unfold TL at *
  intro a ha
  refine wpList_mapUpdate_in (H := Unit) w rfl m x y _ rfl _ _ kStr mUnder (plainElem Tryz.prog 3) b k (toD D) (ha.eval hm) hM (by simp only [maxLen]; omega) (S s) (I i) (.string s) (ha.eval hx) (ha.eval hy) (kyS hs) (.lit (.int .i64 i)) [] (plI hi) ?_
  intro w' h1 h2
  obtain ⟨c1, c2⟩ := turned_ch h2
  rw [toD_put] at h1
  exact h w' c1 c2 h1 _ (ha.put_none _)
theorem TL_setPut {s : List Int} {i : Int} (hm : ev l m = some (.map (some b))) (hx : ev l x = some (I i)) (hy : ev l y = some (I 1)) (hM : MS w b k s) (hi : -9223372036854775808 ≤ i ∧ i ≤ 9223372036854775807) (hk : k < 1048576)
    (h : ∀ w', Ch (Iv b (b + 1)) w w' → w'.heap.size = w.heap.size → MS w' b (k + 1) (s ++ [i]) → TL Tryz.prog L Q rest n l w') :
    TL Tryz.prog L Q (⟨none, .mapUpdate 172 m x y, ty, pos, af, none⟩ :: rest) n l w := by
  unfold TL at *
  intro a ha
  refine wpList_mapUpdate_in (H := Unit) w rfl m x y _ rfl _ _ kInt sUnder (plainElem Tryz.prog 3) b k (setD s) (ha.eval hm) hM (by simp only [maxLen]; omega) (I i) (I 1) (.int .i64 i) (ha.eval hx) (ha.eval hy) (kyI hi) (.lit (.int .i64 1)) [] (plI (by omega)) ?_
  intro w' h1 h2
  obtain ⟨c1, c2⟩ := turned_ch h2
  rw [← setD_snoc] at h1
  exact h w' c1 c2 h1 _ (ha.put_none _)
theorem TL_dirDel {D : List LkD} {s : List UInt8} (hm : ev l m = some (.map (some b))) (hx : ev l x = some (S s)) (hM : MD w b k D) (hs : s.length ≤ 9223372036854775807)
    (h : ∀ w', Ch (Iv b (b + 1)) w w' → w'.heap.size = w.heap.size → MD w' b k (dLess D s) → TL Tryz.prog L Q rest n l w') :
    TL Tryz.prog L Q (⟨none, .call { callee := .builtin .delete, args := #[m, x], argTypes := #[104, 9] }, ty, pos, af, none⟩ :: rest) n l w := by
  unfold TL at *
  intro a ha
  refine wpList_delete_own (H := Unit) w rfl m x _ _ rfl _ kStr mUnder (plainElem Tryz.prog 3) b k (toD D) (ha.eval hm) hM (S s) (.string s) (ha.eval hx) (kyS hs) ?_
  intro w' h1 h2
  obtain ⟨c1, c2⟩ := turned_ch h2
  rw [toD_del] at h1
  exact h w' c1 c2 h1 _ (ha.put_none _)
end
end Go.Proofs.YtggaghghclomkaaGreat
