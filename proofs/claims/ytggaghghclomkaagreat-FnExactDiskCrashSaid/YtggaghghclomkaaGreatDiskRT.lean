/- Lists of nodes, links and turns that can be read, and the laws' helpers on them. -/
import Derived.Test.YtggaghghclomkaaGreatDiskR
namespace Go.Proofs.YtggaghghclomkaaGreat
open Go.RowKit
attribute [local irreducible] TL TC TN TX TR TQ TA Pu Ret

/-! lists of Turn -/
theorem TnC_len (d : TnD) : (TnC d).length = 4 := rfl
def totTn (l : List TurnP) : Int := (l.map TnW).sum
theorem TnW_nn (p : TurnP) : 0 ≤ TnW p := by unfold TnW; omega
theorem totTn_take {l : List TurnP} {k : Nat} (h : k < l.length) : totTn (l.take (k + 1)) = totTn (l.take k) + TnW l[k] := by
  unfold totTn
  rw [List.take_succ_eq_append_getElem h, List.map_append, List.sum_append]
  simp
theorem totTn_nn (l : List TurnP) : 0 ≤ totTn l := by
  induction l with
  | nil => simp [totTn]
  | cons a l ih => have := TnW_nn a; simp only [totTn, List.map_cons, List.sum_cons] at *; omega
theorem totTn_mem {l : List TurnP} {p : TurnP} (h : p ∈ l) : TnW p ≤ totTn l := by
  induction l with
  | nil => cases h
  | cons a l ih =>
    have := totTn_nn l
    have := TnW_nn a
    simp only [totTn, List.map_cons, List.sum_cons] at *
    rcases List.mem_cons.1 h with rfl | h
    · omega
    · have := ih h; omega
def RT (w : World) (lo hi : Nat) (v : Value) (l : List TurnP) : Prop := ∃ (ds : List TnD) (A : Option Addr) (c : Nat), ds.map TnP = l ∧ v = .slice A ds.length c ∧ ds.length ≤ c ∧ Rd w lo hi 4 A ds.length (cellsL TnC ds) ∧ ∀ d ∈ ds, TnOk w lo hi d
theorem RT.ch {w w' : World} {lo hi : Nat} {v : Value} {l : List TurnP} {T : Nat → Prop} (h : RT w lo hi v l) (c : Ch T w w') (hd : ∀ k, lo ≤ k → k < hi → ¬ T k) : RT w' lo hi v l := by
  obtain ⟨ds, A, cc, h1, h2, h3, h4, h5⟩ := h
  exact ⟨ds, A, cc, h1, h2, h3, h4.ch c hd, fun d hm => (h5 d hm).ch c hd⟩
theorem RT.ext {w w' : World} {lo hi : Nat} {v : Value} {l : List TurnP} (h : RT w lo hi v l) (c : Ext w w') : RT w' lo hi v l := h.ch c (fun _ _ _ t => t)
theorem RT.one {w : World} {lo hi : Nat} {v : Value} {l : List TurnP} (h : RT w lo hi v l) : v.oneCell' = true := by obtain ⟨_, _, _, _, rfl, _⟩ := h; rfl
theorem RT.wide {w : World} {lo hi lo' hi' : Nat} {v : Value} {l : List TurnP} (h : RT w lo hi v l) (h1 : lo' ≤ lo) (h2 : hi ≤ hi') (h3 : hi' ≤ w.heap.size) : RT w lo' hi' v l := by
  obtain ⟨ds, A, cc, g1, g2, g3, g4, g5⟩ := h
  exact ⟨ds, A, cc, g1, g2, g3, g4.wide h1 h2 h3, fun d hm => (g5 d hm).wide h1 h2 h3⟩
set_option maxHeartbeats 1000000 in
theorem szTurnS_k {w : World} {lo hi : Nat} {v : Value} {l : List TurnP} {left : Int} (h : RT w lo hi v l) (hlen : l.length ≤ 9223372036854775807) (h0 : 0 ≤ left) (h1 : left ≤ 1048576) (hd : ∀ p ∈ l, TnFit p) :
    Ret Tryz.prog 56 #[v, I left] w fun v w' => (v = I (-1) ∨ (v = I (left - l.length - totTn l) ∧ l.length + totTn l ≤ left)) ∧ Ext w w' := by
  obtain ⟨ds, A, c, rfl, rfl, _, hr, hok⟩ := h
  rw [List.length_map] at hlen ⊢
  refine Ret_enter Tryz.func56 rfl rfl rfl ?_
  repeat' (first | apply Jbq | apply Jbr | apply Jbs | apply Jbt | (apply Jcg; (first | exact Jaa rfl | exact Jab rfl | exact Jac Us.h rfl | exact Jad rfl rfl | exact Jap rfl rfl (by omega)); exact rfl))
  refine Jcx rfl (fun hb => ?_) (fun hb => ?_)
  · repeat' (first | apply Jbq | apply Jbr | apply Jbs | apply Jbt | apply Jbu | apply Jbv | (apply Jcg; exact Jab rfl; exact rfl))
    exact TR_of (res1 rfl rfl) ⟨.inl rfl, Ch.refl _ _⟩
  · repeat' (first | apply Jbq | apply Jbr | apply Jbs | apply Jbt | apply Jby | apply Jbz | (apply Jcg; exact Jab rfl; exact rfl))
    refine TC_loop (ι := Nat) (fun k => [(0, .slice A ds.length c), (1, I (left - ds.length - totTn ((ds.map TnP).take k))), (5, I k)]) (fun k w' => k ≤ ds.length ∧ ds.length + totTn ((ds.map TnP).take k) ≤ left ∧ Ext w w') (fun k => ds.length - k) 0
      (subEnv_cons rfl (subEnv_cons (congrArg (fun z => some (I z)) (by simp [totTn])) (subEnv_cons rfl (subEnv_nil _)))) ⟨Nat.zero_le _, by simp [totTn]; omega, Ch.refl _ _⟩ ?_
    intro k w2 ⟨hk, hle, e2⟩
    have hnn := totTn_nn ((ds.map TnP).take k)
    repeat' (first | apply Jbq | apply Jbr | apply Jbs | apply Jbt | (apply Jcg; (first | exact Jaa rfl | exact Jac Us.h rfl | exact Jad rfl rfl); exact rfl))
    refine Jcx rfl (fun hlt0 => ?_) (fun hge => ?_)
    · have hlt : k < ds.length := by omega
      obtain ⟨ad, rfl, hc⟩ := Rd.elem TnC_len (hr.ext e2) hlt
      have hmem := List.getElem_mem hlt
      have hdk := hd _ (List.mem_map_of_mem (f := TnP) hmem)
      have ht := totTn_take (l := ds.map TnP) (k := k) (by rw [List.length_map]; exact hlt)
      rw [List.getElem_map] at ht
      have hwn := TnW_nn (TnP ds[k])
      repeat' (first | apply Jbr | apply Jbs | apply Jbt | apply Jby | apply Jbz | (apply Jcg; (first | exact Jaa rfl | exact Jar Us.h Sz.h rfl rfl (by omega)); exact rfl) | refine Jcg (Pu_loadAgg (cs := TnC ds[k]) Us.h rfl Sz.h rfl (fun _ e j u hu => by rw [e]; exact hc j u hu)) rfl ?_)
      refine TL_call rfl en130 (szTurn_c ((hok _ hmem).ch e2 (fun _ _ _ t => t)) hdk (by omega) (by omega)) rfl rfl ?_
      rintro _ w3 ⟨hv, e3⟩
      rcases hv with rfl | ⟨rfl, hle3⟩
      · repeat' (first | apply Jbq | apply Jbr | apply Jbs | apply Jbt | apply Jbu | apply Jbv | apply Jbw | (refine Jce rfl ?_) | (apply Jcg; (first | exact Jaa rfl | exact Jab rfl | exact Jad rfl rfl); exact rfl))
        exact TR_of (res1 rfl rfl) ⟨.inl rfl, e2.ext e3⟩
      · repeat' (first | apply Jbq | apply Jbr | apply Jbs | apply Jbt | apply Jbx | apply Jbz | (apply Jcg; (first | exact Jaa rfl | exact Jab rfl | exact Jad rfl rfl | exact Jaf rfl rfl (by omega)); exact rfl) | (refine Jcx rfl (fun hb => ?_) (fun hb => ?_) <;> (try (exfalso; omega))))
        exact TN_round (k + 1) (subEnv_cons rfl (subEnv_cons (congrArg (fun z => some (I z)) (by omega)) (subEnv_cons rfl (subEnv_nil _)))) ⟨hlt, by omega, e2.ext e3⟩ (by omega)
    · obtain rfl : k = ds.length := by omega
      rw [List.take_of_length_le (by simp)] at *
      repeat' (first | apply Jbq | apply Jbr | apply Jbs | apply Jbt | apply Jbu | apply Jca | apply Jcb | apply Jcc | (apply Jcg; (first | exact Jaa rfl | exact Jab rfl); exact rfl))
      exact TR_of (res1 rfl rfl) ⟨.inr ⟨rfl, hle⟩, e2⟩
set_option maxHeartbeats 1000000 in
theorem toTurnS_k {w : World} {lo hi : Nat} {v : Value} {l : List TurnP} (h : RT w lo hi v l) (hl : l.length + totTn l ≤ 1048576) :
    Ret Tryz.prog 64 #[v] w fun v' w' => Ext w w' ∧ RT w' w.heap.size w'.heap.size v' l := by
  obtain ⟨ds, A, c, rfl, rfl, _, hr, hok⟩ := h
  have hnn := totTn_nn (ds.map TnP)
  rw [List.length_map] at hl
  refine Ret_enter Tryz.func64 rfl rfl rfl ?_
  repeat' (first | apply Jbq | apply Jbr | apply Jbs | apply Jbt | (apply Jcg; (first | exact Jaa rfl | exact Jab rfl | exact Jac Us.h rfl); exact rfl))
  refine TL_make Us.h Inf.h rfl rfl (by omega) (by omega) (by omega) rfl ?_
  intro w1 g e1 hg hz1 hown
  repeat' (first | apply Jbq | apply Jbr | apply Jbs | apply Jbt | apply Jby | (apply Jcg; exact Jab rfl; exact rfl))
  obtain ⟨xs, hxs⟩ : ∃ xs, xs = (madeCells (Value.cells (.agg #[.int .i64 0, .string ByteArray.empty, .string ByteArray.empty, .int .i64 0])) ((ds.length : Int).toNat * 4)).toList := ⟨_, rfl⟩
  rw [← hxs] at hown
  have hxl : xs.length = ds.length * 4 := by have := hown.len; simpa using this
  refine TC_loop (ι := Nat × List TnD) (fun x => [(0, .slice A ds.length c), (3, .slice (some ⟨g, 0, none⟩) ds.length ds.length), (4, I x.1)])
    (fun x w' => x.1 ≤ ds.length ∧ x.2.map TnP = (ds.map TnP).take x.1 ∧ x.2.length = x.1 ∧ Ext w w' ∧ Own w' g (g + 1) 121 4 (some ⟨g, 0, none⟩) ds.length ds.length (cellsL TnC x.2 ++ xs.drop (x.1 * 4)) ∧ ∀ d ∈ x.2, TnOk w' (g + 1) w'.heap.size d) (fun x => ds.length - x.1) (0, [])
    (subEnv_cons rfl (subEnv_cons rfl (subEnv_cons rfl (subEnv_nil _)))) ⟨Nat.zero_le _, by simp, rfl, e1, by simpa [cellsL] using hown, by simp⟩ ?_
  rintro ⟨k, ys⟩ w2 ⟨hk, hys, hyl, e2, hown2, hok2⟩
  simp only at hk hys hyl hown2 hok2
  repeat' (first | apply Jbq | apply Jbr | apply Jbs | apply Jbt | (apply Jcg; (first | exact Jaa rfl | exact Jac Us.h rfl | exact Jad rfl rfl); exact rfl))
  refine Jcx rfl (fun hlt0 => ?_) (fun hge => ?_)
  · have hlt : k < ds.length := by omega
    obtain ⟨ad, rfl, hc⟩ := Rd.elem TnC_len (hr.ext e2) hlt
    have hmem := List.getElem_mem hlt
    have hwk := totTn_mem (List.mem_map_of_mem (f := TnP) hmem)
    repeat' (first | apply Jbr | apply Jbs | apply Jbt | apply Jby | apply Jbz | (apply Jcg; (first | exact Jaa rfl | exact Jar Us.h Sz.h rfl rfl (by omega)); exact rfl) | refine Jcg (Pu_loadAgg (cs := TnC ds[k]) Us.h rfl Sz.h rfl (fun _ e j u hu => by rw [e]; exact hc j u hu)) rfl ?_)
    refine TL_call rfl en138 (toTurn_c ((hok _ hmem).ch e2 (fun _ _ _ t => t)) (by omega)) rfl rfl ?_
    rintro _ w3 ⟨d', rfl, hp3, e3, hok3⟩
    have hcl : (cellsL TnC ys).length = k * 4 := by rw [cellsL_length TnC_len, hyl]
    have hgl := hown2.hi_le
    have hs3 := e3.size
    repeat' ((apply Jcg; exact Jar Us.h Sz.h rfl rfl (by omega); exact rfl))
    refine TL_storeOwnAgg rfl (add0 g (k * 4)) rfl Sz.h hok3.one (hown2.ext e3) (by rw [TnC_len]; omega) ?_
    intro w4 c4 hz4 hown4
    rw [setL_app _ _ _ _ hcl (by rw [TnC_len, List.length_drop]; omega), List.drop_drop, TnC_len] at hown4
    repeat' (first | apply Jbq | apply Jbr | apply Jbt | apply Jbx | (apply Jcg; (first | exact Jaa rfl | exact Jab rfl | exact Jaf rfl rfl (by omega)); exact rfl))
    refine TN_round (k + 1, ys ++ [d']) (subEnv_cons rfl (subEnv_cons rfl (subEnv_cons rfl (subEnv_nil _)))) ⟨hlt, ?_, by simp [hyl], Ext.then_iv (e2.ext e3) c4 (by omega), ?_, ?_⟩ (by simp only; omega)
    · rw [List.map_append, hys, List.take_succ_eq_append_getElem (by rw [List.length_map]; exact hlt)]; simp [hp3]
    · rw [cellsL_append]
      have : cellsL TnC [d'] = TnC d' := by simp [cellsL]
      rw [this, Nat.succ_mul]
      exact hown4
    · intro x hx
      rcases List.mem_append.1 hx with hx | hx
      · exact (((hok2 x hx).ch e3 (fun _ _ _ t => t)).ch c4 (by intro j _ _; simp only [Iv]; omega)).wide (Nat.le_refl _) (by omega) (Nat.le_refl _)
      · rw [List.mem_singleton.1 hx]
        exact (hok3.ch c4 (by intro j _ _; simp only [Iv]; omega)).wide (by omega) (by omega) (Nat.le_refl _)
  · obtain rfl : k = ds.length := by omega
    rw [List.drop_eq_nil_of_le (by omega), List.append_nil] at hown2
    rw [List.take_of_length_le (by simp)] at hys
    repeat' (first | apply Jbq | apply Jbr | apply Jbs | apply Jbt | apply Jbu | apply Jca | apply Jcb | apply Jcc | (apply Jcg; (first | exact Jaa rfl | exact Jab rfl); exact rfl))
    have hh := hown2.hi_le
    refine TR_of (res1 rfl rfl) ⟨e2, ys, some ⟨g, 0, none⟩, ds.length, hys, by rw [hyl], by omega, ?_, fun d hm => (hok2 d hm).wide (by omega) (Nat.le_refl _) (Nat.le_refl _)⟩
    rw [hyl]
    exact hown2.rd.wide (by omega) hh (Nat.le_refl _)
set_option maxHeartbeats 1000000 in
theorem eqTurnS_k {w : World} {lo hi lo2 hi2 : Nat} {v v2 : Value} {l : List TurnP} (h : RT w lo hi v l) (h2 : RT w lo2 hi2 v2 l) (hl : l.length + totTn l ≤ 1048576) :
    Ret Tryz.prog 74 #[v, v2] w fun v' w' => v' = .bool true ∧ Ext w w' := by
  obtain ⟨ds, A, c, rfl, rfl, _, hr, hok⟩ := h
  obtain ⟨ds2, A2, c2, hm2, rfl, _, hr2, hok2⟩ := h2
  have hnn := totTn_nn (ds.map TnP)
  have hll : ds2.length = ds.length := by have := congrArg List.length hm2; simpa using this
  rw [List.length_map] at hl
  rw [hll] at hr2 ⊢
  refine Ret_enter Tryz.func74 rfl rfl rfl ?_
  repeat' (first | apply Jbq | apply Jbr | apply Jbs | apply Jbt | apply Jby | apply Jbz | (refine Jcf rfl ?_) | (apply Jcg; (first | exact Jbm rfl rfl | exact Jaa rfl | exact Jab rfl | exact Jac Us.h rfl); exact rfl))
  refine TC_loop (ι := Nat) (fun k => [(0, .slice A ds.length c), (1, .slice A2 ds.length c2), (5, I k)]) (fun k w' => k ≤ ds.length ∧ Ext w w') (fun k => ds.length - k) 0 (subEnv_cons rfl (subEnv_cons rfl (subEnv_cons rfl (subEnv_nil _)))) ⟨Nat.zero_le _, Ch.refl _ _⟩ ?_
  intro k w2 ⟨hk, e2⟩
  repeat' (first | apply Jbq | apply Jbr | apply Jbs | apply Jbt | (apply Jcg; (first | exact Jaa rfl | exact Jac Us.h rfl | exact Jad rfl rfl); exact rfl))
  refine Jcx rfl (fun hlt0 => ?_) (fun hge => ?_)
  · have hlt : k < ds.length := by omega
    have hlt2 : k < ds2.length := by omega
    obtain ⟨ad, rfl, hc⟩ := Rd.elem TnC_len (hr.ext e2) hlt
    obtain ⟨ad2, rfl, hc2⟩ := Rd.elem (l := ds2) TnC_len (by rw [hll]; exact hr2.ext e2) hlt2
    have hpk : TnP ds[k] = TnP ds2[k] := by
      have := congrArg (fun l => l[k]?) hm2
      simp only [List.getElem?_map, List.getElem?_eq_getElem hlt, List.getElem?_eq_getElem hlt2, Option.map_some, Option.some.injEq] at this
      exact this.symm
    have hwk := totTn_mem (List.mem_map_of_mem (f := TnP) (List.getElem_mem hlt))
    repeat' (first | apply Jbr | apply Jbs | apply Jby | apply Jbz)
    refine TC_any mixed rfl ?_
    intro w3 hE hz3
    have E3 := e2.ext hE
    (refine Jco 0 rfl (by kernel_rfl) (by kernel_rfl) (by kernel_rfl) (fun _ _ _ h => h) hE (by exact Jaa rfl) rfl ?_; refine Jco 1 rfl (by kernel_rfl) (by kernel_rfl) (by kernel_rfl) (fun _ _ _ h => h) hE (by exact Jaa rfl) rfl ?_; refine Jco 2 rfl (by kernel_rfl) (by kernel_rfl) (by kernel_rfl) (fun _ _ _ h => h) hE (by exact Jar Us.h Sz.h rfl rfl (by omega)) rfl ?_; refine Jco 3 rfl (by kernel_rfl) (by kernel_rfl) (by kernel_rfl) (fun _ _ _ h => h) hE (by exact Pu_loadAgg (cs := TnC ds[k]) Us.h rfl Sz.h rfl (fun w' e j u hu => Ext.cell e (hc j u hu))) rfl ?_; refine Jco 4 rfl (by kernel_rfl) (by kernel_rfl) (by kernel_rfl) (fun _ _ _ h => h) hE (by exact Jaa rfl) rfl ?_; refine Jco 5 rfl (by kernel_rfl) (by kernel_rfl) (by kernel_rfl) (fun _ _ _ h => h) hE (by exact Jaa rfl) rfl ?_; refine Jco 6 rfl (by kernel_rfl) (by kernel_rfl) (by kernel_rfl) (fun _ _ _ h => h) hE (by exact Jar Us.h Sz.h rfl rfl (by omega)) rfl ?_; refine Jco 7 rfl (by kernel_rfl) (by kernel_rfl) (by kernel_rfl) (fun _ _ _ h => h) hE (by exact Pu_loadAgg (cs := TnC ds2[k]) Us.h rfl Sz.h rfl (fun w' e j u hu => Ext.cell e (hc2 j u hu))) rfl ?_)
    refine TA_one 8 (by kernel_rfl) rfl ?_
    refine TL_call rfl en149 (eqTurn_c ((hok _ (List.getElem_mem hlt)).ch E3 (fun _ _ _ t => t)) ((hok2 _ (List.getElem_mem hlt2)).ch E3 (fun _ _ _ t => t)) hpk (by omega)) rfl rfl ?_
    rintro _ w4 ⟨rfl, e4⟩
    replace hE := hE.ext e4
    refine Jbq (TN_any hE ?_)
    (refine Jco 9 rfl (by kernel_rfl) (by kernel_rfl) (by kernel_rfl) (fun _ _ _ h => h) hE (by exact Jaj rfl) rfl ?_)
    refine TA_done (by kernel_rfl) ?_
    repeat' (first | apply Jbq | apply Jbr | apply Jbt | apply Jbx | apply Jbz | (refine Jcf rfl ?_) | (apply Jcg; (first | exact Jaa rfl | exact Jab rfl | exact Jaf rfl rfl (by omega)); exact rfl))
    exact TN_round (k + 1) (subEnv_cons rfl (subEnv_cons rfl (subEnv_cons rfl (subEnv_nil _)))) ⟨hlt, e2.ext hE⟩ (by omega)
  · repeat' (first | apply Jbq | apply Jbr | apply Jbs | apply Jbt | apply Jbu | apply Jca | apply Jcb | apply Jcc | (apply Jcg; exact Jab rfl; exact rfl))
    exact TR_of (res1 rfl rfl) ⟨rfl, e2⟩
end Go.Proofs.YtggaghghclomkaaGreat
