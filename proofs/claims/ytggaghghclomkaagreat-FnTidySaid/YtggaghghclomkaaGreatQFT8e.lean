/- Texts of this proof laid together, in the order in which they build; what each proves stands ahead of it. No condition but those told there. -/
import Derived.Test.YtggaghghclomkaaGreatQFT8d

/- Contracts: whether a disk is right, by the program: the numbers fit; the whole. -/
namespace Go.Proofs.YtggaghghclomkaaGreat
open Go.RowKit
def crs (ts : List TnD) : List Int := (ts.filter (fun t => decide (t.kind = 1))).map (·.id)
theorem crs_len (ts : List TnD) : (crs ts).length ≤ ts.length := by
  unfold crs
  rw [List.length_map]
  exact List.length_filter_le _ _
theorem crs_succ {ts : List TnD} {k : Nat} (h : k < ts.length) : crs (ts.take (k + 1)) = crs (ts.take k) ++ (if ts[k].kind = 1 then [ts[k].id] else []) := by
  unfold crs
  rw [List.take_succ_eq_append_getElem h, List.filter_append, List.map_append]
  by_cases h1 : ts[k].kind = 1 <;> simp [h1]
theorem pIds_crs (d : DiskP) : pIds d = d.kept.map (·.id) ++ crs d.turns := rfl
def IFit (d : DiskP) : Prop := (pIds d).Nodup ∧ (pIds d).length = d.nodes.length ∧ ∀ p ∈ d.nodes, p.1 ∈ pIds d
open Classical in
noncomputable def pFit (d : DiskP) : Bool := decide (IFit d)
open Classical in
theorem pFit_yes {d : DiskP} (h : IFit d) : pFit d = true := by unfold pFit; exact decide_eq_true h
open Classical in
theorem pFit_no {d : DiskP} (h : ¬ IFit d) : pFit d = false := by unfold pFit; exact decide_eq_false h
open Classical in
theorem pFit_of {d : DiskP} (h : pFit d = true) : IFit d := by unfold pFit at h; exact of_decide_eq_true h
open Classical in
theorem pFit_not {d : DiskP} (h : pFit d = false) : ¬ IFit d := by unfold pFit at h; exact of_decide_eq_false h
section
variable {C : World → Prop} {n : Nat} {l : Env} {ty : TypeId} {pos : String} {af : Array Edge} {m x : Operand} {b : Nat} {dd : Option Nat} {i : Int} {s : List Int}
theorem Pu_setLookT (hm : ev l m = some (.map (some b))) (hx : ev l x = some (I i)) (hi : -9223372036854775808 ≤ i ∧ i ≤ 9223372036854775807) (hq : i ∈ s) (hM : ∀ w, C w → ∃ k, MS w b k s) :
    Pu Tryz.prog C n l ⟨dd, .lookup 172 m x false, ty, pos, af, none⟩ (I 1) := by
  have := Pu_setLook (n := n) (ty := ty) (pos := pos) (af := af) (dd := dd) hm hx hi hM
  rwa [if_pos hq] at this
theorem Pu_setLookF (hm : ev l m = some (.map (some b))) (hx : ev l x = some (I i)) (hi : -9223372036854775808 ≤ i ∧ i ≤ 9223372036854775807) (hq : i ∉ s) (hM : ∀ w, C w → ∃ k, MS w b k s) :
    Pu Tryz.prog C n l ⟨dd, .lookup 172 m x false, ty, pos, af, none⟩ (I 0) := by
  have := Pu_setLook (n := n) (ty := ty) (pos := pos) (af := af) (dd := dd) hm hx hi hM
  rwa [if_neg hq] at this
end
theorem in_d (n lo hi : Int) (w : World) : Ret Tryz.prog 101 #[I n, I lo, I hi] w fun v w' => v = .bool (decide (lo ≤ n ∧ n ≤ hi)) ∧ w = w' := (in_c n lo hi w).mono fun _ _ h => ⟨h.1, h.2⟩
attribute [local irreducible] TL TC TN TX TR TQ TA Pu Ret
set_option maxRecDepth 100000 in
set_option maxHeartbeats 4000000 in
theorem idsFit_c {w : World} {lo hi : Nat} {d : DiskP} {sn sk st : Value} (h : RDk w lo hi d sn sk st) (hf : d.fits) (hl1 : d.nodes.length ≤ 1000) (hl2 : d.kept.length ≤ 1000) (hl3 : d.turns.length ≤ 1000) (hN : ∀ p ∈ d.nodes, 1 ≤ p.1 ∧ p.1 ≤ 1000000) :
    Ret Tryz.prog 141 #[.agg (dskC d sn sk st).toArray] w fun v' w' => v' = .bool (pFit d) ∧ Ext w w' := by
  obtain ⟨ds, An, cn, hm, rfl, hcn, hrn, hok⟩ := h.1
  obtain ⟨Ak, ck, rfl, hck, hrk⟩ := h.2.1.row
  obtain ⟨At, ct, rfl, hct, hrt⟩ := h.2.2.row
  have hln : d.nodes.length = ds.length := by rw [← hm, List.length_map]
  obtain ⟨_, _, _, _, ⟨_, f6⟩, ⟨_, f8⟩⟩ := hf
  refine Ret_enter Tryz.func141 rfl rfl rfl ?_
  repeat' (first | apply Jbs | apply Jbt)
  refine TL_box (cs := dskC d (.slice An ds.length cn) (.slice Ak d.kept.length ck) (.slice At d.turns.length ct)) rfl rfl ?_
  intro wb g E hg hz hb0
  clear hz
  have hzb := E.size
  repeat' (first | apply Jbq | apply Jbr | apply Jbs | apply Jbt | (apply Jcg; exact Jab rfl; exact rfl))
  refine TL_makeMap rfl ?_
  intro w1 e1 hz1 _ hM1
  obtain ⟨b, hb⟩ : ∃ b, b = wb.heap.size := ⟨_, rfl⟩
  rw [← hb] at hM1 ⊢
  have hb1 := hb0.ext e1
  repeat' (first | apply Jbq | apply Jbr | apply Jbs | apply Jbt | apply Jby | (apply Jcg; (first | exact Jaa rfl | exact Jab rfl | exact Jac Us.h rfl | (apply Jbl; exact Us.h; exact rfl; exact Sz.h; exact rfl)); exact rfl) | refine Jcg (Pu_load Fl.h rfl (fun _ e => by rw [e]; exact hb1.ld rfl)) rfl ?_)
  refine TC_loop (ι := Nat) (fun k => [(1, .pointer (some ⟨g, 0, none⟩)), (3, .map (some b)), (4, I k), (13, .slice Ak d.kept.length ck), (14, I d.kept.length), (15, I k)]) (fun k w' => k ≤ d.kept.length ∧ Ext wb w' ∧ MS w' b k ((d.kept.take k).map (·.id))) (fun k => d.kept.length - k) 0 (subEnv_cons rfl (subEnv_cons rfl (subEnv_cons rfl (subEnv_cons rfl (subEnv_cons rfl (subEnv_cons rfl (subEnv_nil _))))))) ⟨Nat.zero_le _, e1, hM1⟩ ?_
  intro k w2 ⟨hk, e2, hM2⟩
  have hbl := World.ownsMap.lt hM2
  repeat' (first | apply Jbq | apply Jbr | apply Jbs | apply Jbt | (apply Jcg; exact Jad rfl rfl; exact rfl))
  refine Jcx rfl (fun hlt0 => ?_) (fun hge => ?_)
  · have hlt : k < d.kept.length := by omega
    obtain ⟨ad, rfl, hcell⟩ := Rd.elem LkC_len (hrk.ext (E.ext e2)) hlt
    have hfk := f6 _ (List.getElem_mem hlt)
    repeat' (first | apply Jbq | apply Jbr | apply Jbs | apply Jbt | apply Jby | apply Jbz | (apply Jcg; (first | exact Jaa rfl | exact Jar Us.h Sz.h rfl rfl (by omega) | (apply Jbl; exact Us.h; exact rfl; exact Sz.h; exact rfl)); exact rfl) | refine Jcg (Pu_loadAgg (cs := LkC d.kept[k]) Us.h rfl Sz.h rfl (fun _ e j u hu => by rw [e]; exact hcell j u hu)) rfl ?_ | (refine TL_alloc Zs.h rfl rfl ?_; intro w3 g3 e3 hg3 hz3 hb3) | (refine TL_storeAgg rfl rfl Sz.h rfl hb3 rfl ?_; intro w4 c4 hz4 hb4) | refine Jcg (Pu_load Fl.h rfl (fun _ e => by rw [e]; exact hb4.ld rfl)) rfl ?_)
    have hM4 := (hM2.ext e3).ch c4 (by simp only [Iv]; omega)
    refine TL_setPut rfl rfl rfl hM4 hfk.2 (by omega) ?_
    intro w5 c5 hz5 hM5
    repeat' (first | apply Jbq | apply Jbr | apply Jbt | apply Jbx | (apply Jcg; (first | exact Jaa rfl | exact Jab rfl | exact Jaf rfl rfl (by omega)); exact rfl))
    refine TN_round (k + 1) (subEnv_cons rfl (subEnv_cons rfl (subEnv_cons rfl (subEnv_cons rfl (subEnv_cons rfl (subEnv_cons rfl (subEnv_nil _))))))) ⟨hlt, Ext.then_iv (Ext.then_iv (e2.ext e3) c4 (by have := e2.size; omega)) c5 (by omega), ?_⟩ (by omega)
    rw [List.take_succ_eq_append_getElem hlt, List.map_append]
    exact hM5
  · obtain rfl : k = d.kept.length := by omega
    rw [List.take_length] at hM2
    have hb2 := hb0.ext e2
    clear hb1 hM1 e1
    repeat' (first | apply Jbq | apply Jbr | apply Jbs | apply Jbt | apply Jby | apply Jca | apply Jcb | apply Jcc | (apply Jcg; (first | exact Jaa rfl | exact Jac Us.h rfl | (apply Jbl; exact Us.h; exact rfl; exact Sz.h; exact rfl)); exact rfl) | refine Jcg (Pu_load Fl.h rfl (fun _ e => by rw [e]; exact hb2.ld rfl)) rfl ?_)
    refine TC_loop (ι := Nat) (fun k => [(1, .pointer (some ⟨g, 0, none⟩)), (3, .map (some b)), (4, I ((d.kept.length + (crs (d.turns.take k)).length : Nat) : Int)), (26, .slice At d.turns.length ct), (27, I d.turns.length), (28, I k)]) (fun k w' => k ≤ d.turns.length ∧ Ext wb w' ∧ MS w' b (d.kept.length + k) (d.kept.map (·.id) ++ crs (d.turns.take k))) (fun k => d.turns.length - k) 0 (subEnv_cons rfl (subEnv_cons rfl (subEnv_cons rfl (subEnv_cons rfl (subEnv_cons rfl (subEnv_cons rfl (subEnv_nil _))))))) ⟨Nat.zero_le _, e2, by simpa [crs] using hM2⟩ ?_
    intro k w3 ⟨hk, e3, hM3⟩
    have hbl := World.ownsMap.lt hM3
    have hcl := crs_len (d.turns.take k)
    rw [List.length_take] at hcl
    repeat' (first | apply Jbq | apply Jbr | apply Jbs | apply Jbt | (apply Jcg; exact Jad rfl rfl; exact rfl))
    refine Jcx rfl (fun hlt0 => ?_) (fun hge => ?_)
    · have hlt : k < d.turns.length := by omega
      have hcs := crs_succ hlt
      obtain ⟨ad, rfl, hcell⟩ := Rd.elem TnC_len (hrt.ext (E.ext e3)) hlt
      have hfk := f8 _ (List.getElem_mem hlt)
      repeat' (first | apply Jbq | apply Jbr | apply Jbs | apply Jbt | apply Jby | apply Jbz | (apply Jcg; (first | exact Jak rfl rfl | exact Jar Us.h Sz.h rfl rfl (by omega) | (apply Jbl; exact Us.h; exact rfl; exact Sz.h; exact rfl)); exact rfl) | refine Jcg (Pu_loadAgg (cs := TnC d.turns[k]) Us.h rfl Sz.h rfl (fun _ e j u hu => by rw [e]; exact hcell j u hu)) rfl ?_ | (refine TL_alloc Zs.h rfl rfl ?_; intro w4 g4 e4 hg4 hz4 hb4) | (refine TL_storeAgg rfl rfl Sz.h rfl hb4 rfl ?_; intro w5 c5 hz5 hb5) | refine Jcg (Pu_load Fl.h rfl (fun _ e => by rw [e]; exact hb5.ld rfl)) rfl ?_)
      have hM5 := (hM3.ext e4).ch c5 (by simp only [Iv]; omega)
      have E5 : Ext wb w5 := Ext.then_iv (e3.ext e4) c5 (by have := e3.size; omega)
      refine Jcx rfl (fun h1 => ?_) (fun h1 => ?_)
      · rw [if_pos h1] at hcs
        repeat' (first | apply Jbs | apply Jbt | (apply Jcg; (first | exact Jaa rfl | (apply Jbl; exact Us.h; exact rfl; exact Sz.h; exact rfl)); exact rfl) | refine Jcg (Pu_load Fl.h rfl (fun _ e => by rw [e]; exact hb5.ld rfl)) rfl ?_)
        refine TL_setPut rfl rfl rfl hM5 hfk.2.2 (by omega) ?_
        intro w6 c6 hz6 hM6
        have hle : (crs (d.turns.take (k + 1))).length = (crs (d.turns.take k)).length + 1 := by rw [hcs, List.length_append]; rfl
        repeat' (first | apply Jbq | apply Jbr | apply Jbt | apply Jbx | (apply Jcg; (first | exact Jaa rfl | exact Jab rfl | exact Jaf rfl rfl (by omega)); exact rfl))
        refine TN_round (k + 1) (subEnv_cons rfl (subEnv_cons rfl (subEnv_cons (congrArg (fun z => some (I z)) (by rw [hle]; omega)) (subEnv_cons rfl (subEnv_cons rfl (subEnv_cons rfl (subEnv_nil _))))))) ⟨hlt, Ext.then_iv E5 c6 (by omega), ?_⟩ (by omega)
        rw [hcs, ← List.append_assoc]
        exact hM6
      · rw [if_neg h1, List.append_nil] at hcs
        repeat' (first | apply Jbq | apply Jbr | apply Jbt | apply Jbx | apply Jbz | (apply Jcg; (first | exact Jaa rfl | exact Jaf rfl rfl (by omega)); exact rfl))
        refine TN_round (k + 1) (subEnv_cons rfl (subEnv_cons rfl (subEnv_cons (congrArg (fun z => some (I z)) (by rw [hcs])) (subEnv_cons rfl (subEnv_cons rfl (subEnv_cons rfl (subEnv_nil _))))))) ⟨hlt, E5, ?_⟩ (by omega)
        rw [hcs]
        exact World.ownsMap.mono hM5 (by omega)
    · obtain rfl : k = d.turns.length := by omega
      rw [List.take_length] at hM3 hcl ⊢
      rw [← pIds_crs] at hM3
      have hpl : (pIds d).length = d.kept.length + (crs d.turns).length := by rw [pIds_crs, List.length_append, List.length_map]
      rw [← hpl]
      have hsz := setD_size (pIds d)
      have hb3 := hb0.ext e3
      repeat' (first | apply Jbq | apply Jbr | apply Jbs | apply Jbt | apply Jbu | apply Jbv | apply Jby | apply Jbz | apply Jca | apply Jcb | apply Jcc | (refine Jce rfl ?_) | (apply Jcg; (first | exact Jaa rfl | exact Jab rfl | exact Jac Us.h rfl | exact Jah rfl rfl | exact Jai rfl rfl | exact Jal rfl rfl | (apply Jbl; exact Us.h; exact rfl; exact Sz.h; exact rfl)); exact rfl) | refine Jch rfl rfl rfl ?_ | refine Jci rfl rfl rfl rfl rfl ?_ | refine Jcg (Pu_load Fl.h rfl (fun _ e => by rw [e]; exact hb3.ld rfl)) rfl ?_ | refine Jcg (Pu_setLen rfl (fun w' e => ⟨d.kept.length + d.turns.length, by rw [e]; exact hM3⟩)) rfl ?_ | (refine Jct rfl rfl (fun hb => ?_) (fun hb => ?_) <;> (try (exfalso; omega))) | (refine Jcy rfl (fun hb => ?_) (fun hb => ?_) <;> (try (exfalso; omega))))
      · exact TR_of (res1 rfl rfl) ⟨by rw [pFit_no (fun h => by have := hsz.2.2 h.1; omega)], E.ext e3⟩
      · exact TR_of (res1 rfl rfl) ⟨by rw [pFit_no (fun h => by have := h.2.1; omega)], E.ext e3⟩
      have hnd : (pIds d).Nodup := hsz.2.1 (by omega)
      have hle : (pIds d).length = d.nodes.length := by omega
      refine TC_loop (ι := Nat) (fun k => [(3, .map (some b)), (53, .slice An ds.length cn), (54, I ds.length), (55, I k)]) (fun k w' => k ≤ ds.length ∧ Ext w3 w' ∧ ∀ i (h : i < d.nodes.length), i < k → d.nodes[i].1 ∈ pIds d) (fun k => ds.length - k) 0 (subEnv_cons rfl (subEnv_cons rfl (subEnv_cons rfl (subEnv_cons rfl (subEnv_nil _))))) ⟨Nat.zero_le _, Ch.refl _ _, fun i _ hi => absurd hi (Nat.not_lt_zero _)⟩ ?_
      intro k w4 ⟨hk, e4, hst⟩
      repeat' (first | apply Jbq | apply Jbr | apply Jbs | apply Jbt | (apply Jcg; exact Jad rfl rfl; exact rfl))
      refine Jcx rfl (fun hlt0 => ?_) (fun hge => ?_)
      · have hlt : k < ds.length := by omega
        obtain ⟨ad, rfl, hcell⟩ := Rd.elem NdC_len (hrn.ext (E.ext (e3.ext e4))) hlt
        have hnk : d.nodes[k]'(by omega) = NdP ds[k] := by simp only [← hm, List.getElem_map]
        have hnb := hN (d.nodes[k]'(by omega)) (List.getElem_mem _)
        have hid : (d.nodes[k]'(by omega)).1 = ds[k].id := by rw [hnk]; rfl
        have hone := (hok _ (List.getElem_mem hlt)).one
        rw [hid] at hnb
        obtain ⟨x, hx⟩ : ∃ x, x = ds[k] := ⟨_, rfl⟩
        rw [← hx] at hcell hid hone hnb
        obtain ⟨id, body, safe, vb, vs⟩ := x
        simp only at hid hnb
        replace hcell : ∀ j u, [I id, vb, vs][j]? = some u → w4.cell? ((ad.add (k * 3)).add j) = some u := hcell
        replace hone : [I id, vb, vs].all (·.oneCell') = true := hone
        by_cases hmem : id ∈ pIds d
        · repeat' (first | apply Jbq | apply Jbr | apply Jbs | apply Jbt | apply Jbx | apply Jby | apply Jbz | (refine Jcf rfl ?_) | (apply Jcg; (first | exact Jaa rfl | exact Jaf rfl rfl (by omega) | exact Jak rfl rfl | exact Jar Us.h Sz.h rfl rfl (by omega) | (apply Jbl; exact Us.h; exact rfl; exact Sz.h; exact rfl)); exact rfl) | refine Jcg (Pu_loadAgg (cs := [I id, vb, vs]) Us.h rfl Sz.h rfl (fun _ e j u hu => by rw [e]; exact hcell j u hu)) rfl ?_ | (refine TL_alloc Zs.h rfl rfl ?_; intro w5 g5 e5 hg5 hz5 hb5) | (refine TL_storeAgg rfl rfl Sz.h hone hb5 rfl ?_; intro w6 c6 hz6 hb6) | refine Jcg (Pu_load Fl.h rfl (fun _ e => by rw [e]; exact hb6.ld rfl)) rfl ?_ | refine Jcg (Pu_setLookT rfl rfl (by omega) hmem (fun w' e => ⟨d.kept.length + d.turns.length, by rw [e]; exact ((hM3.ext e4).ext e5).ch c6 (by have := e4.size; have := World.ownsMap.lt hM3; simp only [Iv]; omega)⟩)) rfl ?_)
          refine TN_round (k + 1) (subEnv_cons rfl (subEnv_cons rfl (subEnv_cons rfl (subEnv_cons rfl (subEnv_nil _))))) ⟨hlt, Ext.then_iv (e4.ext e5) c6 (by have := e4.size; omega), fun i hi hik => ?_⟩ (by omega)
          rcases Nat.lt_or_ge i k with h2 | h2
          · exact hst i hi h2
          · obtain rfl : i = k := by omega
            rw [hid]; exact hmem
        · repeat' (first | apply Jbq | apply Jbr | apply Jbs | apply Jbt | apply Jbu | apply Jbv | apply Jbw | apply Jby | apply Jbz | (refine Jce rfl ?_) | (apply Jcg; (first | exact Jaa rfl | exact Jab rfl | exact Jak rfl rfl | exact Jar Us.h Sz.h rfl rfl (by omega) | (apply Jbl; exact Us.h; exact rfl; exact Sz.h; exact rfl)); exact rfl) | refine Jcg (Pu_loadAgg (cs := [I id, vb, vs]) Us.h rfl Sz.h rfl (fun _ e j u hu => by rw [e]; exact hcell j u hu)) rfl ?_ | (refine TL_alloc Zs.h rfl rfl ?_; intro w5 g5 e5 hg5 hz5 hb5) | (refine TL_storeAgg rfl rfl Sz.h hone hb5 rfl ?_; intro w6 c6 hz6 hb6) | refine Jcg (Pu_load Fl.h rfl (fun _ e => by rw [e]; exact hb6.ld rfl)) rfl ?_ | refine Jcg (Pu_setLookF rfl rfl (by omega) hmem (fun w' e => ⟨d.kept.length + d.turns.length, by rw [e]; exact ((hM3.ext e4).ext e5).ch c6 (by have := e4.size; have := World.ownsMap.lt hM3; simp only [Iv]; omega)⟩)) rfl ?_)
          exact TR_of (res1 rfl rfl) ⟨by rw [pFit_no (fun h => hmem (by rw [← hid]; exact h.2.2 _ (List.getElem_mem _)))], (E.ext e3).ext (Ext.then_iv (e4.ext e5) c6 (by have := e4.size; omega))⟩
      · obtain rfl : k = ds.length := by omega
        repeat' (first | apply Jbq | apply Jbr | apply Jbs | apply Jbt | apply Jbu | apply Jca | apply Jcb | apply Jcc | (apply Jcg; exact Jab rfl; exact rfl))
        have hall : ∀ p ∈ d.nodes, p.1 ∈ pIds d := fun p hp => by
          obtain ⟨i, hi, rfl⟩ := List.mem_iff_getElem.1 hp
          exact hst i hi (by omega)
        exact TR_of (res1 rfl rfl) ⟨by rw [pFit_yes ⟨hnd, hle, hall⟩], E.ext (e3.ext e4)⟩
end Go.Proofs.YtggaghghclomkaaGreat

/- Contracts: whether a disk is right, by the program: the whole. -/
namespace Go.Proofs.YtggaghghclomkaaGreat
open Go.RowKit
def lastId (l : List NodeP) : Nat → Int
  | 0 => 0
  | k + 1 => match l[k]? with | some p => p.1 | none => 0
theorem lastId_succ {l : List NodeP} {k : Nat} (h : k < l.length) : lastId l (k + 1) = l[k].1 := by simp [lastId, List.getElem?_eq_getElem h]
theorem lastId_step {d : DiskP} (hB : dBase d) {k : Nat} (h : k < d.nodes.length) (hst : ∀ i, i < k → nStep d i) : (0 ≤ lastId d.nodes k ∧ lastId d.nodes k ≤ 1000000) ∧ (nStep d k ↔ lastId d.nodes k + 1 ≤ d.nodes[k].1 ∧ d.nodes[k].1 ≤ d.next - 1) := by
  have hn := hB.2.2.1
  cases k with
  | zero =>
    have h0 : lastId d.nodes 0 = 0 := rfl
    rw [h0]
    refine ⟨by omega, ?_⟩
    constructor
    · intro h2; have := h2 h; omega
    · intro h2 _; exact ⟨by omega, by omega, fun h3 => absurd h3 (Nat.lt_irrefl 0)⟩
  | succ k =>
    have h1 := hst k (Nat.lt_succ_self k) (by omega)
    rw [lastId_succ (by omega)]
    refine ⟨by omega, ?_⟩
    constructor
    · intro h2
      have h3 : (d.nodes[k]'(by omega)).1 < d.nodes[k + 1].1 := (h2 h).2.2 (by omega)
      have h4 := (h2 h).2.1
      omega
    · intro h2 _
      have h3 : (d.nodes[k]'(by omega)).1 < d.nodes[k + 1].1 := by omega
      exact ⟨by omega, by omega, fun _ => h3⟩
attribute [local irreducible] TL TC TN TX TR TQ TA Pu Ret
set_option maxRecDepth 100000 in
set_option maxHeartbeats 16000000 in
theorem implDiskOk_c {w : World} {lo hi : Nat} {d : DiskP} {sn sk st : Value} (h : RDk w lo hi d sn sk st) (hf : d.fits) (hl : totD d ≤ 1048576) :
    Ret Tryz.prog 65 #[.agg (dskC d sn sk st).toArray] w fun v' w' => v' = .bool (pDOk d) ∧ Ext w w' := by
  obtain ⟨l1, l2, l3⟩ := totD_parts hl
  have nn1 := totNd_nn d.nodes
  have nn2 := totLk_nn d.kept
  have nn3 := totTn_nn d.turns
  have hh := h
  obtain ⟨ds, An, cn, hm, rfl, hcn, hrn, hok⟩ := h.1
  obtain ⟨Ak, ck, rfl, hck, hrk⟩ := h.2.1.row
  obtain ⟨At, ct, rfl, hct, hrt⟩ := h.2.2.row
  have hln : d.nodes.length = ds.length := by rw [← hm, List.length_map]
  have hff := hf
  obtain ⟨f1, f2, f3, _, ⟨_, f6⟩, ⟨_, f8⟩⟩ := hf
  have hdk := dok_iff d
  have bad : ¬ IOk d → pDOk d = false := fun hn => pDOk_no (fun h => hn (hdk.1 h))
  refine Ret_enter Tryz.func65 rfl rfl rfl ?_
  repeat' (first | apply Jbs | apply Jbt)
  refine TL_box (cs := dskC d (.slice An ds.length cn) (.slice Ak d.kept.length ck) (.slice At d.turns.length ct)) rfl rfl ?_
  intro wb g E hg hz hbk
  clear hz
  have hzb := E.size
  repeat' (first | apply Jbq | apply Jbr | apply Jbs | apply Jbt | apply Jbu | apply Jbv | apply Jby | apply Jbz | (refine Jce rfl ?_) | (apply Jcg; (first | exact Jaa rfl | exact Jab rfl | exact Jac Us.h rfl | exact Jah rfl rfl | exact Jai rfl rfl | exact Jaj rfl | exact Jam rfl rfl | (apply Jbl; exact Us.h; exact rfl; exact Sz.h; exact rfl)); exact rfl) | refine Jch rfl rfl rfl ?_ | refine Jci rfl rfl rfl rfl rfl ?_ | refine Jcg (Pu_load Fl.h rfl (fun _ e => by rw [e]; exact hbk.ld rfl)) rfl ?_ | (refine TL_call rfl en101 (in_d _ _ _ _) rfl rfl ?_; rintro _ _ ⟨rfl, rfl⟩) | (refine Jcs rfl rfl (fun hb => ?_) (fun hb => ?_) <;> (try (exfalso; omega))) | (refine Jct rfl rfl (fun hb => ?_) (fun hb => ?_) <;> (try (exfalso; omega))) | (refine Jcx rfl (fun hb => ?_) (fun hb => ?_) <;> (try (exfalso; omega))))
  all_goals try exact TR_of (res1 rfl rfl) ⟨by rw [bad (fun h => by have := h.base; unfold dBase at this; omega)], E⟩
  have hB : dBase d := by unfold dBase; omega
  refine TC_loop (ι := Nat) (fun k => [(1, .pointer (some ⟨g, 0, none⟩)), (3, I (lastId d.nodes k)), (47, .slice An ds.length cn), (48, I ds.length), (49, I k)]) (fun k w' => k ≤ ds.length ∧ (∀ i, i < k → nStep d i) ∧ Ext wb w') (fun k => ds.length - k) 0 (subEnv_cons rfl (subEnv_cons rfl (subEnv_cons rfl (subEnv_cons rfl (subEnv_cons rfl (subEnv_nil _)))))) ⟨Nat.zero_le _, fun i hi => absurd hi (Nat.not_lt_zero _), Ch.refl _ _⟩ ?_
  intro k w2 ⟨hkk, hst, e2⟩
  have hb2 := hbk.ext e2
  repeat' (first | apply Jbq | apply Jbr | apply Jbs | apply Jbt | (apply Jcg; exact Jad rfl rfl; exact rfl))
  refine Jcx rfl (fun hlt0 => ?_) (fun hge => ?_)
  · have hlt : k < ds.length := by omega
    obtain ⟨ad, rfl, hcell⟩ := Rd.elem NdC_len (hrn.ext (E.ext e2)) hlt
    obtain ⟨hlb, hiff⟩ := lastId_step hB (k := k) (by omega) hst
    have hls := lastId_succ (l := d.nodes) (k := k) (by omega)
    have hnk : d.nodes[k]'(by omega) = NdP ds[k] := by simp only [← hm, List.getElem_map]
    have hid : (d.nodes[k]'(by omega)).1 = ds[k].id := by rw [hnk]; rfl
    have hone := (hok _ (List.getElem_mem hlt)).one
    rw [hid] at hiff hls
    obtain ⟨x, hx⟩ : ∃ x, x = ds[k] := ⟨_, rfl⟩
    rw [← hx] at hcell hiff hone hls
    obtain ⟨id, body, safe, vb, vs⟩ := x
    simp only at hiff hls
    replace hcell : ∀ j u, [I id, vb, vs][j]? = some u → w2.cell? ((ad.add (k * 3)).add j) = some u := hcell
    replace hone : [I id, vb, vs].all (·.oneCell') = true := hone
    repeat' (first | apply Jbq | apply Jbr | apply Jbs | apply Jbt | apply Jbu | apply Jbv | apply Jbw | apply Jbx | apply Jby | apply Jbz | (apply Jcg; (first | exact Jaa rfl | exact Jab rfl | exact Jaf rfl rfl (by omega) | exact Jaj rfl | exact Jap rfl rfl (by omega) | exact Jar Us.h Sz.h rfl rfl (by omega) | (apply Jbl; exact Us.h; exact rfl; exact Sz.h; exact rfl)); exact rfl) | refine Jcg (Pu_loadAgg (cs := [I id, vb, vs]) Us.h rfl Sz.h rfl (fun _ e j u hu => by rw [e]; exact hcell j u hu)) rfl ?_ | (refine TL_alloc Zs.h rfl rfl ?_; intro w3 g3 e3 hg3 hz3 hb3; have hbk3 := hb2.ext e3) | (refine TL_storeAgg rfl rfl Sz.h hone hb3 rfl ?_; intro w4 c4 hz4 hb4; have hbk4 := hbk3.ch c4 (by have := e2.size; simp only [Iv]; have := hb2.lt; omega)) | refine Jcg (Pu_load Fl.h rfl (fun _ e => by rw [e]; exact hb4.ld rfl)) rfl ?_ | refine Jcg (Pu_load Fl.h rfl (fun _ e => by rw [e]; exact hbk4.ld rfl)) rfl ?_ | (refine TL_call rfl en101 (in_d _ _ _ _) rfl rfl ?_; rintro _ _ ⟨rfl, rfl⟩) | (refine Jcy rfl (fun hb => ?_) (fun hb => ?_) <;> (try (exfalso; omega))))
    · exact TR_of (res1 rfl rfl) ⟨by rw [bad (fun h => hb (hiff.1 (h.node k)))], E.ext (Ext.then_iv (e2.ext e3) c4 (by have := e2.size; omega))⟩
    · refine TN_round (k + 1) (subEnv_cons rfl (subEnv_cons (congrArg (fun z => some (I z)) hls.symm) (subEnv_cons rfl (subEnv_cons rfl (subEnv_cons rfl (subEnv_nil _)))))) ⟨hlt, fun i hi => ?_, Ext.then_iv (e2.ext e3) c4 (by have := e2.size; omega)⟩ (by omega)
      rcases Nat.lt_or_ge i k with h2 | h2
      · exact hst i h2
      · obtain rfl : i = k := by omega
        exact hiff.2 hb
  · obtain rfl : k = ds.length := by omega
    have hN : ∀ i, nStep d i := fun i => by
      rcases Nat.lt_or_ge i ds.length with h1 | h1
      · exact hst i h1
      · intro h2; omega
    clear hst hge
    repeat' (first | apply Jbq | apply Jbr | apply Jbs | apply Jbt | apply Jby | apply Jca | apply Jcb | apply Jcc | (apply Jcg; (first | exact Jaa rfl | exact Jac Us.h rfl | (apply Jbl; exact Us.h; exact rfl; exact Sz.h; exact rfl)); exact rfl) | refine Jcg (Pu_load Fl.h rfl (fun _ e => by rw [e]; exact hb2.ld rfl)) rfl ?_)
    refine TC_loop (ι := Nat) (fun k => [(1, .pointer (some ⟨g, 0, none⟩)), (66, .slice Ak d.kept.length ck), (67, I d.kept.length), (68, I k)]) (fun k w' => k ≤ d.kept.length ∧ (∀ i, i < k → kStep d i) ∧ Ext w2 w') (fun k => d.kept.length - k) 0 (subEnv_cons rfl (subEnv_cons rfl (subEnv_cons rfl (subEnv_cons rfl (subEnv_nil _))))) ⟨Nat.zero_le _, fun i hi => absurd hi (Nat.not_lt_zero _), Ch.refl _ _⟩ ?_
    intro k w3 ⟨hkk, hst, e3⟩
    have hb3 := hb2.ext e3
    repeat' (first | apply Jbq | apply Jbr | apply Jbs | apply Jbt | (apply Jcg; exact Jad rfl rfl; exact rfl))
    refine Jcx rfl (fun hlt0 => ?_) (fun hge => ?_)
    · have hlt : k < d.kept.length := by omega
      obtain ⟨ad, rfl, hcell⟩ := Rd.elem LkC_len (hrk.ext (E.ext (e2.ext e3))) hlt
      have hcp : 0 < k → w3.cell? ((ad.add (((k : Int) - 1).toNat * 2)).add 0) = some (S (d.kept[k - 1]'(by omega)).name) := fun h0 => by
        obtain ⟨ad', h1, hc⟩ := Rd.elem LkC_len (hrk.ext (E.ext (e2.ext e3))) (k := k - 1) (by omega)
        injection h1 with h1; subst h1
        rw [show ((k : Int) - 1).toNat = k - 1 by omega]
        exact hc 0 _ rfl
      have hkl : d.kept[k].name.length ≤ 9223372036854775807 := (f6 _ (List.getElem_mem hlt)).1
      have hiff : kStep d k ↔ (pName d.kept[k].name = true ∧ (0 < k → bytesBefore (d.kept[k - 1]'(by omega)).name d.kept[k].name = true)) :=
        ⟨fun h => h hlt, fun h _ => h⟩
      obtain ⟨x, hx⟩ : ∃ x, x = d.kept[k] := ⟨_, rfl⟩
      rw [← hx] at hcell hiff hkl
      obtain ⟨nm, id⟩ := x
      simp only at hiff hkl
      replace hcell : ∀ j u, [S nm, I id][j]? = some u → w3.cell? ((ad.add (k * 2)).add j) = some u := hcell
      have hno : ¬ (pName nm = true ∧ (0 < k → bytesBefore (d.kept[k - 1]'(by omega)).name nm = true)) → pDOk d = false := fun hn => bad (fun h => hn (hiff.1 (h.link k)))
      have hyes : pName nm = true → (0 < k → bytesBefore (d.kept[k - 1]'(by omega)).name nm = true) → ∀ i, i < k + 1 → kStep d i := fun a c i hi => by
        rcases Nat.lt_or_ge i k with h2 | h2
        · exact hst i h2
        · obtain rfl : i = k := by omega
          exact hiff.2 ⟨a, c⟩
      repeat' (first | apply Jbq | apply Jbr | apply Jbs | apply Jbt | apply Jby | apply Jbz | (apply Jcg; (first | exact Jaa rfl | exact Jab rfl | exact Jar Us.h Sz.h rfl rfl (by omega)); exact rfl) | refine Jcg (Pu_loadAgg (cs := [S nm, I id]) Us.h rfl Sz.h rfl (fun _ e j u hu => by rw [e]; exact hcell j u hu)) rfl ?_ | (refine TL_alloc Zs.h rfl rfl ?_; intro w4 g4 e4 hg4 hz4 hb4) | (refine TL_storeAgg rfl rfl Sz.h rfl hb4 rfl ?_; intro w5 c5 hz5 hb5))
      have E5 : Ext w3 w5 := Ext.then_iv e4 c5 (by omega)
      have hbk5 := hb3.ext E5
      refine TC_quietExt mixed (by kernel_rfl) ?_
      cases hp : pName nm with
      | false =>
        have hno := hno (by rw [hp]; rintro ⟨h, _⟩; cases h)
        repeat' (first | (apply Jck; (first | exact Jaa rfl | exact Jah rfl rfl | exact Jaj rfl | (apply Jbl; exact Us.h; exact rfl; exact Sz.h; exact rfl)); exact rfl) | refine Jcm rfl rfl rfl rfl rfl ?_ | refine Jcn rfl rfl rfl rfl ?_ | refine Jck (Pu_load Fl.h rfl (fun _ e => Ext.cell e (hb5.ld rfl))) rfl ?_ | (refine TQ_call rfl en139 (fun w6 e6 => (implNameOk_c _ _ hkl).mono (fun v' w' h => ⟨h.1.trans (by rw [hp]), h.2 ▸ e6⟩)) rfl ?_))
        refine TQ_nil (fun w6 e6 => ?_)
        repeat' (first | apply Jbq | apply Jbr | apply Jbs | apply Jbt | apply Jbu | apply Jbv | apply Jbw | (refine Jce rfl ?_) | (apply Jcg; exact Jab rfl; exact rfl))
        exact TR_of (res1 rfl rfl) ⟨by rw [hno], E.ext (e2.ext (e3.ext (E5.ext e6)))⟩
      | true =>
        rcases Nat.eq_zero_or_pos k with hk0 | hk0
        · repeat' (first | (apply Jck; (first | exact Jaa rfl | exact Jai rfl rfl | exact Jaj rfl | exact Jam rfl rfl | (apply Jbl; exact Us.h; exact rfl; exact Sz.h; exact rfl)); exact rfl) | refine Jcl rfl rfl rfl ?_ | refine Jcm rfl rfl rfl rfl rfl ?_ | refine Jck (Pu_load Fl.h rfl (fun _ e => Ext.cell e (hb5.ld rfl))) rfl ?_ | (refine TQ_call rfl en139 (fun w6 e6 => (implNameOk_c _ _ hkl).mono (fun v' w' h => ⟨h.1.trans (by rw [hp]), h.2 ▸ e6⟩)) rfl ?_) | (refine Jcv rfl rfl (fun hb => ?_) (fun hb => ?_) <;> (try (exfalso; omega))))
          refine TQ_nil (fun w6 e6 => ?_)
          repeat' (first | apply Jbq | apply Jbr | apply Jbt | apply Jbx | apply Jbz | (refine Jcf rfl ?_) | (apply Jcg; (first | exact Jaa rfl | exact Jaf rfl rfl (by omega)); exact rfl))
          exact TN_round (k + 1) (subEnv_cons rfl (subEnv_cons rfl (subEnv_cons rfl (subEnv_cons rfl (subEnv_nil _))))) ⟨hlt, hyes hp (fun h0 => by omega), e3.ext (E5.ext e6)⟩ (by omega)
        · have hc5 := E5.cell (hcp hk0)
          cases hbb : bytesBefore (d.kept[k - 1]'(by omega)).name nm with
          | true =>
            repeat' (first | (apply Jck; (first | exact Jaa rfl | exact Jah rfl rfl | exact Jai rfl rfl | exact Jaj rfl | exact Jam rfl rfl | exact Jap rfl rfl (by omega) | exact Jar Us.h Sz.h rfl rfl (by omega) | (apply Jbl; exact Us.h; exact rfl; exact Sz.h; exact rfl)); exact rfl) | refine Jcl rfl rfl rfl ?_ | refine Jck (Pu_load Fl.h rfl (fun _ e => Ext.cell e (hb5.ld rfl))) rfl ?_ | refine Jck (Pu_load Fl.h rfl (fun _ e => Ext.cell e (hbk5.ld rfl))) rfl ?_ | refine Jck (Pu_load Fl.h rfl (fun _ e => Ext.cell e hc5)) rfl ?_ | refine Jck (Pu_geqF' rfl rfl hbb) rfl ?_ | (refine TQ_call rfl en139 (fun w6 e6 => (implNameOk_c _ _ hkl).mono (fun v' w' h => ⟨h.1.trans (by rw [hp]), h.2 ▸ e6⟩)) rfl ?_) | (refine Jcv rfl rfl (fun hb => ?_) (fun hb => ?_) <;> (try (exfalso; omega))))
            refine TQ_nil (fun w6 e6 => ?_)
            repeat' (first | apply Jbq | apply Jbr | apply Jbt | apply Jbx | apply Jbz | (refine Jcf rfl ?_) | (apply Jcg; (first | exact Jaa rfl | exact Jaf rfl rfl (by omega)); exact rfl))
            exact TN_round (k + 1) (subEnv_cons rfl (subEnv_cons rfl (subEnv_cons rfl (subEnv_cons rfl (subEnv_nil _))))) ⟨hlt, hyes hp (fun _ => hbb), e3.ext (E5.ext e6)⟩ (by omega)
          | false =>
            have hno := hno (by rintro ⟨_, h⟩; rw [h hk0] at hbb; cases hbb)
            repeat' (first | (apply Jck; (first | exact Jaa rfl | exact Jah rfl rfl | exact Jai rfl rfl | exact Jaj rfl | exact Jam rfl rfl | exact Jap rfl rfl (by omega) | exact Jar Us.h Sz.h rfl rfl (by omega) | (apply Jbl; exact Us.h; exact rfl; exact Sz.h; exact rfl)); exact rfl) | refine Jcl rfl rfl rfl ?_ | refine Jck (Pu_load Fl.h rfl (fun _ e => Ext.cell e (hb5.ld rfl))) rfl ?_ | refine Jck (Pu_load Fl.h rfl (fun _ e => Ext.cell e (hbk5.ld rfl))) rfl ?_ | refine Jck (Pu_load Fl.h rfl (fun _ e => Ext.cell e hc5)) rfl ?_ | refine Jck (Pu_geqT' rfl rfl hbb) rfl ?_ | (refine TQ_call rfl en139 (fun w6 e6 => (implNameOk_c _ _ hkl).mono (fun v' w' h => ⟨h.1.trans (by rw [hp]), h.2 ▸ e6⟩)) rfl ?_) | (refine Jcv rfl rfl (fun hb => ?_) (fun hb => ?_) <;> (try (exfalso; omega))))
            refine TQ_nil (fun w6 e6 => ?_)
            repeat' (first | apply Jbq | apply Jbr | apply Jbs | apply Jbt | apply Jbu | apply Jbv | apply Jbw | (refine Jce rfl ?_) | (apply Jcg; exact Jab rfl; exact rfl))
            exact TR_of (res1 rfl rfl) ⟨by rw [hno], E.ext (e2.ext (e3.ext (E5.ext e6)))⟩
    · obtain rfl : k = d.kept.length := by omega
      have hK : ∀ i, kStep d i := fun i => by
        rcases Nat.lt_or_ge i d.kept.length with h1 | h1
        · exact hst i h1
        · intro h2; omega
      clear hst hge
      have E3 := E.ext (e2.ext e3)
      repeat' (first | apply Jbq | apply Jbr | apply Jbs | apply Jbt | apply Jby | apply Jca | apply Jcb | apply Jcc | (apply Jcg; (first | exact Jaa rfl | exact Jac Us.h rfl | (apply Jbl; exact Us.h; exact rfl; exact Sz.h; exact rfl)); exact rfl) | refine Jcg (Pu_load Fl.h rfl (fun _ e => by rw [e]; exact hb3.ld rfl)) rfl ?_)
      refine TC_loop (ι := Nat) (fun k => [(1, .pointer (some ⟨g, 0, none⟩)), (95, .slice At d.turns.length ct), (96, I d.turns.length), (97, I k)]) (fun k w' => k ≤ d.turns.length ∧ (∀ j (hj : j < d.turns.length), j < k → tOk0 d.turns[j]) ∧ Ext w3 w') (fun k => d.turns.length - k) 0 (subEnv_cons rfl (subEnv_cons rfl (subEnv_cons rfl (subEnv_cons rfl (subEnv_nil _))))) ⟨Nat.zero_le _, fun i _ hi => absurd hi (Nat.not_lt_zero _), Ch.refl _ _⟩ ?_
      intro k w4 ⟨hkk, htt, e4⟩
      repeat' (first | apply Jbq | apply Jbr | apply Jbs | apply Jbt | (apply Jcg; exact Jad rfl rfl; exact rfl))
      refine Jcx rfl (fun hlt0 => ?_) (fun hge => ?_)
      · have hlt : k < d.turns.length := by omega
        obtain ⟨ad, rfl, hcell⟩ := Rd.elem TnC_len (hrt.ext (E3.ext e4)) hlt
        repeat' (first | apply Jbq | apply Jbr | apply Jbs | apply Jbt | apply Jby | apply Jbz | (apply Jcg; exact Jar Us.h Sz.h rfl rfl (by omega); exact rfl) | refine Jcg (Pu_loadAgg (cs := TnC d.turns[k]) Us.h rfl Sz.h rfl (fun _ e j u hu => by rw [e]; exact hcell j u hu)) rfl ?_ | (refine TL_alloc Zs.h rfl rfl ?_; intro w5 g5 e5 hg5 hz5 hb5) | (refine TL_storeAgg rfl rfl Sz.h rfl hb5 rfl ?_; intro w6 c6 hz6 hb6) | refine Jcg (Pu_loadAgg (cs := TnC d.turns[k]) Us.h rfl Sz.h rfl (fun _ e j u hu => by rw [e, add0, hb6.cell]; exact hu)) rfl ?_)
        have E6 : Ext w4 w6 := Ext.then_iv e5 c6 (by omega)
        refine TL_call rfl en140 (turnOk_c (f8 _ (List.getElem_mem hlt))) rfl rfl ?_
        rintro _ w7 ⟨⟨b, rfl, hbt⟩, e7⟩
        cases b with
        | false =>
          repeat' (first | apply Jbq | apply Jbr | apply Jbs | apply Jbt | apply Jbu | apply Jbv | apply Jbw | (refine Jce rfl ?_) | (apply Jcg; (first | exact Jab rfl | exact Jaj rfl); exact rfl))
          exact TR_of (res1 rfl rfl) ⟨by rw [bad (fun h => by have := hbt.2 (h.turn0 k hlt); cases this)], E3.ext (e4.ext (E6.ext e7))⟩
        | true =>
          repeat' (first | apply Jbq | apply Jbr | apply Jbt | apply Jbx | apply Jbz | (refine Jcf rfl ?_) | (apply Jcg; (first | exact Jaa rfl | exact Jaf rfl rfl (by omega) | exact Jaj rfl); exact rfl))
          refine TN_round (k + 1) (subEnv_cons rfl (subEnv_cons rfl (subEnv_cons rfl (subEnv_cons rfl (subEnv_nil _))))) ⟨hlt, fun j hj hjk => ?_, e4.ext (E6.ext e7)⟩ (by omega)
          rcases Nat.lt_or_ge j k with h2 | h2
          · exact htt j hj h2
          · obtain rfl : j = k := by omega
            exact hbt.1 rfl
      · obtain rfl : k = d.turns.length := by omega
        have hb4 := hb3.ext e4
        have E4 := E3.ext e4
        have hNb : ∀ p ∈ d.nodes, 1 ≤ p.1 ∧ p.1 ≤ 1000000 := fun p hp => by
          obtain ⟨i, hi, rfl⟩ := List.mem_iff_getElem.1 hp
          have := hN i hi
          have := hB.2.2.1
          omega
        repeat' (first | apply Jbr | apply Jbs | apply Jbt | apply Jca | apply Jcb | apply Jcc | (apply Jcg; (apply Jbl; exact Us.h; exact rfl; exact Sz.h; exact rfl); exact rfl) | refine Jcg (Pu_load Fl.h rfl (fun _ e => by rw [e]; exact hb4.ld rfl)) rfl ?_)
        refine TL_call rfl en67 (dirOf_c (hh.2.1.ext E4) (hh.2.2.ext E4) (kept_asc hK) (by omega) (by omega) f6 f8) rfl rfl ?_
        rintro _ w5 ⟨e5, hq⟩
        have hb5 := hb4.ext e5
        have E5 := E4.ext e5
        rcases hq with ⟨hA, b, kb, rfl, _, _, hM⟩ | ⟨hA, rfl⟩
        · repeat' (first | apply Jbq | apply Jbr | apply Jbs | (apply Jcg; (first | exact Jaa rfl | exact Jab rfl | exact Jae rfl rfl); exact rfl))
          refine TC_quietExt mixed (by kernel_rfl) ?_
          cases hfit : pFit d with
          | true =>
            have hF := pFit_of hfit
            repeat' (first | (apply Jck; (first | exact Jaa rfl | exact Jab rfl | exact Jah rfl rfl | exact Jan rfl rfl | (apply Jbl; exact Us.h; exact rfl; exact Sz.h; exact rfl)); exact rfl) | refine Jcl rfl rfl rfl ?_ | refine Jck (Pu_load Fl.h rfl (fun _ e => Ext.cell e (hb5.ld rfl))) rfl ?_ | refine Jck (Pu_loadAgg (cs := dskC d (.slice An ds.length cn) (.slice Ak d.kept.length ck) (.slice At d.turns.length ct)) Us.h rfl Sz.h rfl (fun _ e j u hu => Ext.cell e (by rw [add0, hb5.cell]; exact hu))) rfl ?_ | (refine TQ_call rfl en95 (fun w7 e7 => (implDiskUsed_c ((hh.ext E5).ext e7) hl).mono (fun v' w' h => ⟨h.1, e7.ext h.2⟩)) rfl ?_) | (refine TQ_call rfl en141 (fun w7 e7 => (idsFit_c ((hh.ext E5).ext e7) hff (by omega) (by omega) (by omega) hNb).mono (fun v' w' h => ⟨h.1.trans (by rw [hfit]), e7.ext h.2⟩)) rfl ?_))
            refine TQ_nil (fun w6 e6 => ?_)
            repeat' (first | apply Jbr | apply Jbu)
            refine TR_of (res1 rfl rfl) ⟨?_, E5.ext e6⟩
            by_cases hu : pUsed d.nodes ≤ d.room
            · rw [decide_eq_true hu, pDOk_yes (hdk.2 ⟨hB, hN, hK, fun j hj => htt j hj hj, hA, hF.1, hF.2.1, hF.2.2, hu⟩)]
            · rw [decide_eq_false hu, bad (fun h => hu h.used)]
          | false =>
            have hF := pFit_not hfit
            repeat' (first | (apply Jck; (first | exact Jaa rfl | exact Jab rfl | exact Jah rfl rfl | exact Jai rfl rfl); exact rfl) | refine Jcl rfl rfl rfl ?_ | refine Jcm rfl rfl rfl rfl rfl ?_ | refine Jck (Pu_loadAgg (cs := dskC d (.slice An ds.length cn) (.slice Ak d.kept.length ck) (.slice At d.turns.length ct)) Us.h rfl Sz.h rfl (fun _ e j u hu => Ext.cell e (by rw [add0, hb5.cell]; exact hu))) rfl ?_ | (refine TQ_call rfl en141 (fun w7 e7 => (idsFit_c ((hh.ext E5).ext e7) hff (by omega) (by omega) (by omega) hNb).mono (fun v' w' h => ⟨h.1.trans (by rw [hfit]), e7.ext h.2⟩)) rfl ?_))
            refine TQ_nil (fun w6 e6 => ?_)
            repeat' (first | apply Jbr | apply Jbu)
            exact TR_of (res1 rfl rfl) ⟨by rw [bad (fun h => hF ⟨h.nodup, h.len, h.ids⟩)], E5.ext e6⟩
        · repeat' (first | apply Jbq | apply Jbr | apply Jbs | (apply Jcg; (first | exact Jaa rfl | exact Jab rfl | exact Jae rfl rfl); exact rfl))
          refine TC_quietExt mixed (by kernel_rfl) ?_
          repeat' (first | (apply Jck; (first | exact Jaa rfl | exact Jab rfl | exact Jai rfl rfl); exact rfl) | refine Jcm rfl rfl rfl rfl rfl ?_)
          refine TQ_nil (fun w6 e6 => ?_)
          repeat' (first | apply Jbr | apply Jbu)
          exact TR_of (res1 rfl rfl) ⟨by rw [bad (fun h => hA h.turn)], E5.ext e6⟩
end Go.Proofs.YtggaghghclomkaaGreat

/- Contracts: directories and files of a disk. -/
namespace Go.Proofs.YtggaghghclomkaaGreat
open Go.RowKit
/-! ### the plain law -/
def nAtF (id : Int) : Nat → List NodeP → Int
  | _, [] => -1
  | k, p :: r => if p.1 = id then (k : Int) else nAtF id (k + 1) r
def nAt (l : List NodeP) (id : Int) : Int := nAtF id 0 l
theorem nAtF_hit (id : Int) : ∀ (l : List NodeP) (k : Nat), id ∈ nIds l → ∃ i, ∃ h : i < l.length, nAtF id k l = ((k + i : Nat) : Int) ∧ l[i].1 = id
  | [], k, h => by simp [nIds] at h
  | p :: r, k, h => by
    by_cases he : p.1 = id
    · exact ⟨0, by simp, by rw [nAtF, if_pos he]; rfl, he⟩
    · have : id ∈ nIds r := by
        unfold nIds at *
        rw [List.map_cons, List.mem_cons] at h
        exact h.resolve_left (fun e => he e.symm)
      obtain ⟨i, hi, h1, h2⟩ := nAtF_hit id r (k + 1) this
      exact ⟨i + 1, by simpa using hi, by rw [nAtF, if_neg he, h1]; omega, by simpa using h2⟩
theorem nAt_hit {l : List NodeP} {id : Int} (h : id ∈ nIds l) : ∃ i, ∃ h : i < l.length, nAt l id = (i : Int) ∧ l[i].1 = id := by
  obtain ⟨i, hi, h1, h2⟩ := nAtF_hit id l 0 h
  exact ⟨i, hi, by unfold nAt; rw [h1]; omega, h2⟩
theorem nAtF_none (id : Int) : ∀ (l : List NodeP) (k : Nat), id ∉ nIds l → nAtF id k l = -1
  | [], _, _ => rfl
  | p :: r, k, h => by
    unfold nIds at h
    rw [List.map_cons, List.mem_cons] at h
    rw [nAtF, if_neg (fun e => h (.inl e.symm)), nAtF_none id r (k + 1) (fun e => h (.inr e))]
theorem nAt_none {l : List NodeP} {id : Int} (h : id ∉ nIds l) : nAt l id = -1 := nAtF_none id l 0 h
def pDir (d : DiskP) : List LkD := runT d.kept d.turns
theorem pTurn_sub {d : DiskP} {L : List LkD} {t : TnD} (ht : t ∈ d.turns) (hk : t.kind = 5 → dHas L t.name = true) (_h1 : t.kind = 1 ∨ t.kind = 5 ∨ t.kind = 6) (hL : ∀ x ∈ L, x.id ∈ pIds d) : ∀ x ∈ pTurn L t, x.id ∈ pIds d := by
  intro x hx
  unfold pTurn at hx
  split at hx
  · rename_i h
    rcases (mem_dIns _).1 hx with rfl | hx
    · exact creates_mem ht h
    · exact hL x hx
  · split at hx
    · rename_i h
      rcases (mem_dIns _).1 hx with rfl | hx
      · obtain ⟨y, hy, _, he⟩ := dFind_mem (hk h)
        simp only
        rw [← he]; exact hL y hy
      · exact hL x (mem_dLess (mem_dLess hx))
    · exact hL x (mem_dLess hx)
theorem DOk.dirIds {d : DiskP} (h : DOk d) : ∀ k, k ≤ d.turns.length → ∀ x ∈ runT d.kept (d.turns.take k), x.id ∈ nIds d.nodes := by
  have h2 := (dok_iff d).1 h
  have key : ∀ k, k ≤ d.turns.length → ∀ x ∈ runT d.kept (d.turns.take k), x.id ∈ pIds d := by
    intro k
    induction k with
    | zero => intro _ x hx; exact kept_mem (by simpa [runT] using hx)
    | succ k ih =>
      intro hk
      rw [runT_take (by omega)]
      have ha := h2.turn k (by omega)
      refine pTurn_sub (List.getElem_mem _) (fun h5 => ?_) ?_ (ih (by omega))
      · rcases ha with ⟨a, _⟩ | ⟨_, b, _⟩ | ⟨a, _⟩
        · rw [a] at h5; exact absurd h5 (by decide)
        · exact b
        · rw [a] at h5; exact absurd h5 (by decide)
      · rcases ha with ⟨a, _⟩ | ⟨a, _⟩ | ⟨a, _⟩
        · exact .inl a
        · exact .inr (.inl a)
        · exact .inr (.inr a)
  intro k hk x hx
  obtain ⟨j, hj, he⟩ := List.mem_iff_getElem.1 (key k hk x hx)
  rw [← he]
  exact (h.ids j hj).2
theorem DOk.dirAt {d : DiskP} (h : DOk d) {s : List UInt8} (hh : dHas (pDir d) s = true) : ∃ i, ∃ hi : i < d.nodes.length, nAt d.nodes (dFind (pDir d) s) = (i : Int) ∧ d.nodes[i].1 = dFind (pDir d) s := by
  obtain ⟨x, hx, _, he⟩ := dFind_mem hh
  have := h.dirIds d.turns.length (Nat.le_refl _) x (by rw [List.take_length]; exact hx)
  rw [he] at this
  exact nAt_hit this
def bodyAt (d : DiskP) (i : Int) : List UInt8 := (d.nodes.getD i.toNat (0, [], [])).2.1
theorem bodyAt_nat {d : DiskP} {i : Nat} (h : i < d.nodes.length) : bodyAt d (i : Int) = d.nodes[i].2.1 := by unfold bodyAt; rw [Int.toNat_natCast, List.getD_eq_getElem?_getD, List.getElem?_eq_getElem h]; rfl
open Classical in
noncomputable def pRead (d : DiskP) (s : List UInt8) : List UInt8 × Bool := if DOk d ∧ dHas (pDir d) s = true then (bodyAt d (nAt d.nodes (dFind (pDir d) s)), true) else ([], false)
open Classical in
theorem pRead_yes {d : DiskP} {s : List UInt8} (h : DOk d) (hh : dHas (pDir d) s = true) : pRead d s = (bodyAt d (nAt d.nodes (dFind (pDir d) s)), true) := by unfold pRead; exact if_pos ⟨h, hh⟩
open Classical in
theorem pRead_no {d : DiskP} {s : List UInt8} (h : ¬ (DOk d ∧ dHas (pDir d) s = true)) : pRead d s = ([], false) := by unfold pRead; exact if_neg h
theorem pRead_len (d : DiskP) (s : List UInt8) (hl : totD d ≤ 1048576) : (pRead d s).1.length ≤ 1048576 := by
  by_cases h : DOk d ∧ dHas (pDir d) s = true
  · obtain ⟨i, hi, h1, _⟩ := h.1.dirAt h.2
    rw [pRead_yes h.1 h.2, h1]
    simp only
    rw [bodyAt_nat hi]
    have hm := totNd_mem (List.getElem_mem hi)
    have := (totD_parts hl).1
    unfold NdW at hm
    omega
  · rw [pRead_no h]; simp
theorem pFind_pos {d : DiskP} (h : DOk d) (s : List UInt8) : 1 ≤ dFind (pDir d) s ↔ dHas (pDir d) s = true := dFind_pos (by have := h.posT d.turns.length (Nat.le_refl _); rwa [List.take_length] at this) s
theorem fits_tk {d : DiskP} (hf : d.fits) : (∀ x ∈ d.kept, LkFit x) ∧ ∀ x ∈ d.turns, TnFit x := ⟨hf.2.2.2.2.1.2, hf.2.2.2.2.2.2⟩
attribute [local irreducible] TL TC TN TX TR TQ TA Pu Ret
set_option maxHeartbeats 2000000 in
theorem specl03At_c {w : World} {lo hi : Nat} {d : DiskP} {sn sk st : Value} {id : Int} (h : RDk w lo hi d sn sk st) (hl : d.nodes.length ≤ 1048576) :
    Ret Tryz.prog 84 #[.agg (dskC d sn sk st).toArray, I id] w fun v' w' => v' = I (nAt d.nodes id) ∧ Ext w w' := by
  obtain ⟨ds, A, c, hm, rfl, _, hr, hok⟩ := h.1
  have hln : d.nodes.length = ds.length := by rw [← hm, List.length_map]
  refine Ret_enter Tryz.func84 rfl rfl rfl ?_
  repeat' (first | apply Jbs | apply Jbt)
  refine TL_box (cs := dskC d (.slice A ds.length c) sk st) rfl rfl ?_
  intro w1 g E hg hz hbk
  clear hg hz
  repeat' (first | apply Jbq | apply Jbr | apply Jbs | apply Jbt | apply Jby | (apply Jcg; (first | exact Jaa rfl | exact Jab rfl | exact Jac Us.h rfl | (apply Jbl; exact Us.h; exact rfl; exact Sz.h; exact rfl)); exact rfl) | refine Jcg (Pu_load Fl.h rfl (fun _ e => by rw [e]; exact hbk.ld rfl)) rfl ?_)
  refine TC_loop (ι := Nat) (fun k => [(1, I id), (8, .slice A ds.length c), (9, I ds.length), (10, I k)]) (fun k w' => k ≤ ds.length ∧ nAt d.nodes id = nAtF id k (d.nodes.drop k) ∧ Ext w w') (fun k => ds.length - k) 0 (subEnv_cons rfl (subEnv_cons rfl (subEnv_cons rfl (subEnv_cons rfl (subEnv_nil _))))) ⟨Nat.zero_le _, rfl, E⟩ ?_
  intro k w2 ⟨hk, hat, e2⟩
  repeat' (first | apply Jbq | apply Jbr | apply Jbs | apply Jbt | (apply Jcg; exact Jad rfl rfl; exact rfl))
  refine Jcx rfl (fun hlt0 => ?_) (fun hge => ?_)
  · have hlt : k < ds.length := by omega
    obtain ⟨ad, rfl, hc⟩ := Rd.elem NdC_len (hr.ext e2) hlt
    have hnk : d.nodes[k]'(by omega) = NdP ds[k] := by simp only [← hm, List.getElem_map]
    have hid : (d.nodes[k]'(by omega)).1 = ds[k].id := by rw [hnk]; rfl
    have hdr : d.nodes.drop k = d.nodes[k]'(by omega) :: d.nodes.drop (k + 1) := List.drop_eq_getElem_cons (by omega)
    rw [hdr, nAtF, hid] at hat
    have hone := (hok _ (List.getElem_mem hlt)).one
    obtain ⟨x, hx⟩ : ∃ x, x = ds[k] := ⟨_, rfl⟩
    rw [← hx] at hc hone hat
    obtain ⟨id2, body, safe, vb, vs⟩ := x
    simp only at hat
    replace hc : ∀ j u, [I id2, vb, vs][j]? = some u → w2.cell? ((ad.add (k * 3)).add j) = some u := hc
    replace hone : [I id2, vb, vs].all (·.oneCell') = true := hone
    repeat' (first | apply Jbq | apply Jbr | apply Jbs | apply Jbt | apply Jby | apply Jbz | (apply Jcg; (first | exact Jaa rfl | exact Jab rfl | exact Jak rfl rfl | exact Jar Us.h Sz.h rfl rfl (by omega) | (apply Jbl; exact Us.h; exact rfl; exact Sz.h; exact rfl)); exact rfl) | refine Jcg (Pu_loadAgg (cs := [I id2, vb, vs]) Us.h rfl Sz.h rfl (fun _ e j u hu => by rw [e]; exact hc j u hu)) rfl ?_ | (refine TL_alloc Zs.h rfl rfl ?_; intro w3 g3 e3 hg3 hz3 hb3) | (refine TL_storeAgg rfl rfl Sz.h hone hb3 rfl ?_; intro w4 c4 hz4 hb4) | refine Jcg (Pu_load Fl.h rfl (fun _ e => by rw [e]; exact hb4.ld rfl)) rfl ?_)
    have E4 : Ext w w4 := Ext.then_iv (e2.ext e3) c4 (by have := e2.size; omega)
    refine Jcx rfl (fun he => ?_) (fun he => ?_)
    · rw [if_pos he] at hat
      repeat' (first | apply Jbq | apply Jbr | apply Jbs | apply Jbt | apply Jbu | apply Jbv | apply Jbw | (apply Jcg; (first | exact Jaa rfl | exact Jab rfl); exact rfl))
      exact TR_of (res1 rfl rfl) ⟨by rw [hat], E4⟩
    · rw [if_neg he] at hat
      repeat' (first | apply Jbq | apply Jbr | apply Jbt | apply Jbx | apply Jbz | (apply Jcg; (first | exact Jaa rfl | exact Jaf rfl rfl (by omega)); exact rfl))
      exact TN_round (k + 1) (subEnv_cons rfl (subEnv_cons rfl (subEnv_cons rfl (subEnv_cons rfl (subEnv_nil _))))) ⟨hlt, hat, E4⟩ (by omega)
  · obtain rfl : k = ds.length := by omega
    rw [List.drop_eq_nil_of_le (by omega)] at hat
    repeat' (first | apply Jbq | apply Jbr | apply Jbs | apply Jbt | apply Jbu | apply Jca | apply Jcb | apply Jcc | (apply Jcg; exact Jab rfl; exact rfl))
    exact TR_of (res1 rfl rfl) ⟨by rw [hat]; rfl, e2⟩
set_option maxHeartbeats 2000000 in
theorem implnodeAt_c {w : World} {lo hi : Nat} {d : DiskP} {sn sk st : Value} {id : Int} (h : RDk w lo hi d sn sk st) (hl : d.nodes.length ≤ 1048576) :
    Ret Tryz.prog 94 #[.agg (dskC d sn sk st).toArray, I id] w fun v' w' => v' = I (nAt d.nodes id) ∧ Ext w w' := by
  obtain ⟨ds, A, c, hm, rfl, _, hr, hok⟩ := h.1
  have hln : d.nodes.length = ds.length := by rw [← hm, List.length_map]
  refine Ret_enter Tryz.func94 rfl rfl rfl ?_
  repeat' (first | apply Jbs | apply Jbt)
  refine TL_box (cs := dskC d (.slice A ds.length c) sk st) rfl rfl ?_
  intro w1 g E hg hz hbk
  clear hg hz
  repeat' (first | apply Jbq | apply Jbr | apply Jbs | apply Jbt | apply Jby | (apply Jcg; (first | exact Jaa rfl | exact Jab rfl | exact Jac Us.h rfl | (apply Jbl; exact Us.h; exact rfl; exact Sz.h; exact rfl)); exact rfl) | refine Jcg (Pu_load Fl.h rfl (fun _ e => by rw [e]; exact hbk.ld rfl)) rfl ?_)
  refine TC_loop (ι := Nat) (fun k => [(1, I id), (8, .slice A ds.length c), (9, I ds.length), (10, I k)]) (fun k w' => k ≤ ds.length ∧ nAt d.nodes id = nAtF id k (d.nodes.drop k) ∧ Ext w w') (fun k => ds.length - k) 0 (subEnv_cons rfl (subEnv_cons rfl (subEnv_cons rfl (subEnv_cons rfl (subEnv_nil _))))) ⟨Nat.zero_le _, rfl, E⟩ ?_
  intro k w2 ⟨hk, hat, e2⟩
  repeat' (first | apply Jbq | apply Jbr | apply Jbs | apply Jbt | (apply Jcg; exact Jad rfl rfl; exact rfl))
  refine Jcx rfl (fun hlt0 => ?_) (fun hge => ?_)
  · have hlt : k < ds.length := by omega
    obtain ⟨ad, rfl, hc⟩ := Rd.elem NdC_len (hr.ext e2) hlt
    have hnk : d.nodes[k]'(by omega) = NdP ds[k] := by simp only [← hm, List.getElem_map]
    have hid : (d.nodes[k]'(by omega)).1 = ds[k].id := by rw [hnk]; rfl
    have hdr : d.nodes.drop k = d.nodes[k]'(by omega) :: d.nodes.drop (k + 1) := List.drop_eq_getElem_cons (by omega)
    rw [hdr, nAtF, hid] at hat
    have hone := (hok _ (List.getElem_mem hlt)).one
    obtain ⟨x, hx⟩ : ∃ x, x = ds[k] := ⟨_, rfl⟩
    rw [← hx] at hc hone hat
    obtain ⟨id2, body, safe, vb, vs⟩ := x
    simp only at hat
    replace hc : ∀ j u, [I id2, vb, vs][j]? = some u → w2.cell? ((ad.add (k * 3)).add j) = some u := hc
    replace hone : [I id2, vb, vs].all (·.oneCell') = true := hone
    repeat' (first | apply Jbq | apply Jbr | apply Jbs | apply Jbt | apply Jby | apply Jbz | (apply Jcg; (first | exact Jaa rfl | exact Jab rfl | exact Jak rfl rfl | exact Jar Us.h Sz.h rfl rfl (by omega) | (apply Jbl; exact Us.h; exact rfl; exact Sz.h; exact rfl)); exact rfl) | refine Jcg (Pu_loadAgg (cs := [I id2, vb, vs]) Us.h rfl Sz.h rfl (fun _ e j u hu => by rw [e]; exact hc j u hu)) rfl ?_ | (refine TL_alloc Zs.h rfl rfl ?_; intro w3 g3 e3 hg3 hz3 hb3) | (refine TL_storeAgg rfl rfl Sz.h hone hb3 rfl ?_; intro w4 c4 hz4 hb4) | refine Jcg (Pu_load Fl.h rfl (fun _ e => by rw [e]; exact hb4.ld rfl)) rfl ?_)
    have E4 : Ext w w4 := Ext.then_iv (e2.ext e3) c4 (by have := e2.size; omega)
    refine Jcx rfl (fun he => ?_) (fun he => ?_)
    · rw [if_pos he] at hat
      repeat' (first | apply Jbq | apply Jbr | apply Jbs | apply Jbt | apply Jbu | apply Jbv | apply Jbw | (apply Jcg; (first | exact Jaa rfl | exact Jab rfl); exact rfl))
      exact TR_of (res1 rfl rfl) ⟨by rw [hat], E4⟩
    · rw [if_neg he] at hat
      repeat' (first | apply Jbq | apply Jbr | apply Jbt | apply Jbx | apply Jbz | (apply Jcg; (first | exact Jaa rfl | exact Jaf rfl rfl (by omega)); exact rfl))
      exact TN_round (k + 1) (subEnv_cons rfl (subEnv_cons rfl (subEnv_cons rfl (subEnv_cons rfl (subEnv_nil _))))) ⟨hlt, hat, E4⟩ (by omega)
  · obtain rfl : k = ds.length := by omega
    rw [List.drop_eq_nil_of_le (by omega)] at hat
    repeat' (first | apply Jbq | apply Jbr | apply Jbs | apply Jbt | apply Jbu | apply Jca | apply Jcb | apply Jcc | (apply Jcg; exact Jab rfl; exact rfl))
    exact TR_of (res1 rfl rfl) ⟨by rw [hat]; rfl, e2⟩
set_option maxHeartbeats 2000000 in
theorem l03Dir_o {w : World} {lo hi : Nat} {d : DiskP} {sn sk st : Value} {n : Nat} (h : RDk w lo hi d sn sk st) (hk : d.kept.length ≤ 100) (ht : d.turns.length ≤ 100) (hn : n ≤ d.turns.length) :
    Ret Tryz.prog 59 #[.agg (dskC d sn sk st).toArray, I n] w fun v' w' => Ext w w' ∧ RowO LkC 162 2 w' w.heap.size w'.heap.size v' (runT d.kept (d.turns.take n)) := by
  obtain ⟨At, ct, rfl, hct, hrt⟩ := h.2.2.row
  refine Ret_enter Tryz.func59 rfl rfl rfl ?_
  repeat' (first | apply Jbs | apply Jbt)
  refine TL_box (cs := dskC d sn sk (.slice At d.turns.length ct)) rfl rfl ?_
  intro wb g E hg hz hb0
  clear hz
  have hzb := E.size
  repeat' (first | apply Jbq | apply Jbr | apply Jbs | apply Jbt | (apply Jcg; (first | exact Jab rfl | (apply Jbl; exact Us.h; exact rfl; exact Sz.h; exact rfl)); exact rfl) | (refine TL_buildSlice0 Us.h Sz.h rfl ?_; intro w1 g1 e1 hg1 hz1 hown1))
  have hb1 := hb0.ext e1
  repeat' (refine Jcg (Pu_load Fl.h rfl (fun _ e => by rw [e]; exact hb1.ld rfl)) rfl ?_)
  refine TL_appendRow Us.h Inf.h rfl rfl rfl LkC_one rfl rfl (RowO.new (l := []) rfl hown1 hg1 hz1) (h.2.1.row.ext (E.ext e1)) e1.size (by simp only [List.length_nil]; omega) rfl ?_
  intro w2 v2 c2 ho2
  rw [List.nil_append] at ho2
  have E2 : Ext wb w2 := Ext.then_iv e1 c2 (Nat.le_refl _)
  repeat' (first | apply Jbq | apply Jbr | apply Jbs | apply Jbt | apply Jby | (apply Jcg; exact Jab rfl; exact rfl))
  refine TC_loop (ι := Nat × Value) (fun x => [(1, I n), (2, .pointer (some ⟨g, 0, none⟩)), (5, x.2), (6, I x.1)]) (fun x w' => x.1 ≤ n ∧ Ext wb w' ∧ RowO LkC 162 2 w' w.heap.size w'.heap.size x.2 (runT d.kept (d.turns.take x.1))) (fun x => n - x.1) (0, v2) (subEnv_cons rfl (subEnv_cons rfl (subEnv_cons rfl (subEnv_cons rfl (subEnv_nil _))))) ⟨Nat.zero_le _, E2, ho2.wide hzb (Nat.le_refl _) (Nat.le_refl _)⟩ ?_
  rintro ⟨k, vd⟩ w3 ⟨hk3, e3, hr3⟩
  simp only at hk3 hr3
  show TC _ _ _ _ [(1, I n), (2, .pointer (some ⟨g, 0, none⟩)), (5, vd), (6, I (k : Int))] w3
  have hb3 := hb0.ext e3
  repeat' (first | apply Jbq | apply Jbr | apply Jbs | apply Jbt | (apply Jcg; (first | exact Jaa rfl | exact Jad rfl rfl); exact rfl))
  refine Jcx rfl (fun hlt0 => ?_) (fun hge => ?_)
  · have hlt : k < d.turns.length := by omega
    have hrl := runT_length d.kept (d.turns.take k)
    rw [List.length_take] at hrl
    obtain ⟨ad, rfl, hcell⟩ := Rd.elem TnC_len (hrt.ext (E.ext e3)) hlt
    repeat' (first | apply Jbr | apply Jbs | apply Jbt | apply Jby | apply Jbz | (apply Jcg; (first | exact Jaa rfl | exact Jar Us.h Sz.h rfl rfl (by omega) | (apply Jbl; exact Us.h; exact rfl; exact Sz.h; exact rfl)); exact rfl) | refine Jcg (Pu_load Fl.h rfl (fun _ e => by rw [e]; exact hb3.ld rfl)) rfl ?_ | refine Jcg (Pu_loadAgg (cs := TnC d.turns[k]) Us.h rfl Sz.h rfl (fun _ e j u hu => by rw [e]; exact hcell j u hu)) rfl ?_)
    refine TL_call rfl en133 (l03Turn_o hr3.rk (by omega)) rfl rfl ?_
    rintro v4 w4 ⟨e4, hr4⟩
    repeat' (first | apply Jbq | apply Jbr | apply Jbt | apply Jbx | (apply Jcg; (first | exact Jaa rfl | exact Jab rfl | exact Jaf rfl rfl (by omega)); exact rfl))
    refine TN_round (k + 1, v4) (subEnv_cons rfl (subEnv_cons rfl (subEnv_cons rfl (subEnv_cons rfl (subEnv_nil _))))) ⟨by simp only; omega, e3.ext e4, ?_⟩ (by simp only; omega)
    simp only
    rw [runT_take hlt]
    exact hr4.wide (by have := e3.size; omega) (Nat.le_refl _) (Nat.le_refl _)
  · obtain rfl : k = n := by omega
    repeat' (first | apply Jbq | apply Jbr | apply Jbs | apply Jbt | apply Jbu | apply Jca | apply Jcb | apply Jcc | (apply Jcg; (first | exact Jaa rfl | exact Jab rfl); exact rfl))
    exact TR_of (res1 rfl rfl) ⟨E.ext e3, hr3⟩
open Classical in
noncomputable def pDirs (d : DiskP) : List LkD := if DOk d then pDir d else []
open Classical in
theorem pDirs_yes {d : DiskP} (h : DOk d) : pDirs d = pDir d := by unfold pDirs; exact if_pos h
open Classical in
theorem pDirs_no {d : DiskP} (h : ¬ DOk d) : pDirs d = [] := by unfold pDirs; exact if_neg h
theorem RK.nil (w : World) : RK w 0 w.heap.size (.slice none 0 0) [] := RowR.rk ⟨none, 0, rfl, Nat.le_refl _, ⟨by simp [cellsL], Nat.le_refl _, fun h => absurd h (by simp)⟩⟩
set_option maxHeartbeats 2000000 in
theorem specDiskDir_o {w : World} {lo hi : Nat} {d : DiskP} {sn sk st : Value} (h : RDk w lo hi d sn sk st) (hf : d.fits) (hl : totD d ≤ 1048576) :
    Ret Tryz.prog 86 #[.agg (dskC d sn sk st).toArray] w fun v' w' => Ext w w' ∧ RowO LkC 162 2 w' w.heap.size w'.heap.size v' (pDirs d) := by
  have hh := h
  obtain ⟨At, ct, rfl, hct, hrt⟩ := h.2.2.row
  refine Ret_enter Tryz.func86 rfl rfl rfl ?_
  repeat' (first | apply Jbs | apply Jbt)
  refine TL_box (cs := dskC d sn sk (.slice At d.turns.length ct)) rfl rfl ?_
  intro wb g E hg hz hb0
  clear hz
  repeat' (first | apply Jbq | apply Jbr | apply Jbs | apply Jbt | (apply Jcg; exact Jab rfl; exact rfl) | refine Jcg (Pu_loadAgg (cs := dskC d sn sk (.slice At d.turns.length ct)) Us.h rfl Sz.h rfl (fun _ e j u hu => by rw [e, add0, hb0.cell]; exact hu)) rfl ?_)
  refine TL_call rfl en57 (specDiskOk_c (hh.ext E) hf hl) rfl rfl ?_
  rintro _ w1 ⟨rfl, e1⟩
  cases hp : pDOk d with
  | false =>
    repeat' (first | apply Jbq | apply Jbr | apply Jbs | apply Jbt | apply Jbu | apply Jbv | (refine Jce rfl ?_) | (apply Jcg; (first | exact Jab rfl | exact Jaj rfl); exact rfl))
    exact TR_of (res1 rfl rfl) ⟨E.ext e1, by rw [pDirs_no (fun h => by rw [pDOk_yes h] at hp; cases hp)]; exact RowO.nil _ _ (E.ext e1).size⟩
  | true =>
    have hD := pDOk_of hp
    have hB := hD.base
    unfold dBase at hB
    have hb1 := hb0.ext e1
    repeat' (first | apply Jbq | apply Jbr | apply Jbs | apply Jbt | apply Jbz | (refine Jcf rfl ?_) | (apply Jcg; (first | exact Jac Us.h rfl | exact Jaj rfl | (apply Jbl; exact Us.h; exact rfl; exact Sz.h; exact rfl)); exact rfl) | refine Jcg (Pu_load Fl.h rfl (fun _ e => by rw [e]; exact hb1.ld rfl)) rfl ?_ | refine Jcg (Pu_loadAgg (cs := dskC d sn sk (.slice At d.turns.length ct)) Us.h rfl Sz.h rfl (fun _ e j u hu => by rw [e, add0, hb1.cell]; exact hu)) rfl ?_)
    refine TL_call rfl en59 (l03Dir_o (hh.ext (E.ext e1)) (by omega) (by omega) (Nat.le_refl _)) rfl rfl ?_
    rintro v2 w2 ⟨e2, hr2⟩
    repeat' (first | apply Jbq | apply Jbr | apply Jbu | (apply Jcg; exact Jab rfl; exact rfl))
    refine TR_of (res1 rfl rfl) ⟨(E.ext e1).ext e2, ?_⟩
    rw [List.take_length] at hr2
    rw [pDirs_yes hD]
    exact hr2.wide (E.ext e1).size (Nat.le_refl _) (Nat.le_refl _)
theorem specDiskDir_c {w : World} {lo hi : Nat} {d : DiskP} {sn sk st : Value} (h : RDk w lo hi d sn sk st) (hf : d.fits) (hl : totD d ≤ 1048576) :
    Ret Tryz.prog 86 #[.agg (dskC d sn sk st).toArray] w fun v' w' => Ext w w' ∧ RK w' 0 w'.heap.size v' (pDirs d) := by
  refine (specDiskDir_o h hf hl).mono fun v w' ⟨e, ho⟩ => ⟨e, ho.rk⟩
end Go.Proofs.YtggaghghclomkaaGreat

/- Contracts: a file is read. -/
namespace Go.Proofs.YtggaghghclomkaaGreat
open Go.RowKit
theorem DOk.ids_ge {d : DiskP} (h : DOk d) (s : List UInt8) : dFind (pDir d) s = 0 ↔ dHas (pDir d) s = false := by
  have := pFind_pos h s
  constructor
  · intro h0
    cases hh : dHas (pDir d) s with
    | false => rfl
    | true => rw [hh, h0] at this; exact absurd (this.2 rfl) (by decide)
  · intro hh; exact dFind_none hh
theorem pDirs_length {d : DiskP} : (pDirs d).length ≤ 48 := by
  by_cases h : DOk d
  · rw [pDirs_yes h]
    have := runT_length d.kept d.turns
    have hB := h.base
    unfold dBase at hB
    unfold pDir
    omega
  · rw [pDirs_no h]; simp
attribute [local irreducible] TL TC TN TX TR TQ TA Pu Ret
set_option maxRecDepth 100000 in
set_option maxHeartbeats 4000000 in
theorem specDiskRead_c {w : World} {lo hi : Nat} {d : DiskP} {sn sk st : Value} {s : List UInt8} (h : RDk w lo hi d sn sk st) (hf : d.fits) (hl : totD d ≤ 1048576) :
    Ret Tryz.prog 106 #[.agg (dskC d sn sk st).toArray, S s] w fun v' w' => ∃ v2, v' = .tuple #[v2, .bool (pRead d s).2] ∧ Ext w w' ∧ RB w' 0 w'.heap.size v2 (pRead d s).1 := by
  have hh := h
  obtain ⟨ds, A, c, hm, rfl, hc, hr, hok⟩ := h.1
  have hln : d.nodes.length = ds.length := by rw [← hm, List.length_map]
  have hl1 := (totD_parts hl).1
  have hl0 := totNd_nn d.nodes
  refine Ret_enter Tryz.func106 rfl rfl rfl ?_
  repeat' (first | apply Jbs | apply Jbt)
  refine TL_box (cs := dskC d (.slice A ds.length c) sk st) rfl rfl ?_
  intro wb g E hg hz hb0
  clear hz
  repeat' (first | apply Jbq | apply Jbr | apply Jbs | apply Jbt | (apply Jcg; exact Jab rfl; exact rfl) | refine Jcg (Pu_loadAgg (cs := dskC d (.slice A ds.length c) sk st) Us.h rfl Sz.h rfl (fun _ e j u hu => by rw [e, add0, hb0.cell]; exact hu)) rfl ?_)
  refine TL_call rfl en86 (specDiskDir_c (hh.ext E) hf hl) rfl rfl ?_
  rintro v1 w1 ⟨e1, hr1⟩
  have hpl := pDirs_length (d := d)
  repeat' ((apply Jcg; exact Jaa rfl; exact rfl))
  refine TL_call rfl en85 (l03Find_c hr1 (by omega)) rfl rfl ?_
  rintro _ w2 ⟨rfl, e2⟩
  have E2 := (E.ext e1).ext e2
  have hb2 := (hb0.ext e1).ext e2
  repeat' (first | apply Jbq | apply Jbr | apply Jbs | apply Jbt | (apply Jcg; (first | exact Jaa rfl | exact Jab rfl | exact Jak rfl rfl); exact rfl))
  refine Jcx rfl (fun h0 => ?_) (fun h0 => ?_)
  · repeat' (first | apply Jbq | apply Jbr | apply Jbs | apply Jbt | apply Jbu | apply Jbv | (apply Jcg; exact Jab rfl; exact rfl))
    refine TR_of (res2 rfl rfl rfl) ⟨.slice none 0 0, ?_, E2, ?_⟩
    · have : pRead d s = ([], false) := pRead_no (fun h => by rw [pDirs_yes h.1, DOk.ids_ge h.1, h.2] at h0; cases h0)
      rw [this]
    · have : pRead d s = ([], false) := pRead_no (fun h => by rw [pDirs_yes h.1, DOk.ids_ge h.1, h.2] at h0; cases h0)
      rw [this]
      exact ⟨none, 0, rfl, Nat.le_refl _, ⟨rfl, Nat.le_refl _, fun h => absurd h (by simp)⟩⟩
  · have hD : DOk d := by
      by_cases h : DOk d
      · exact h
      · rw [pDirs_no h] at h0; exact absurd rfl h0
    rw [pDirs_yes hD] at h0 ⊢
    have hhas : dHas (pDir d) s = true := by
      cases hh : dHas (pDir d) s with
      | true => rfl
      | false => exact absurd ((DOk.ids_ge hD s).2 hh) h0
    obtain ⟨i, hi, hat, _⟩ := hD.dirAt hhas
    rw [pRead_yes hD hhas, hat]
    simp only
    rw [bodyAt_nat hi]
    obtain ⟨ad, rfl, hcell⟩ := Rd.elem NdC_len (hr.ext E2) (k := i) (by omega)
    have hni : d.nodes[i] = NdP ds[i] := by simp only [← hm, List.getElem_map]
    have hbody : d.nodes[i].2.1 = ds[i].body := by rw [hni]; rfl
    have hrb := (hok _ (List.getElem_mem (show i < ds.length by omega))).1
    have hwk := totNd_mem (List.getElem_mem hi)
    unfold NdW at hwk
    rw [hbody] at hwk ⊢
    have hcv : w2.cell? ((ad.add (i * 3)).add 1) = some (ds[i]'(by omega)).vb := hcell 1 _ rfl
    obtain ⟨x, hx⟩ : ∃ x, x = ds[i]'(by omega) := ⟨_, rfl⟩
    rw [← hx] at hcv hrb hwk ⊢
    obtain ⟨Ab, cb, hvb, hcb, hrdb⟩ := hrb
    rw [hvb] at hcv
    repeat' (first | apply Jbr | apply Jbs | apply Jbz)
    refine TC_any mixed rfl ?_
    intro w3 hE hz3
    (refine Jco 1 rfl (by kernel_rfl) (by kernel_rfl) (by kernel_rfl) (fun _ _ _ h => h) hE (by (apply Jbl; exact Us.h; exact rfl; exact Sz.h; exact rfl)) rfl ?_; refine Jco 2 rfl (by kernel_rfl) (by kernel_rfl) (by kernel_rfl) (fun _ _ _ h => h) hE (by exact Pu_load Fl.h rfl (fun _ e => Ext.cell e (hb2.ld rfl))) rfl ?_; refine Jco 3 rfl (by kernel_rfl) (by kernel_rfl) (by kernel_rfl) (fun _ _ _ h => h) hE (by exact Pu_loadAgg (cs := dskC d (.slice (some ad) ds.length c) sk st) Us.h rfl Sz.h rfl (fun _ e j u hu => Ext.cell e (by rw [add0, hb2.cell]; exact hu))) rfl ?_; refine Jco 4 rfl (by kernel_rfl) (by kernel_rfl) (by kernel_rfl) (fun _ _ _ h => h) hE (by exact Jaa rfl) rfl ?_)
    refine TA_two 0 5 (by kernel_rfl) rfl rfl ?_ ?_
    · refine TL_buildSlice0 Us.h Sz.h rfl ?_
      intro w4 g4 e4 hg4 hz4 hown4
      have hE4 := hE.ext e4
      refine Jbq (TN_any hE4 ?_)
      refine TA_one 5 (by kernel_rfl) rfl ?_
      refine TL_call rfl en84 (specl03At_c (hh.ext (E2.ext hE4)) (by omega)) rfl rfl ?_
      rintro _ w5 ⟨rfl, e5⟩
      rw [hat]
      have hE := hE4.ext e5
      refine Jbq (TN_any hE ?_)
      (refine Jco 6 rfl (by kernel_rfl) (by kernel_rfl) (by kernel_rfl) (fun _ _ _ h => h) hE (by exact Jar Us.h Sz.h rfl rfl (by omega)) rfl ?_; refine Jco 7 rfl (by kernel_rfl) (by kernel_rfl) (by kernel_rfl) (fun _ _ _ h => h) hE (by (apply Jbl; exact Us.h; exact rfl; exact Sz.h; exact rfl)) rfl ?_; refine Jco 8 rfl (by kernel_rfl) (by kernel_rfl) (by kernel_rfl) (fun _ _ _ h => h) hE (by exact Pu_load Fl.h rfl (fun _ e => Ext.cell e hcv)) rfl ?_)
      refine TA_one 9 (by kernel_rfl) rfl ?_
      have hnew : OB w5 w3.heap.size w4.heap.size _ [] := (OB_new (s := []) rfl hown4 hg4 hz4).ext e5
      refine TL_appendB Us.h rfl rfl hnew ⟨_, _, rfl, hcb, hrdb.ext (E2.ext hE)⟩ (by have := e4.size; have := e5.size; omega) (by simp only [List.length_nil]; omega) rfl ?_
      intro w6 v6 c6 ho6
      have hE6 : Ext w2 w6 := Ext.then_iv hE c6 (by omega)
      refine Jbq (TN_any hE6 ?_)
      clear hE
      have hE := hE6
      (refine Jco 10 rfl (by kernel_rfl) (by kernel_rfl) (by kernel_rfl) (fun _ _ _ h => h) hE (by exact Jab rfl) rfl ?_; refine Jco 11 rfl (by kernel_rfl) (by kernel_rfl) (by kernel_rfl) (fun _ _ _ h => h) hE (by exact Jab rfl) rfl ?_)
      refine TA_done (by kernel_rfl) ?_
      repeat' (first | apply Jbr | apply Jbu)
      exact TR_of (res2 rfl rfl rfl) ⟨v6, rfl, E2.ext hE, by obtain ⟨A', c', h1, h2, h3⟩ := ho6.rd; exact ⟨A', c', h1, h2, h3.wide (Nat.zero_le _) (Nat.le_refl _) (Nat.le_refl _)⟩⟩
    · refine TL_call rfl en84 (specl03At_c (hh.ext (E2.ext hE)) (by omega)) rfl rfl ?_
      rintro _ w4 ⟨rfl, e4⟩
      rw [hat]
      have hE4 := hE.ext e4
      clear hE
      have hE := hE4
      refine Jbq (TN_any hE ?_)
      (refine Jco 6 rfl (by kernel_rfl) (by kernel_rfl) (by kernel_rfl) (fun _ _ _ h => h) hE (by exact Jar Us.h Sz.h rfl rfl (by omega)) rfl ?_; refine Jco 7 rfl (by kernel_rfl) (by kernel_rfl) (by kernel_rfl) (fun _ _ _ h => h) hE (by (apply Jbl; exact Us.h; exact rfl; exact Sz.h; exact rfl)) rfl ?_; refine Jco 8 rfl (by kernel_rfl) (by kernel_rfl) (by kernel_rfl) (fun _ _ _ h => h) hE (by exact Pu_load Fl.h rfl (fun _ e => Ext.cell e hcv)) rfl ?_)
      refine TA_one 0 (by kernel_rfl) rfl ?_
      refine TL_buildSlice0 Us.h Sz.h rfl ?_
      intro w5 g5 e5 hg5 hz5 hown5
      have hE5 := hE.ext e5
      refine Jbq (TN_any hE5 ?_)
      refine TA_one 9 (by kernel_rfl) rfl ?_
      have hnew : OB w5 w4.heap.size w5.heap.size _ [] := OB_new (s := []) rfl hown5 hg5 hz5
      refine TL_appendB Us.h rfl rfl hnew ⟨_, _, rfl, hcb, hrdb.ext (E2.ext hE5)⟩ e5.size (by simp only [List.length_nil]; omega) rfl ?_
      intro w6 v6 c6 ho6
      have hE6 : Ext w2 w6 := Ext.then_iv hE5 c6 (by have := hE.size; omega)
      refine Jbq (TN_any hE6 ?_)
      clear hE
      have hE := hE6
      (refine Jco 10 rfl (by kernel_rfl) (by kernel_rfl) (by kernel_rfl) (fun _ _ _ h => h) hE (by exact Jab rfl) rfl ?_; refine Jco 11 rfl (by kernel_rfl) (by kernel_rfl) (by kernel_rfl) (fun _ _ _ h => h) hE (by exact Jab rfl) rfl ?_)
      refine TA_done (by kernel_rfl) ?_
      repeat' (first | apply Jbr | apply Jbu)
      exact TR_of (res2 rfl rfl rfl) ⟨v6, rfl, E2.ext hE, by obtain ⟨A', c', h1, h2, h3⟩ := ho6.rd; exact ⟨A', c', h1, h2, h3.wide (Nat.zero_le _) (Nat.le_refl _) (Nat.le_refl _)⟩⟩
set_option maxRecDepth 100000 in
set_option maxHeartbeats 4000000 in
theorem implDiskRead_c {w : World} {lo hi : Nat} {d : DiskP} {sn sk st : Value} {s : List UInt8} (h : RDk w lo hi d sn sk st) (hf : d.fits) (hl : totD d ≤ 1048576) (hs : s.length ≤ 9223372036854775807) :
    Ret Tryz.prog 37 #[.agg (dskC d sn sk st).toArray, S s] w fun v' w' => ∃ v2, v' = .tuple #[v2, .bool (pRead d s).2] ∧ Ext w w' ∧ OB w' w.heap.size w'.heap.size v2 (pRead d s).1 := by
  have hh := h
  obtain ⟨ds, A, c, hm, rfl, hc, hr, hok⟩ := h.1
  have hln : d.nodes.length = ds.length := by rw [← hm, List.length_map]
  have hl1 := (totD_parts hl).1
  have hl0 := totNd_nn d.nodes
  obtain ⟨ft1, ft2⟩ := fits_tk hf
  refine Ret_enter Tryz.func37 rfl rfl rfl ?_
  repeat' (first | apply Jbs | apply Jbt)
  refine TL_box (cs := dskC d (.slice A ds.length c) sk st) rfl rfl ?_
  intro wb g E hg hz hb0
  clear hz
  repeat' (first | apply Jbq | apply Jbr | apply Jbs | apply Jbt | (apply Jcg; exact Jab rfl; exact rfl) | refine Jcg (Pu_loadAgg (cs := dskC d (.slice A ds.length c) sk st) Us.h rfl Sz.h rfl (fun _ e j u hu => by rw [e, add0, hb0.cell]; exact hu)) rfl ?_)
  refine TL_call rfl en65 (implDiskOk_c (hh.ext E) hf hl) rfl rfl ?_
  rintro _ w1 ⟨rfl, e1⟩
  have E1 := E.ext e1
  have hb1 := hb0.ext e1
  cases hp : pDOk d with
  | false =>
    have hno : pRead d s = ([], false) := pRead_no (fun h => by rw [pDOk_yes h.1] at hp; cases hp)
    rw [hno]
    repeat' (first | apply Jbq | apply Jbr | apply Jbs | apply Jbt | apply Jbu | apply Jbv | (refine Jce rfl ?_) | (apply Jcg; (first | exact Jab rfl | exact Jaj rfl); exact rfl))
    exact TR_of (res2 rfl rfl rfl) ⟨.slice none 0 0, rfl, E1, OB.nil _ _ E1.size⟩
  | true =>
    have hD := pDOk_of hp
    have hB := hD.base
    unfold dBase at hB
    repeat' (first | apply Jbq | apply Jbr | apply Jbs | apply Jbt | apply Jbz | (refine Jcf rfl ?_) | (apply Jcg; (first | exact Jaj rfl | (apply Jbl; exact Us.h; exact rfl; exact Sz.h; exact rfl)); exact rfl) | refine Jcg (Pu_load Fl.h rfl (fun _ e => by rw [e]; exact hb1.ld rfl)) rfl ?_)
    refine TL_call rfl en67 (dirOf_c (hh.2.1.ext E1) (hh.2.2.ext E1) (kept_asc ((dok_iff d).1 hD).link) (by omega) (by omega) ft1 ft2) rfl rfl ?_
    rintro _ w2 ⟨e2, hq⟩
    have E2 := E1.ext e2
    have hb2 := hb1.ext e2
    rcases hq with ⟨_, b, kb, rfl, _, _, hM⟩ | ⟨hA, _⟩
    · cases hhas : dHas (pDir d) s with
      | false =>
        have hno : pRead d s = ([], false) := pRead_no (fun h => by rw [h.2] at hhas; cases hhas)
        rw [hno]
        repeat' (first | apply Jbq | apply Jbr | apply Jbs | apply Jbt | apply Jbu | apply Jbv | (refine Jce rfl ?_) | (apply Jcg; (first | exact Jaa rfl | exact Jab rfl | exact Jae rfl rfl | exact Jaj rfl); exact rfl) | refine Jcg (Pu_dirLookB rfl rfl hs hhas (fun w' e => ⟨kb, by rw [e]; exact hM⟩)) rfl ?_)
        exact TR_of (res2 rfl rfl rfl) ⟨.slice none 0 0, rfl, E2, OB.nil _ _ E2.size⟩
      | true =>
        obtain ⟨i, hi, hat, _⟩ := hD.dirAt hhas
        rw [pRead_yes hD hhas, hat]
        simp only
        rw [bodyAt_nat hi]
        obtain ⟨ad, rfl, hcell⟩ := Rd.elem NdC_len (hr.ext E2) (k := i) (by omega)
        have hni : d.nodes[i] = NdP ds[i] := by simp only [← hm, List.getElem_map]
        have hbody : d.nodes[i].2.1 = ds[i].body := by rw [hni]; rfl
        have hrb := (hok _ (List.getElem_mem (show i < ds.length by omega))).1
        have hwk := totNd_mem (List.getElem_mem hi)
        unfold NdW at hwk
        rw [hbody] at hwk ⊢
        have hcv : w2.cell? ((ad.add (i * 3)).add 1) = some (ds[i]'(by omega)).vb := hcell 1 _ rfl
        obtain ⟨x, hx⟩ : ∃ x, x = ds[i]'(by omega) := ⟨_, rfl⟩
        rw [← hx] at hcv hrb hwk ⊢
        obtain ⟨Ab, cb, hvb, hcb, hrdb⟩ := hrb
        rw [hvb] at hcv
        repeat' (first | apply Jbq | apply Jbr | apply Jbs | apply Jbt | apply Jbz | (refine Jcf rfl ?_) | (apply Jcg; (first | exact Jaa rfl | exact Jab rfl | exact Jae rfl rfl | exact Jaj rfl); exact rfl) | refine Jcg (Pu_dirLookB rfl rfl hs hhas (fun w' e => ⟨kb, by rw [e]; exact hM⟩)) rfl ?_)
        refine TC_any mixed rfl ?_
        intro w3 hE hz3
        (refine Jco 0 rfl (by kernel_rfl) (by kernel_rfl) (by kernel_rfl) (fun _ _ _ h => h) hE (by (apply Jbl; exact Us.h; exact rfl; exact Sz.h; exact rfl)) rfl ?_; refine Jco 1 rfl (by kernel_rfl) (by kernel_rfl) (by kernel_rfl) (fun _ _ _ h => h) hE (by exact Pu_load Fl.h rfl (fun _ e => Ext.cell e (hb2.ld rfl))) rfl ?_; refine Jco 2 rfl (by kernel_rfl) (by kernel_rfl) (by kernel_rfl) (fun _ _ _ h => h) hE (by exact Pu_loadAgg (cs := dskC d (.slice (some ad) ds.length c) sk st) Us.h rfl Sz.h rfl (fun _ e j u hu => Ext.cell e (by rw [add0, hb2.cell]; exact hu))) rfl ?_; refine Jco 3 rfl (by kernel_rfl) (by kernel_rfl) (by kernel_rfl) (fun _ _ _ h => h) hE (by exact Jaa rfl) rfl ?_)
        refine TA_one 4 (by kernel_rfl) rfl ?_
        refine TL_call rfl en94 (implnodeAt_c (hh.ext (E2.ext hE)) (by omega)) rfl rfl ?_
        rintro _ w4 ⟨rfl, e4⟩
        first | rw [hat] | rw [show nAt d.nodes (dFind (runT d.kept d.turns) s) = (i : Int) from hat]
        have hE4 := hE.ext e4
        clear hE
        have hE := hE4
        refine Jbq (TN_any hE ?_)
        (refine Jco 5 rfl (by kernel_rfl) (by kernel_rfl) (by kernel_rfl) (fun _ _ _ h => h) hE (by exact Jar Us.h Sz.h rfl rfl (by omega)) rfl ?_; refine Jco 6 rfl (by kernel_rfl) (by kernel_rfl) (by kernel_rfl) (fun _ _ _ h => h) hE (by (apply Jbl; exact Us.h; exact rfl; exact Sz.h; exact rfl)) rfl ?_; refine Jco 7 rfl (by kernel_rfl) (by kernel_rfl) (by kernel_rfl) (fun _ _ _ h => h) hE (by exact Pu_load Fl.h rfl (fun _ e => Ext.cell e hcv)) rfl ?_)
        refine TA_one 8 (by kernel_rfl) rfl ?_
        refine TL_call rfl en71 (copyBytes_c (hrdb.ext (E2.ext hE)) (by omega)) rfl rfl ?_
        rintro _ w5 ⟨A5, c5, rfl, e5, ho5⟩
        have hE5 := hE.ext e5
        clear hE4
        have hE0 := hE
        clear hE
        have hE := hE5
        refine Jbq (TN_any hE ?_)
        (refine Jco 9 rfl (by kernel_rfl) (by kernel_rfl) (by kernel_rfl) (fun _ _ _ h => h) hE (by exact Jab rfl) rfl ?_; refine Jco 10 rfl (by kernel_rfl) (by kernel_rfl) (by kernel_rfl) (fun _ _ _ h => h) hE (by exact Jab rfl) rfl ?_)
        refine TA_done (by kernel_rfl) ?_
        repeat' (first | apply Jbr | apply Jbu)
        exact TR_of (res2 rfl rfl rfl) ⟨_, rfl, E2.ext hE, A5, c5, rfl, ho5.wide (E2.ext hE0).size (Nat.le_refl _) (Nat.le_refl _)⟩
    · exact absurd ((dok_iff d).1 hD).turn hA
end Go.Proofs.YtggaghghclomkaaGreat

/- Contracts: the directory of a disk, by the program. -/
namespace Go.Proofs.YtggaghghclomkaaGreat
open Go.RowKit
/-! ### the plain law: how long a directory is, and its names -/
theorem pName_len {s : List UInt8} (h : pName s = true) : s.length ≤ 12 := by unfold pName at h; simp at h; omega
theorem dLess_lt {L : List LkD} {s : List UInt8} (h : dHas L s = true) : (dLess L s).length < L.length := by
  unfold dHas at h
  rw [List.any_eq_true] at h
  obtain ⟨x, hx, he⟩ := h
  unfold dLess
  exact List.length_filter_lt_length_iff_exists.2 ⟨x, hx, by rw [he]; simp⟩
theorem pTurn_len2 {L : List LkD} {t : TnD} (h : aOk L t) : (pTurn L t).length ≤ L.length + (if t.kind = 1 then 1 else 0) := by
  unfold pTurn
  rcases h with ⟨a, _⟩ | ⟨a, b, _⟩ | ⟨a, b⟩
  · rw [if_pos a, if_pos a, dIns_length]; exact Nat.le_refl _
  · rw [if_neg (by omega), if_pos a, dIns_length, if_neg (by omega)]
    have h1 := dLess_lt b
    have h2 := dLess_length (dLess L t.name) t.to
    omega
  · rw [if_neg (by omega), if_neg (by omega), if_neg (by omega)]
    have h1 := dLess_length L t.name
    omega
theorem DOk.dirLen {d : DiskP} (h : DOk d) (k : Nat) (hk : k ≤ d.turns.length) : (runT d.kept (d.turns.take k)).length ≤ d.kept.length + ((d.turns.take k).filter (fun t => decide (t.kind = 1))).length := by
  have h2 := (dok_iff d).1 h
  induction k with
  | zero => simp [runT]
  | succ k ih =>
    rw [runT_take (by omega), List.take_succ_eq_append_getElem (by omega), List.filter_append, List.length_append]
    have h3 := pTurn_len2 (h2.turn k (by omega))
    have h4 := ih (by omega)
    by_cases e : d.turns[k].kind = 1
    · rw [if_pos e] at h3
      rw [show [d.turns[k]].filter (fun t => decide (t.kind = 1)) = [d.turns[k]] by simp [e]]
      simp only [List.length_cons, List.length_nil]
      omega
    · rw [if_neg e] at h3
      omega
theorem DOk.dirLe {d : DiskP} (h : DOk d) (k : Nat) (hk : k ≤ d.turns.length) : (runT d.kept (d.turns.take k)).length ≤ 8 := by
  have h1 := h.dirLen k hk
  have h2 := h.len
  have hB := h.base
  unfold dBase at hB
  unfold pIds at h2
  rw [List.length_append, List.length_map, List.length_map] at h2
  have h3 : ((d.turns.take k).filter (fun t => decide (t.kind = 1))).length ≤ (d.turns.filter (fun t => decide (t.kind = 1))).length := (List.Sublist.filter _ (List.take_sublist _ _)).length_le
  omega
theorem pTurn_name {L : List LkD} {t : TnD} (ht : tOk0 t) (hL : ∀ x ∈ L, pName x.name = true) : ∀ x ∈ pTurn L t, pName x.name = true := by
  intro x hx
  unfold pTurn at hx
  rcases ht.2 with ⟨a, b⟩ | ⟨a, b, c⟩ | ⟨a, b, c⟩
  · rw [if_pos a] at hx
    rcases (mem_dIns _).1 hx with rfl | hx
    · exact ht.1
    · exact hL x hx
  · rw [if_neg (by omega), if_pos a] at hx
    rcases (mem_dIns _).1 hx with rfl | hx
    · exact b
    · exact hL x (mem_dLess (mem_dLess hx))
  · rw [if_neg (by omega), if_neg (by omega)] at hx
    exact hL x (mem_dLess hx)
theorem DOk.dirName {d : DiskP} (h : DOk d) (k : Nat) (hk : k ≤ d.turns.length) : ∀ x ∈ runT d.kept (d.turns.take k), pName x.name = true := by
  have h2 := (dok_iff d).1 h
  induction k with
  | zero =>
    intro x hx
    obtain ⟨i, hi, rfl⟩ := List.mem_iff_getElem.1 (show x ∈ d.kept by simpa [runT] using hx)
    exact (h.link i hi).1
  | succ k ih => rw [runT_take (by omega)]; exact pTurn_name (h2.turn0 k (by omega)) (ih (by omega))
theorem totLk_names : ∀ {L : List LkD}, (∀ x ∈ L, pName x.name = true) → totLk L ≤ 12 * L.length
  | [], _ => by simp [totLk]
  | x :: r, h => by
    have h1 := totLk_names (L := r) (fun y hy => h y (by simp [hy]))
    have h2 := pName_len (h x (by simp))
    unfold totLk LkW at *
    simp only [List.map_cons, List.sum_cons, List.length_cons] at *
    omega
attribute [local irreducible] TL TC TN TX TR TQ TA Pu Ret
end Go.Proofs.YtggaghghclomkaaGreat

/- Contracts of the small helpers, for numbers. -/
namespace Go.Proofs.YtggaghghclomkaaGreat
open Go.RowKit
attribute [local irreducible] TL TC TN TX TR TQ Pu Ret

def i64s (s : List Int) : List Value := s.map I
@[simp] theorem i64s_length (s : List Int) : (i64s s).length = s.length := by simp [i64s]
theorem i64s_oneI (s : List Int) : ∀ u ∈ i64s s, u.oneCell' = true := by
  intro u hu
  simp only [i64s, List.mem_map] at hu
  obtain ⟨b, _, rfl⟩ := hu
  rfl
theorem i64s_get (s : List Int) {k : Nat} (h : k < s.length) : (i64s s).getD k undef = I (s.getD k 0) := by
  simp [i64s, List.getD_eq_getElem?_getD, List.getElem?_eq_getElem h]

/-- The marks of bytes: k, k + 1, .. -/
def mkI (k : Int) (n : Nat) : List Int := (List.range n).map fun (i : Nat) => k + (i : Int)
@[simp] theorem mkI_length (k : Int) (n : Nat) : (mkI k n).length = n := by simp [mkI]
end Go.Proofs.YtggaghghclomkaaGreat

/- Numbers that go from call to call: what reads so, what a call owns, what bears marks; the laws' helpers in these words. No condition. -/
namespace Go.Proofs.YtggaghghclomkaaGreat
open Go.RowKit
attribute [local irreducible] TL TC TN TX TR TQ Pu Ret

/-- The slice v reads as the bytes s. -/
def RI (w : World) (lo hi : Nat) (v : Value) (s : List Int) : Prop := ∃ A c, v = .slice A s.length c ∧ s.length ≤ c ∧ Rd w lo hi 1 A s.length (i64s s)
/-- The slice v is the call's own and holds the bytes s. -/
def OI (w : World) (lo hi : Nat) (v : Value) (s : List Int) : Prop := ∃ A c, v = .slice A s.length c ∧ Own w lo hi 3 1 A s.length c (i64s s)
/-- The slice v is the call's own and bears the marks k, k + 1, .. -/
def MI (w : World) (lo hi : Nat) (v : Value) (k : Int) (s : List Int) : Prop := OI w lo hi v (mkI k s.length)
section
variable {w w' : World} {lo hi : Nat} {v : Value} {s : List Int} {k : Int} {T : Nat → Prop}
theorem RI.ch (h : RI w lo hi v s) (c : Ch T w w') (hd : ∀ k, lo ≤ k → k < hi → ¬ T k) : RI w' lo hi v s := by
  obtain ⟨A, cc, h1, h2, h3⟩ := h; exact ⟨A, cc, h1, h2, h3.ch c hd⟩
theorem RI.ext (h : RI w lo hi v s) (c : Ext w w') : RI w' lo hi v s := h.ch c (fun _ _ _ t => t)
theorem OI.ch (h : OI w lo hi v s) (c : Ch T w w') (hd : ∀ k, lo ≤ k → k < hi → ¬ T k) : OI w' lo hi v s := by
  obtain ⟨A, cc, h1, h3⟩ := h; exact ⟨A, cc, h1, h3.ch c hd⟩
theorem OI.ext (h : OI w lo hi v s) (c : Ext w w') : OI w' lo hi v s := h.ch c (fun _ _ _ t => t)
theorem MI.ch (h : MI w lo hi v k s) (c : Ch T w w') (hd : ∀ k, lo ≤ k → k < hi → ¬ T k) : MI w' lo hi v k s := OI.ch h c hd
theorem MI.ext (h : MI w lo hi v k s) (c : Ext w w') : MI w' lo hi v k s := OI.ext h c
theorem OI.rd (h : OI w lo hi v s) : RI w lo hi v s := by obtain ⟨A, cc, h1, h3⟩ := h; exact ⟨A, cc, h1, h3.cap.1, h3.rd⟩
theorem OI.hi_le (h : OI w lo hi v s) : hi ≤ w.heap.size := by obtain ⟨A, cc, h1, h3⟩ := h; exact h3.hi_le
end
theorem OI.nil (w : World) (k : Nat) (_h : k ≤ w.heap.size) : OI w k w.heap.size (.slice none 0 0) [] := ⟨none, 0, rfl, Own.nil _ _ _ _ _ (Nat.le_refl _)⟩
theorem OI_new {w1 : World} {g : Nat} {s : List Int} {w : World} {n : Nat} (hs : s.length = n) (h : Own w1 g (g + 1) 3 1 (some ⟨g, 0, none⟩) n n (i64s s)) (hg : g = w.heap.size) (hz : w1.heap.size = g + 1) : OI w1 w.heap.size w1.heap.size (.slice (some ⟨g, 0, none⟩) n n) s := by
  subst hs; exact ⟨_, _, rfl, h.wide (by omega) (by omega) (Nat.le_refl _)⟩
theorem filli1 (a : Int) : Instr.fill (fun i => some (i * 1, 1)) ((Array.range (1 * 1)).map ((Value.int .i64 0).cells[· % (Value.int .i64 0).cells.size]!)) [(0, I a)] = some (i64s [a]).toArray := by kernel_rfl
section
variable {P : Program} {L : List Oper} {Q : Exit → Act → World → Prop} {n d : Nat} {l : Env} {w : World} {rest : List Oper} {ty : TypeId} {pos : String} {af : Array Edge} {v v2 : Value} {x y : Operand} {t : TypeId}
/-- Own bytes are appended to. -/
theorem TL_appendI {lo hi lo2 hi2 : Nat} {s s2 : List Int} (ht : Tryz.prog.underlying t = some (.slice 3)) (hx : ev l x = some v) (hy : ev l y = some v2) (ho : OI w lo hi v s) (hr : RI w lo2 hi2 v2 s2)
    (hlo : lo ≤ w.heap.size) (hm : s.length + s2.length ≤ 17592186044416) (hn : Nat.blt d n = true)
    (h : ∀ w' v', Ch (Iv lo hi) w w' → OI w' lo w'.heap.size v' (s ++ s2) → TL Tryz.prog L Q rest n ((d, v') :: l) w') :
    TL Tryz.prog L Q (⟨some d, .call { callee := .builtin .append, args := #[x, y], argTypes := #[t, t] }, ty, pos, af, none⟩ :: rest) n l w := by
  obtain ⟨A, c, rfl, ho⟩ := ho
  obtain ⟨A2, c2, rfl, _, hr⟩ := hr
  refine TL_append ht inf3 rfl rfl hx hy ho hr (i64s_oneI s2) hlo (by omega) (by omega) hn ?_
  intro w1 hi1 A1 c1 hch h1 h2 h3 hown
  have hz := hch.size
  have hh := ho.hi_le
  exact h w1 _ hch ⟨A1, c1, by rw [List.length_append], (hown.wide (Nat.le_refl _) (by omega) (Nat.le_refl _)).cast (by rw [List.length_append]) (by simp [i64s])⟩
end
end Go.Proofs.YtggaghghclomkaaGreat

/- Draws of names, numbers and cuts, weakly said. -/
namespace Go.Proofs.YtggaghghclomkaaGreat
open Go.RowKit
attribute [local irreducible] TL TC TN TX TR TQ TA Pu Ret
set_option maxRecDepth 100000 in
set_option maxHeartbeats 8000000 in
theorem l01Raw_c {w : World} {g : Nat} (hcur : Cur w g) :
    Ret Tryz.prog 162 #[pt g] w fun v w' => ∃ x : Int, v = I x ∧ (-9223372036854775808 ≤ x ∧ x ≤ 9223372036854775807) ∧ Ch (Iv g (g + 1)) w w' ∧ Cur w' g := by
  refine Ret_enter Tryz.func162 rfl rfl rfl ?_
  repeat' (first | apply Jbq | apply Jbr | apply Jbs | apply Jbt | (apply Jcg; (first | exact Jaa rfl | exact Jab rfl); exact rfl))
  refine TL_call rfl en115 (l01Below_c hcur (by omega)) rfl rfl ?_
  rintro _ w1 ⟨k, rfl, hk0, hk1, _, c1, hcur1⟩
  have hk1 := hk1 (by omega)
  repeat' (first | apply Jbq | apply Jbr | apply Jbs | apply Jbt | apply Jbz | (apply Jcg; (first | exact Jaa rfl | exact Jab rfl | exact Jad rfl rfl | exact Jak rfl rfl); exact rfl) | (refine Jcx rfl (fun hb => ?_) (fun hb => ?_) <;> (try (exfalso; omega))))
  all_goals
    refine TL_call rfl en115 (l01Below_c hcur1 (by omega)) rfl rfl ?_
    rintro _ w2 ⟨x, rfl, hx0, hx1, _, c2, hcur2⟩
    have hx1 := hx1 (by omega)
    have cc := c1.then c2
    repeat' (first | apply Jbq | apply Jbr | apply Jbu | apply Jbv | (apply Jcg; (first | exact Jaa rfl | exact Jab rfl | exact Jaf rfl rfl (by omega) | exact Jap rfl rfl (by omega)); exact rfl))
    first
    | exact TR_of (res1 rfl rfl) ⟨_, rfl, by omega, cc, hcur2⟩
    | skip
  all_goals first
    | (refine TL_call rfl en115 (l01Below_c hcur2 (by omega)) rfl rfl ?_
       rintro _ w3 ⟨y, rfl, hy0, hy1, _, c3, hcur3⟩
       have hy1 := hy1 (by omega)
       have hxy0 := Int.mul_nonneg hx0 hy0
       have hxy1 : x * y ≤ 65536 * 65536 := Int.mul_le_mul (by omega) (by omega) hy0 (by omega)
       have cc3 := cc.then c3
       repeat' (first | apply Jbq | apply Jbr | apply Jbu | apply Jbv | (apply Jcg; (first | exact Jab rfl | exact Jaf rfl rfl (by omega) | exact Jbk rfl rfl (by omega)); exact rfl))
       exact TR_of (res1 rfl rfl) ⟨_, rfl, by omega, cc3, hcur3⟩)
    | (refine TL_call rfl en181 (l01Pow_i _ (by omega)) rfl rfl ?_
       rintro _ w3 ⟨rfl, rfl⟩
       have hp : 1 ≤ (256 : Int) ^ (1 + x).toNat ∧ (256 : Int) ^ (1 + x).toNat ≤ 4294967296 := by
         have h4 : (1 + x).toNat = 1 ∨ (1 + x).toNat = 2 ∨ (1 + x).toNat = 3 ∨ (1 + x).toNat = 4 := by omega
         rcases h4 with h | h | h | h <;> rw [h] <;> decide
       obtain ⟨p, hpq⟩ : ∃ p, p = (256 : Int) ^ (1 + x).toNat := ⟨_, rfl⟩
       rw [← hpq] at hp ⊢
       repeat' ((apply Jcg; exact Jaa rfl; exact rfl))
       refine TL_call rfl en115 (l01Below_c hcur2 (by omega)) rfl rfl ?_
       rintro _ w4 ⟨y, rfl, hy0, hy1, _, c4, hcur4⟩
       have hy1 := hy1 (by omega)
       have cc4 := cc.then c4
       repeat' (first | apply Jbq | apply Jbr | apply Jbu | apply Jbv | (apply Jcg; (first | exact Jab rfl | exact Jap rfl rfl (by omega)); exact rfl))
       exact TR_of (res1 rfl rfl) ⟨_, rfl, by omega, cc4, hcur4⟩)
end Go.Proofs.YtggaghghclomkaaGreat

/- The marks of texts. No condition. -/
namespace Go.Proofs.YtggaghghclomkaaGreat
open Go.RowKit
attribute [local irreducible] TL TC TN TX TR TQ TA Pu Ret

/-- The marks of texts. -/
def mtD (k : Nat) (acc : List UInt8) : List UInt8 := if k = 0 then acc else mtD (k / 10) (pb (48 + (k : Int) % 10) :: acc)
termination_by k
def markT (k : Nat) : List UInt8 := 109 :: mtD k []
end Go.Proofs.YtggaghghclomkaaGreat

/- Contracts of the laws' own helpers on links, turns and nodes that a call owns: marks. -/
namespace Go.Proofs.YtggaghghclomkaaGreat
open Go.RowKit
attribute [local irreducible] TL TC TN TX TR TQ TA Pu Ret
theorem add_lit3 (g a b : Nat) : ((⟨g, 0, none⟩ : Addr).add a).add b = ⟨g, a + b, none⟩ := by rw [add_of_add, add0]
def mkK (k : Int) (n : Nat) : List LkD := (List.range n).map fun (i : Nat) => ⟨markT (k + 2 * (i : Int)).toNat, k + 2 * (i : Int) + 1⟩
@[simp] theorem mkK_length (k : Int) (n : Nat) : (mkK k n).length = n := by simp [mkK]
def mkTu (k : Int) (n : Nat) : List TnD := (List.range n).map fun (i : Nat) => ⟨k + 4 * (i : Int), markT (k + 4 * (i : Int) + 1).toNat, markT (k + 4 * (i : Int) + 2).toNat, k + 4 * (i : Int) + 3⟩
@[simp] theorem mkTu_length (k : Int) (n : Nat) : (mkTu k n).length = n := by simp [mkTu]
end Go.Proofs.YtggaghghclomkaaGreat

/- Nodes and disks that a call owns, block by block; their marks. -/
namespace Go.Proofs.YtggaghghclomkaaGreat
open Go.RowKit
def blk : Value → List Nat
  | .slice (some ad) _ _ => [ad.block]
  | _ => []
section
variable {w w' : World} {lo hi size n c : Nat} {e : TypeId} {A : Option Addr} {xs : List Value} {T : Nat → Prop}
theorem Own.bin (h : Own w lo hi e size A n c xs) : ∀ b ∈ blk (.slice A n c), lo ≤ b ∧ b < hi := by
  intro b hb
  rcases A with _ | ad
  · cases hb
  · rw [List.mem_singleton.1 hb]; exact ⟨h.ge _ rfl, h.lt _ rfl⟩
theorem Own.narrow (h : Own w lo hi e size A n c xs) : ∃ lo' hi', Own w lo' hi' e size A n c xs ∧ ∀ k, lo' ≤ k → k < hi' → k ∈ blk (.slice A n c) := by
  rcases h.row.2 with ⟨hv, h0⟩ | ⟨g, cap, cur, hv, h3, h4, h5⟩
  · have hA : A = none := by injection hv
    subst hA
    exact ⟨0, 0, ⟨Nat.zero_le _, ⟨h.len, .inl ⟨hv, h0⟩⟩, fun ad ha => by cases ha⟩, fun k _ hk => absurd hk (Nat.not_lt_zero _)⟩
  · have hA : A = some ⟨g, 0, none⟩ := by injection hv
    subst hA
    exact ⟨g, g + 1, ⟨(Array.getElem?_eq_some_iff.1 h4).1, ⟨h.len, .inr ⟨g, cap, cur, hv, Nat.le_refl _, h4, h5⟩⟩, fun ad ha => by injection ha with ha; subst ha; exact Nat.lt_succ_self _⟩, fun k h1 h2 => by
      obtain rfl : k = g := by omega
      exact List.mem_singleton.2 rfl⟩
/-- Owned: whatever does not touch its own block keeps it. -/
def OBx (w : World) (v : Value) (s : List UInt8) : Prop := ∃ lo hi, OB w lo hi v s ∧ ∀ k, lo ≤ k → k < hi → k ∈ blk v
theorem OB.x {v : Value} {s : List UInt8} (h : OB w lo hi v s) : OBx w v s := by
  obtain ⟨A, c, rfl, ho⟩ := h
  obtain ⟨lo', hi', h1, h2⟩ := ho.narrow
  exact ⟨lo', hi', ⟨A, c, rfl, h1⟩, h2⟩
theorem OB.bin {v : Value} {s : List UInt8} (h : OB w lo hi v s) : ∀ b ∈ blk v, lo ≤ b ∧ b < hi := by
  obtain ⟨A, c, rfl, ho⟩ := h
  exact ho.bin
theorem OB.wide {lo' hi' : Nat} {v : Value} {s : List UInt8} (h : OB w lo hi v s) (h1 : lo' ≤ lo) (h2 : hi ≤ hi') (h3 : hi' ≤ w.heap.size) : OB w lo' hi' v s := by
  obtain ⟨A, c, rfl, ho⟩ := h
  exact ⟨A, c, rfl, ho.wide h1 h2 h3⟩
theorem OBx.ch {v : Value} {s : List UInt8} (h : OBx w v s) (k : Ch T w w') (hd : ∀ b ∈ blk v, ¬ T b) : OBx w' v s := by
  obtain ⟨lo, hi, h1, h2⟩ := h
  exact ⟨lo, hi, h1.ch k (fun j a b => hd j (h2 j a b)), h2⟩
theorem OBx.ext {v : Value} {s : List UInt8} (h : OBx w v s) (k : Ext w w') : OBx w' v s := h.ch k (fun _ _ t => t)
/-- A region that holds the value's block bears its reading. -/
theorem OBx.at_ {v : Value} {s : List UInt8} (h : OBx w v s) (hb : ∀ b ∈ blk v, lo ≤ b ∧ b < hi) (hs : hi ≤ w.heap.size) : OB w lo hi v s := by
  obtain ⟨l1, h1, ⟨A, c, rfl, ho⟩, hin⟩ := h
  refine ⟨A, c, rfl, ⟨hs, ⟨ho.len, ?_⟩, fun ad ha => by subst ha; exact (hb _ (List.mem_singleton.2 rfl)).2⟩⟩
  rcases ho.row.2 with ⟨hv, h0⟩ | ⟨g, cap, cur, hv, h3, h4, h5⟩
  · exact .inl ⟨hv, h0⟩
  · have hA : A = some ⟨g, 0, none⟩ := by injection hv
    subst hA
    exact .inr ⟨g, cap, cur, hv, (hb _ (List.mem_singleton.2 rfl)).1, h4, h5⟩
end
section
variable {α : Type} {f : α → List Value} {e : TypeId} {s : Nat} {w w' : World} {lo hi : Nat} {v : Value} {l : List α} {T : Nat → Prop}
def RowOx (f : α → List Value) (e : TypeId) (s : Nat) (w : World) (v : Value) (l : List α) : Prop := ∃ lo hi, RowO f e s w lo hi v l ∧ ∀ k, lo ≤ k → k < hi → k ∈ blk v
theorem RowO.x (h : RowO f e s w lo hi v l) : RowOx f e s w v l := by
  obtain ⟨A, c, rfl, ho⟩ := h
  obtain ⟨lo', hi', h1, h2⟩ := ho.narrow
  exact ⟨lo', hi', ⟨A, c, rfl, h1⟩, h2⟩
theorem RowO.bin (h : RowO f e s w lo hi v l) : ∀ b ∈ blk v, lo ≤ b ∧ b < hi := by
  obtain ⟨A, c, rfl, ho⟩ := h
  exact ho.bin
theorem RowOx.ch (h : RowOx f e s w v l) (k : Ch T w w') (hd : ∀ b ∈ blk v, ¬ T b) : RowOx f e s w' v l := by
  obtain ⟨lo, hi, h1, h2⟩ := h
  exact ⟨lo, hi, h1.ch k (fun j a b => hd j (h2 j a b)), h2⟩
theorem RowOx.ext (h : RowOx f e s w v l) (k : Ext w w') : RowOx f e s w' v l := h.ch k (fun _ _ t => t)
theorem RowOx.at_ (h : RowOx f e s w v l) (hb : ∀ b ∈ blk v, lo ≤ b ∧ b < hi) (hs : hi ≤ w.heap.size) : RowO f e s w lo hi v l := by
  obtain ⟨l1, h1, ⟨A, c, rfl, ho⟩, hin⟩ := h
  refine ⟨A, c, rfl, ⟨hs, ⟨ho.len, ?_⟩, fun ad ha => by subst ha; exact (hb _ (List.mem_singleton.2 rfl)).2⟩⟩
  rcases ho.row.2 with ⟨hv, h0⟩ | ⟨g, cap, cur, hv, h3, h4, h5⟩
  · exact .inl ⟨hv, h0⟩
  · have hA : A = some ⟨g, 0, none⟩ := by injection hv
    subst hA
    exact .inr ⟨g, cap, cur, hv, (hb _ (List.mem_singleton.2 rfl)).1, h4, h5⟩
theorem RowOx.one (h : RowOx f e s w v l) : v.oneCell' = true := by obtain ⟨_, _, ⟨_, _, rfl, _⟩, _⟩ := h; rfl
end
def bkd (d : Nd) : List Nat := blk d.vb ++ blk d.vs
def bksN (v : Value) (ds : List Nd) : List Nat := blk v ++ ds.flatMap bkd
structure ONx (w : World) (v : Value) (ds : List Nd) : Prop where
  row : RowOx NdC 98 3 w v ds
  ok : ∀ d ∈ ds, OBx w d.vb d.body ∧ OBx w d.vs d.safe
  nd : (bksN v ds).Nodup
theorem ONx.ch {w w' : World} {v : Value} {ds : List Nd} {T : Nat → Prop} (h : ONx w v ds) (k : Ch T w w') (hd : ∀ b ∈ bksN v ds, ¬ T b) : ONx w' v ds :=
  ⟨h.row.ch k (fun b hb => hd b (List.mem_append.2 (.inl hb))), fun d hm => ⟨(h.ok d hm).1.ch k (fun b hb => hd b (List.mem_append.2 (.inr (List.mem_flatMap.2 ⟨d, hm, List.mem_append.2 (.inl hb)⟩)))), (h.ok d hm).2.ch k (fun b hb => hd b (List.mem_append.2 (.inr (List.mem_flatMap.2 ⟨d, hm, List.mem_append.2 (.inr hb)⟩))))⟩, h.nd⟩
theorem ONx.ext {w w' : World} {v : Value} {ds : List Nd} (h : ONx w v ds) (k : Ext w w') : ONx w' v ds := h.ch k (fun _ _ t => t)
/-! ### marks of nodes -/
theorem cells_mid (M D : List Nd) (x : Nd) : cellsL NdC (M ++ x :: D) = cellsL NdC M ++ (I x.id :: x.vb :: x.vs :: cellsL NdC D) := by
  rw [cellsL_append]; simp [cellsL, NdC]
theorem app3 {a b c : List Nat} (h : (a ++ (b ++ c)).Nodup) : (∀ x ∈ a, x ∉ b ∧ x ∉ c) ∧ ∀ x ∈ b, x ∉ c := by
  rw [List.nodup_append, List.nodup_append] at h
  obtain ⟨_, ⟨_, _, h2⟩, h1⟩ := h
  exact ⟨fun x hx => ⟨fun hb => h1 x hx x (List.mem_append.2 (.inl hb)) rfl, fun hc => h1 x hx x (List.mem_append.2 (.inr hc)) rfl⟩, fun x hx hc => h2 x hx x hc rfl⟩
attribute [local irreducible] TL TC TN TX TR TQ TA Pu Ret
end Go.Proofs.YtggaghghclomkaaGreat

/- Marks of nodes that are held; disks that a call owns, their marks. -/
namespace Go.Proofs.YtggaghghclomkaaGreat
open Go.RowKit
/-- A disk that a call owns, between lo and hi. -/
def ODk (w : World) (lo hi : Nat) (d : DiskP) (sn sk st : Value) : Prop :=
  hi ≤ w.heap.size ∧ ∃ ds : List Nd, ds.map NdP = d.nodes ∧ ONx w sn ds ∧ RowOx LkC 162 2 w sk d.kept ∧ RowOx TnC 121 4 w st d.turns ∧ (bksN sn ds ++ (blk sk ++ blk st)).Nodup ∧ ∀ b ∈ bksN sn ds ++ (blk sk ++ blk st), lo ≤ b ∧ b < hi
theorem RowOx.rr {α : Type} {f : α → List Value} {e : TypeId} {s : Nat} {w : World} {lo hi : Nat} {v : Value} {l : List α} (h : RowOx f e s w v l) (hb : ∀ b ∈ blk v, lo ≤ b ∧ b < hi) (hs : hi ≤ w.heap.size) : RowR f s w lo hi v l := (h.at_ hb hs).rd
theorem ONx.rn {w : World} {lo hi : Nat} {v : Value} {ds : List Nd} (h : ONx w v ds) (hb : ∀ b ∈ bksN v ds, lo ≤ b ∧ b < hi) (hs : hi ≤ w.heap.size) : RN w lo hi v (ds.map NdP) := by
  obtain ⟨A, c, h1, h2, h3⟩ := h.row.rr (fun b hb' => hb b (List.mem_append.2 (.inl hb'))) hs
  refine ⟨ds, A, c, rfl, h1, h2, h3, fun d hd => ?_⟩
  obtain ⟨h4, h5⟩ := h.ok d hd
  exact ⟨(h4.at_ (fun b hb' => hb b (List.mem_append.2 (.inr (List.mem_flatMap.2 ⟨d, hd, List.mem_append.2 (.inl hb')⟩)))) hs).rd, (h5.at_ (fun b hb' => hb b (List.mem_append.2 (.inr (List.mem_flatMap.2 ⟨d, hd, List.mem_append.2 (.inr hb')⟩)))) hs).rd⟩
theorem ODk.rd {w : World} {lo hi : Nat} {d : DiskP} {sn sk st : Value} (h : ODk w lo hi d sn sk st) : RDk w lo hi d sn sk st := by
  obtain ⟨hs, ds, h1, h2, h3, h4, h5, h6⟩ := h
  refine ⟨?_, ?_, ?_⟩
  · rw [← h1]; exact h2.rn (fun b hb => h6 b (List.mem_append.2 (.inl hb))) hs
  · exact (h3.rr (fun b hb => h6 b (List.mem_append.2 (.inr (List.mem_append.2 (.inl hb))))) hs).rk
  · exact (h4.rr (fun b hb => h6 b (List.mem_append.2 (.inr (List.mem_append.2 (.inr hb))))) hs).rt
theorem ODk.ch {w w' : World} {lo hi : Nat} {d : DiskP} {sn sk st : Value} {T : Nat → Prop} (h : ODk w lo hi d sn sk st) (c : Ch T w w') (hd : ∀ k, lo ≤ k → k < hi → ¬ T k) : ODk w' lo hi d sn sk st := by
  obtain ⟨hs, ds, h1, h2, h3, h4, h5, h6⟩ := h
  have hn : ∀ b ∈ bksN sn ds ++ (blk sk ++ blk st), ¬ T b := fun b hb => hd b (h6 b hb).1 (h6 b hb).2
  exact ⟨Nat.le_trans hs c.size, ds, h1, h2.ch c (fun b hb => hn b (List.mem_append.2 (.inl hb))), h3.ch c (fun b hb => hn b (List.mem_append.2 (.inr (List.mem_append.2 (.inl hb))))), h4.ch c (fun b hb => hn b (List.mem_append.2 (.inr (List.mem_append.2 (.inr hb))))), h5, h6⟩
theorem ODk.ext {w w' : World} {lo hi : Nat} {d : DiskP} {sn sk st : Value} (h : ODk w lo hi d sn sk st) (c : Ext w w') : ODk w' lo hi d sn sk st := h.ch c (fun _ _ _ t => t)
theorem ODk.one {w : World} {lo hi : Nat} {d : DiskP} {sn sk st : Value} (h : ODk w lo hi d sn sk st) : (dskC d sn sk st).all (·.oneCell') = true := h.rd.one
theorem ODk.wide {w : World} {lo hi lo' hi' : Nat} {d : DiskP} {sn sk st : Value} (h : ODk w lo hi d sn sk st) (h1 : lo' ≤ lo) (h2 : hi ≤ hi') (h3 : hi' ≤ w.heap.size) : ODk w lo' hi' d sn sk st := by
  obtain ⟨hs, ds, g1, g2, g3, g4, g5, g6⟩ := h
  exact ⟨h3, ds, g1, g2, g3, g4, g5, fun b hb => by have := g6 b hb; omega⟩
attribute [local irreducible] TL TC TN TX TR TQ TA Pu Ret
end Go.Proofs.YtggaghghclomkaaGreat

/- Nodes, links, turns and disks are copied by the laws into memory that the call owns; their marks. -/
namespace Go.Proofs.YtggaghghclomkaaGreat
open Go.RowKit
theorem blk_nodup (v : Value) : (blk v).Nodup := by
  unfold blk
  split <;> simp
theorem bk2 {a c : Value} {lo m : Nat} (h1 : ∀ b ∈ blk a, lo ≤ b ∧ b < m) (h2 : ∀ b ∈ blk c, m ≤ b) : (blk a ++ blk c).Nodup := by
  rw [List.nodup_append]
  exact ⟨blk_nodup a, blk_nodup c, fun x hx y hy => by have := h1 x hx; have := h2 y hy; omega⟩
def NdOwn (w : World) (lo hi : Nat) (d : Nd) : Prop := OB w lo hi d.vb d.body ∧ OB w lo hi d.vs d.safe ∧ (bkd d).Nodup
theorem NdOwn.ch {w w' : World} {lo hi : Nat} {d : Nd} {T : Nat → Prop} (h : NdOwn w lo hi d) (c : Ch T w w') (hd : ∀ k, lo ≤ k → k < hi → ¬ T k) : NdOwn w' lo hi d := ⟨h.1.ch c hd, h.2.1.ch c hd, h.2.2⟩
theorem NdOwn.wide {w : World} {lo hi lo' hi' : Nat} {d : Nd} (h : NdOwn w lo hi d) (h1 : lo' ≤ lo) (h2 : hi ≤ hi') (h3 : hi' ≤ w.heap.size) : NdOwn w lo' hi' d := ⟨h.1.wide h1 h2 h3, h.2.1.wide h1 h2 h3, h.2.2⟩
theorem NdOwn.bin {w : World} {lo hi : Nat} {d : Nd} (h : NdOwn w lo hi d) : ∀ b ∈ bkd d, lo ≤ b ∧ b < hi := fun b hb => by
  rcases List.mem_append.1 hb with hb | hb
  · exact h.1.bin b hb
  · exact h.2.1.bin b hb
theorem NdOwn.ok {w : World} {lo hi : Nat} {d : Nd} (h : NdOwn w lo hi d) : NdOk w lo hi d := ⟨h.1.rd, h.2.1.rd⟩
theorem NdOwn.one {w : World} {lo hi : Nat} {d : Nd} (h : NdOwn w lo hi d) : (NdC d).all (·.oneCell') = true := h.ok.one
/-- Nodes that a call owns between lo and hi. -/
def ONr (w : World) (lo hi : Nat) (v : Value) (l : List NodeP) : Prop := ∃ ds : List Nd, ds.map NdP = l ∧ ONx w v ds ∧ ∀ b ∈ bksN v ds, lo ≤ b ∧ b < hi
theorem ONr.ch {w w' : World} {lo hi : Nat} {v : Value} {l : List NodeP} {T : Nat → Prop} (h : ONr w lo hi v l) (c : Ch T w w') (hd : ∀ k, lo ≤ k → k < hi → ¬ T k) : ONr w' lo hi v l := by
  obtain ⟨ds, h1, h2, h3⟩ := h
  exact ⟨ds, h1, h2.ch c (fun b hb => hd b (h3 b hb).1 (h3 b hb).2), h3⟩
theorem ONr.ext {w w' : World} {lo hi : Nat} {v : Value} {l : List NodeP} (h : ONr w lo hi v l) (c : Ext w w') : ONr w' lo hi v l := h.ch c (fun _ _ _ t => t)
theorem ONr.one {w : World} {lo hi : Nat} {v : Value} {l : List NodeP} (h : ONr w lo hi v l) : v.oneCell' = true := by obtain ⟨ds, _, h2, _⟩ := h; exact h2.row.one
theorem RowO.one {α : Type} {f : α → List Value} {e : TypeId} {s : Nat} {w : World} {lo hi : Nat} {v : Value} {l : List α} (h : RowO f e s w lo hi v l) : v.oneCell' = true := h.rd.one
/-- Parts that lie one behind the other make a disk. -/
theorem ODk.of {w : World} {lo m1 m1' m2 m2' hi : Nat} {d : DiskP} {sn sk st : Value} (h1 : ONr w lo m1 sn d.nodes) (h2 : RowO LkC 162 2 w m1' m2 sk d.kept) (h3 : RowO TnC 121 4 w m2' hi st d.turns) (a : m1 ≤ m1') (b : m2 ≤ m2') (c : hi ≤ w.heap.size) (e : m1' ≤ m2) (f : m2' ≤ hi) (g : lo ≤ m1) : ODk w lo hi d sn sk st := by
  obtain ⟨ds, g1, g2, g3⟩ := h1
  refine ⟨c, ds, g1, g2, h2.x, h3.x, ?_, fun x hx => ?_⟩
  · rw [List.nodup_append]
    refine ⟨g2.nd, bk2 h2.bin (fun x hx => Nat.le_trans b (h3.bin x hx).1), fun x hx y hy => ?_⟩
    have := g3 x hx
    rcases List.mem_append.1 hy with hy | hy
    · have := h2.bin y hy; omega
    · have := h3.bin y hy; omega
  · rcases List.mem_append.1 hx with hx | hx
    · have := g3 x hx; omega
    · rcases List.mem_append.1 hx with hx | hx
      · have := h2.bin x hx; omega
      · have := h3.bin x hx; omega
attribute [local irreducible] TL TC TN TX TR TQ TA Pu Ret
end Go.Proofs.YtggaghghclomkaaGreat

/- Rules for regions whose order is open and that write what one of their operations reads: a barrier. No condition. -/
namespace Go.Proofs.YtggaghghclomkaaGreat
open Go.RowKit
section
variable {P : Program} {ops : Array Oper} {Q : Exit → Act → World → Prop} {md : Region.Mode} {A B : World → Prop} {m : Nat}
/-- A holds throughout; B holds until operation m has come up. -/
def SB (A B : World → Prop) (m : Nat) (listed : Array Bool) (w : World) : Prop := A w ∧ (listed.getD m true = false → B w)
theorem SB_set {i : Nat} {listed : Array Bool} {w : World} (h : i ≠ m) : SB A B m (listed.setIfInBounds i true) w ↔ SB A B m listed w := by
  unfold SB
  rw [getD_set_ne true h]
def wpAnyL (P : Program) (md : Region.Mode) (ops : Array Oper) (Q : Exit → Act → World → Prop) (S : Array Bool → World → Prop) : Nat → Array Bool → Act → World → Prop
  | 0, listed, a, w => Region.ready md ops listed = [] ∧ Q .normal a w
  | fuel + 1, listed, a, w =>
    (Region.ready md ops listed = [] → Q .normal a w) ∧
    ∀ i ∈ Region.ready md ops listed, wpOp P ops Q i (fun a' w' => S (listed.setIfInBounds i true) w' ∧ wpAnyL P md ops Q S fuel (listed.setIfInBounds i true) a' w') a w
theorem wpAny_of_L {S : Array Bool → World → Prop} : ∀ (fuel : Nat) (listed : Array Bool) (a : Act) (w : World), wpAnyL P md ops Q S fuel listed a w → wpAny P md ops Q fuel listed a w
  | 0, _, _, _, h => h
  | fuel + 1, _, _, _, h => ⟨h.1, fun i hi => wpOp_mono (fun a' w' h' => wpAny_of_L fuel _ a' w' h'.2) (h.2 i hi)⟩
theorem wpAnyL_first {i : Nat} {oi om : Oper} {v : Value} {bar : Bool} (hi : ops[i]? = some oi) (him : i ≠ m) (hom : ops[m]? = some om) (hw : bar = true → ∃ e ∈ om.after, Region.binds md e = true ∧ e.on = i)
    (hsel : ∀ (j : Nat) (o : Oper) cs b, ops[j]? = some o → o.op ≠ .select cs b) (hQ : ∀ c a w, Q (.panic c) (a.put oi.dst v) w → Q (.panic c) a w) :
    ∀ (fuel : Nat) (listed : Array Bool) (a : Act) (w : World),
      (∀ j oj, ops[j]? = some oj → j ≠ i → listed.getD j true = false → (∀ e ∈ oj.after, Region.binds md e = true → e.on ≠ i) → oi.apart ops oj = true) →
      i ∈ Region.ready md ops listed → YieldsIf P ops (fun w => A w ∧ (bar = true → B w)) oi v a → SB A B m listed w → (bar = true → listed.getD m true = false) →
      wpAnyL P md ops Q (SB A B m) fuel (listed.setIfInBounds i true) (a.put oi.dst v) w → wpAnyL P md ops Q (SB A B m) (fuel + 1) listed a w := by
  intro fuel
  induction fuel with
  | zero =>
    intro listed a w _ hr hy hS hm H
    refine ⟨fun h => (by rw [h] at hr; cases hr), fun j hj => ?_⟩
    by_cases hji : j = i
    · subst hji; exact hy.wpOp hi ⟨hS.1, fun hb => hS.2 (hm hb)⟩ ⟨(SB_set him).2 hS, H⟩
    · have := ready_mono hj hji
      rw [H.1] at this
      cases this
  | succ fuel ih =>
    intro listed a w hfree hr hy hS hm H
    refine ⟨fun h => (by rw [h] at hr; cases hr), fun j hj => ?_⟩
    by_cases hji : j = i
    · subst hji; exact hy.wpOp hi ⟨hS.1, fun hb => hS.2 (hm hb)⟩ ⟨(SB_set him).2 hS, H⟩
    · have h1 := H.2 j (ready_mono hj hji)
      obtain ⟨hjun, oj, hoj, hall⟩ := mem_ready.1 hj
      have hnot : ∀ e ∈ oj.after, Region.binds md e = true → e.on ≠ i := fun e he hb heq => by
        have h1 := hall e he hb
        have h0 := (mem_ready.1 hr).1
        rw [heq] at h1
        rcases Nat.lt_or_ge i listed.size with h' | h'
        · simp [h'] at h0 h1; rw [h0] at h1; cases h1
        · simp [Array.getElem?_eq_none h'] at h1
      have hjm : bar = true → j ≠ m := fun hb e => by
        subst e
        obtain ⟨ed, he, hbi, hon⟩ := hw hb
        rw [hoj] at hom
        injection hom with hom
        subst hom
        exact hnot ed he hbi hon
      have h2 := wpOp_putIf hoj (hfree j oj hoj hji hjun hnot) (fun cs b => hsel i oi cs b hi) (fun cs b => hsel j oj cs b hoj) hQ hy h1
      have hfree' : ∀ k ok, ops[k]? = some ok → k ≠ i → (listed.setIfInBounds j true).getD k true = false →
          (∀ e ∈ ok.after, Region.binds md e = true → e.on ≠ i) → oi.apart ops ok = true := fun k ok hk hki hun hno => by
        refine hfree k ok hk hki ?_ hno
        by_cases hjk : j = k
        · subst hjk; exact hjun
        · rw [getD_set_ne true hjk] at hun; exact hun
      refine wpOp_mono (fun a' w' h3 => ?_) h2
      have hcomm : (listed.setIfInBounds i true).setIfInBounds j true = (listed.setIfInBounds j true).setIfInBounds i true := Array.setIfInBounds_comm _ _ (Ne.symm hji)
      have hS' : SB A B m (listed.setIfInBounds j true) w' := by
        have := h3.2.1
        rw [hcomm] at this
        exact (SB_set him).1 this
      refine ⟨hS', ih (listed.setIfInBounds j true) a' w' hfree' (ready_mono hr (Ne.symm hji)) h3.1 hS' (fun hb => ?_) ?_⟩
      · rw [getD_set_ne true (hjm hb)]; exact hm hb
      · rw [← hcomm]
        exact h3.2.2
end
/-- What is listed has come up. -/
def TB (P : Program) (L : List Oper) (A B : World → Prop) (m : Nat) (Q : Exit → Act → World → Prop) (f : Nat) (listed : Array Bool) (n : Nat) (l : Env) (w : World) : Prop :=
  ∀ a, Holds n l a → wpAnyL P .any L.toArray Q (SB A B m) f listed a w
section
variable {P : Program} {L : List Oper} {A B : World → Prop} {m : Nat} {w : World} {Q : Exit → Act → World → Prop} {f n : Nat} {listed : Array Bool} {l : Env} {v : Value}
theorem TC_anyB {id : Nat} (A B : World → Prop) (m : Nat) (hm : P.follows .mixedOrders = true) (hf : L.length = f) (hA : A { w with drawn := w.drawn + 1 }) (hB : B { w with drawn := w.drawn + 1 })
    (h : ∀ w', Ext w w' → w'.heap.size = w.heap.size → A w' → B w' → TB P L A B m Q f (Array.replicate f false) n l w') : TC P Q (.region id L.toArray true) n l w := fun a ha => by
  have := h { w with drawn := w.drawn + 1 } ((Ch.refl _ _).drew) rfl hA hB a ha
  refine wp_region_any hm (wpAny_of_L (S := SB A B m) _ _ _ _ ?_)
  rw [show L.toArray.size = f from by simpa using hf]
  exact this
theorem TB_done (hr : Region.ready .any L.toArray listed = []) (h : TN Q n l w) : TB P L A B m Q f listed n l w := fun a ha => by
  cases f with
  | zero => exact ⟨hr, h a ha⟩
  | succ f => exact ⟨fun _ => h a ha, by rw [hr]; simp⟩
/-- An operation whose value nothing in the region changes. -/
theorem TB_take (i : Nat) {om : Oper} {dd : Nat} {op : Op} {ty : TypeId} {pos : String} {af : Array Edge} (hi : L[i]? = some ⟨some dd, op, ty, pos, af, none⟩) (him : Nat.beq i m = false) (hom : L[m]? = some om) (hs : Region.noSelect L.toArray = true) (hf : Region.free .any L.toArray listed i = true)
    (hr : (Region.ready .any L.toArray listed).contains i = true) (hQ : ∀ c a w, Q (.panic c) (a.put (some dd) v) w → Q (.panic c) a w) (hE : SB A B m listed w)
    (hp : Pu P A n l ⟨some dd, op, ty, pos, af, none⟩ v) (hn : Nat.blt dd n = true) (h : TB P L A B m Q f (listed.setIfInBounds i true) n ((dd, v) :: l) w) : TB P L A B m Q (f + 1) listed n l w := fun a ha =>
  wpAnyL_first (oi := ⟨some dd, op, ty, pos, af, none⟩) (v := v) (bar := false) (by simpa using hi) (by intro e; rw [e, Nat.beq_refl] at him; cases him) (by simpa using hom) (by simp) (Region.noSelect_spec hs) hQ f listed a w (Region.free_spec (by simpa using hi) hf) (by simpa using hr)
    (.inl ⟨by simp [Region.wanted], fun w hw => hp a ha w hw.1⟩) hE (by simp) (h _ (ha.put hn v))
/-- An operation for which the barrier waits. -/
theorem TB_takeB (i : Nat) {om : Oper} {dd : Nat} {op : Op} {ty : TypeId} {pos : String} {af : Array Edge} (hi : L[i]? = some ⟨some dd, op, ty, pos, af, none⟩) (him : Nat.beq i m = false) (hom : L[m]? = some om) (hw : om.after.any (fun e => Region.binds .any e && Nat.beq e.on i) = true) (hlm : listed.getD m true = false)
    (hs : Region.noSelect L.toArray = true) (hf : Region.free .any L.toArray listed i = true)
    (hr : (Region.ready .any L.toArray listed).contains i = true) (hQ : ∀ c a w, Q (.panic c) (a.put (some dd) v) w → Q (.panic c) a w) (hE : SB A B m listed w)
    (hp : Pu P (fun w => A w ∧ B w) n l ⟨some dd, op, ty, pos, af, none⟩ v) (hn : Nat.blt dd n = true) (h : TB P L A B m Q f (listed.setIfInBounds i true) n ((dd, v) :: l) w) : TB P L A B m Q (f + 1) listed n l w := fun a ha => by
  refine wpAnyL_first (oi := ⟨some dd, op, ty, pos, af, none⟩) (v := v) (bar := true) (by simpa using hi) (by intro e; rw [e, Nat.beq_refl] at him; cases him) (by simpa using hom) (fun _ => ?_) (Region.noSelect_spec hs) hQ f listed a w (Region.free_spec (by simpa using hi) hf) (by simpa using hr)
    (.inl ⟨by simp [Region.wanted], fun w hw => hp a ha w ⟨hw.1, hw.2 rfl⟩⟩) hE (fun _ => hlm) (h _ (ha.put hn v))
  rw [Array.any_eq_true] at hw
  obtain ⟨k, hk, he⟩ := hw
  rw [Bool.and_eq_true] at he
  exact ⟨om.after[k], Array.getElem_mem hk, he.1, Nat.eq_of_beq_eq_true he.2⟩
/-- What follows an operation that is carried out inside. -/
def AB (P : Program) (L : List Oper) (A B : World → Prop) (m : Nat) (Q : Exit → Act → World → Prop) (f : Nat) (listed : Array Bool) : Act → World → Prop := fun a' w' => SB A B m listed w' ∧ wpAnyL P .any L.toArray Q (SB A B m) f listed a' w'
theorem TN_anyB (e : SB A B m listed w) (h : TB P L A B m Q f listed n l w) : TN (Exit.then (AB P L A B m Q f listed) Q) n l w := fun a ha => ⟨e, h a ha⟩
theorem TB_key {i : Nat} {o : Oper} {a : Act} (hi : L[i]? = some o) (ha : Holds n l a) (h : TL P L (Exit.then (AB P L A B m Q f (listed.setIfInBounds i true)) Q) [o] n l w) : wpOp P L.toArray Q i (AB P L A B m Q f (listed.setIfInBounds i true)) a w := by
  have h1 := h a ha
  unfold wpOp
  rw [show L.toArray[i]? = some o from by simpa using hi]
  unfold wpList at h1
  simp only at h1 ⊢
  split
  · rename_i hw
    rw [if_pos hw] at h1
    rcases h1 with h1 | ⟨h1, h2⟩
    · refine .inl (Oper.wp_then (K' := AB P L A B m Q f (listed.setIfInBounds i true)) ?_)
      exact h1
    · exact .inr ⟨h1, h2⟩
  · rename_i hw
    rw [if_neg hw] at h1
    exact h1
/-- The one operation that may come up now is carried out. -/
theorem TB_one (i : Nat) {o : Oper} (hr : Region.ready .any L.toArray listed = [i]) (hi : L[i]? = some o)
    (h : TL P L (Exit.then (AB P L A B m Q f (listed.setIfInBounds i true)) Q) [o] n l w) : TB P L A B m Q (f + 1) listed n l w := fun a ha =>
  ⟨fun h0 => (by rw [hr] at h0; cases h0), fun j hj => by
    rw [hr] at hj
    obtain rfl : j = i := by simpa using hj
    exact TB_key hi ha h⟩
/-- One of two operations is carried out. -/
theorem TB_two (i j : Nat) {o o' : Oper} (hr : Region.ready .any L.toArray listed = [i, j]) (hi : L[i]? = some o) (hj : L[j]? = some o')
    (h : TL P L (Exit.then (AB P L A B m Q f (listed.setIfInBounds i true)) Q) [o] n l w) (h' : TL P L (Exit.then (AB P L A B m Q f (listed.setIfInBounds j true)) Q) [o'] n l w) : TB P L A B m Q (f + 1) listed n l w := fun a ha =>
  ⟨fun h0 => (by rw [hr] at h0; cases h0), fun k hk => by
    rw [hr] at hk
    simp only [List.mem_cons, List.not_mem_nil, or_false] at hk
    rcases hk with rfl | rfl
    · exact TB_key hi ha h
    · exact TB_key hj ha h'⟩
end
end Go.Proofs.YtggaghghclomkaaGreat
