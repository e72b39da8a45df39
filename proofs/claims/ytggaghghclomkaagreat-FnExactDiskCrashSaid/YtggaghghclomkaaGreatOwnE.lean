/- Marks of nodes that are held; disks that a call owns, their marks. -/
import Derived.Test.YtggaghghclomkaaGreatOwnD
namespace Go.Proofs.YtggaghghclomkaaGreat
open Go.RowKit
theorem markNd_get (k : Int) : ∀ (l : List Nd) (i : Nat) (h : i < l.length) (h2 : i < (markNd k l).length), (markNd k l)[i] = mk1 (k + cntNd (l.take i)) l[i]
  | d :: r, 0, _, _ => by simp [markNd, cntNd]
  | d :: r, i + 1, h, h2 => by
    simp only [markNd, List.getElem_cons_succ, List.take_succ_cons, cntNd]
    rw [markNd_get (k + cnt1 d) r i (by simpa using h)]
    rw [Int.add_assoc]
/-- A disk that a call owns, between lo and hi. -/
def ODk (w : World) (lo hi : Nat) (d : DiskP) (sn sk st : Value) : Prop :=
  hi ≤ w.heap.size ∧ ∃ ds : List Nd, ds.map NdP = d.nodes ∧ ONx w sn ds ∧ RowOx LkC 162 2 w sk d.kept ∧ RowOx TnC 121 4 w st d.turns ∧ (bksN sn ds ++ (blk sk ++ blk st)).Nodup ∧ ∀ b ∈ bksN sn ds ++ (blk sk ++ blk st), lo ≤ b ∧ b < hi
theorem RowOx.rr {α : Type} {f : α → List Value} {e : TypeId} {s : Nat} {w : World} {lo hi : Nat} {v : Value} {l : List α} (h : RowOx f e s w v l) (hb : ∀ b ∈ blk v, lo ≤ b ∧ b < hi) (hs : hi ≤ w.heap.size) : RowR f s w lo hi v l := (h.at_ hb hs).rd
theorem ONx.rn {w : World} {lo hi : Nat} {v : Value} {ds : List Nd} (h : ONx w v ds) (hb : ∀ b ∈ bksN v ds, lo ≤ b ∧ b < hi) (hs : hi ≤ w.heap.size) : RN w lo hi v (ds.map NdP) := by
  obtain ⟨A, c, h1, h2, h3⟩ := h.row.rr (fun b hb' => hb b (List.mem_append.2 (.inl hb'))) hs
  refine ⟨ds, A, c, rfl, h1, h2, h3, fun d hd => ?_⟩
  obtain ⟨h4, h5⟩ := h.ok d hd
  exact ⟨(h4.at_ (fun b hb' => hb b (List.mem_append.2 (.inr (List.mem_flatMap.2 ⟨d, hd, List.mem_append.2 (.inl hb')⟩)))) hs).rd, (h5.at_ (fun b hb' => hb b (List.mem_append.2 (.inr (List.mem_flatMap.2 ⟨d, hd, List.mem_append.2 (.inr hb')⟩)))) hs).rd⟩
theorem ODk.rd {w : World} {lo hi : Nat} {d : DiskP} {sn sk st : Value} (h : ODk w lo hi d sn sk st) : RDk w lo hi d sn sk st := by
  obtain ⟨hs, ds, h1, h2, h3, h4, h5, h6⟩ := h
  refine ⟨?_, ?_, ?_⟩
  · rw [← h1]; exact h2.rn (fun b hb => h6 b (List.mem_append.2 (.inl hb))) hs
  · exact (h3.rr (fun b hb => h6 b (List.mem_append.2 (.inr (List.mem_append.2 (.inl hb))))) hs).rk
  · exact (h4.rr (fun b hb => h6 b (List.mem_append.2 (.inr (List.mem_append.2 (.inr hb))))) hs).rt
theorem ODk.ch {w w' : World} {lo hi : Nat} {d : DiskP} {sn sk st : Value} {T : Nat → Prop} (h : ODk w lo hi d sn sk st) (c : Ch T w w') (hd : ∀ k, lo ≤ k → k < hi → ¬ T k) : ODk w' lo hi d sn sk st := by
  obtain ⟨hs, ds, h1, h2, h3, h4, h5, h6⟩ := h
  have hn : ∀ b ∈ bksN sn ds ++ (blk sk ++ blk st), ¬ T b := fun b hb => hd b (h6 b hb).1 (h6 b hb).2
  exact ⟨Nat.le_trans hs c.size, ds, h1, h2.ch c (fun b hb => hn b (List.mem_append.2 (.inl hb))), h3.ch c (fun b hb => hn b (List.mem_append.2 (.inr (List.mem_append.2 (.inl hb))))), h4.ch c (fun b hb => hn b (List.mem_append.2 (.inr (List.mem_append.2 (.inr hb))))), h5, h6⟩
theorem ODk.ext {w w' : World} {lo hi : Nat} {d : DiskP} {sn sk st : Value} (h : ODk w lo hi d sn sk st) (c : Ext w w') : ODk w' lo hi d sn sk st := h.ch c (fun _ _ _ t => t)
theorem ODk.one {w : World} {lo hi : Nat} {d : DiskP} {sn sk st : Value} (h : ODk w lo hi d sn sk st) : (dskC d sn sk st).all (·.oneCell') = true := h.rd.one
theorem ODk.wide {w : World} {lo hi lo' hi' : Nat} {d : DiskP} {sn sk st : Value} (h : ODk w lo hi d sn sk st) (h1 : lo' ≤ lo) (h2 : hi ≤ hi') (h3 : hi' ≤ w.heap.size) : ODk w lo' hi' d sn sk st := by
  obtain ⟨hs, ds, g1, g2, g3, g4, g5, g6⟩ := h
  exact ⟨h3, ds, g1, g2, g3, g4, g5, fun b hb => by have := g6 b hb; omega⟩
/-- The marks of a disk, from k on. -/
def cntNp : List NodeP → Int
  | [] => 0
  | p :: r => 1 + p.2.1.length + p.2.2.length + cntNp r
def markNp (k : Int) : List NodeP → List NodeP
  | [] => []
  | p :: r => (k, mk8 (k + 1) p.2.1.length, mk8 (k + 1 + p.2.1.length) p.2.2.length) :: markNp (k + (1 + p.2.1.length + p.2.2.length)) r
theorem cntNp_map : ∀ ds : List Nd, cntNp (ds.map NdP) = cntNd ds
  | [] => rfl
  | d :: r => by simp only [List.map_cons, cntNp, cntNd, cnt1, cntNp_map r]; rfl
theorem markNp_map : ∀ (k : Int) (ds : List Nd), markNp k (ds.map NdP) = (markNd k ds).map NdP
  | _, [] => rfl
  | k, d :: r => by
    have h := markNp_map (k + cnt1 d) r
    show _ :: markNp (k + cnt1 d) (r.map NdP) = _
    rw [h]
    rfl
def cntD (d : DiskP) : Int := cntNp d.nodes + 2 * d.kept.length + 4 * d.turns.length
def markD (k : Int) (d : DiskP) : DiskP := { d with nodes := markNp k d.nodes, kept := mkK (k + cntNp d.nodes) d.kept.length, turns := mkTu (k + cntNp d.nodes + 2 * d.kept.length) d.turns.length }
theorem cntNp_tot : ∀ l : List NodeP, cntNp l = l.length + totNd l
  | [] => by simp [cntNp, totNd]
  | p :: r => by
    have := cntNp_tot r
    simp only [cntNp, totNd, List.map_cons, List.sum_cons, List.length_cons, NdW] at *
    omega
theorem cntD_le {d : DiskP} (h : totD d ≤ 1048576) : 0 ≤ cntNp d.nodes ∧ cntNp d.nodes ≤ 1048576 ∧ d.nodes.length ≤ 1048576 ∧ d.kept.length ≤ 1048576 ∧ d.turns.length ≤ 1048576 ∧ 0 ≤ cntD d ∧ cntD d ≤ 8388608 := by
  obtain ⟨l1, l2, l3⟩ := totD_parts h
  have := cntNp_tot d.nodes
  have := totNd_nn d.nodes
  have := totLk_nn d.kept
  have := totTn_nn d.turns
  unfold cntD
  omega
attribute [local irreducible] TL TC TN TX TR TQ TA Pu Ret
set_option maxHeartbeats 4000000 in
theorem heldNodeS_c {v : Value} {ds : List Nd} {k : Int} {w : World} {lo hi : Nat} (h : RN w lo hi v ((markNd k ds).map NdP)) (hl : ds.length ≤ 1048576) (hc : cntNd ds ≤ 4194304) (hk0 : 0 < k) (hk1 : k ≤ 1000000000) :
    Ret Tryz.prog 78 #[v, I k] w fun v' w' => v' = I (k + cntNd ds) ∧ Ext w w' := by
  obtain ⟨es, A, c, hm, rfl, hcl, hr, hok⟩ := h
  have hel : es.length = ds.length := by have := congrArg List.length hm; simpa [markNd_length] using this
  refine Ret_enter Tryz.func78 rfl rfl rfl ?_
  repeat' (first | apply Jbq | apply Jbr | apply Jbs | apply Jbt | apply Jby | (apply Jcg; exact Jab rfl; exact rfl))
  refine TC_loop (ι := Nat) (fun i => [(0, .slice A es.length c), (1, I (k + cntNd (ds.take i))), (5, I i)]) (fun i w' => i ≤ ds.length ∧ Ext w w') (fun i => ds.length - i) 0
    (subEnv_cons rfl (subEnv_cons (congrArg (fun z => some (I z)) (by simp [cntNd])) (subEnv_cons rfl (subEnv_nil _)))) ⟨Nat.zero_le _, Ch.refl _ _⟩ ?_
  intro i w2 ⟨hi2, e2⟩
  repeat' (first | apply Jbq | apply Jbr | apply Jbs | apply Jbt | (apply Jcg; (first | exact Jaa rfl | exact Jac Us.h rfl | exact Jad rfl rfl); exact rfl))
  refine Jcx rfl (fun hlt0 => ?_) (fun hge => ?_)
  · have hlt : i < ds.length := by omega
    have htk : ds.take (i + 1) = ds.take i ++ [ds[i]] := List.take_succ_eq_append_getElem hlt
    have hct : cntNd (ds.take (i + 1)) = cntNd (ds.take i) + cnt1 ds[i] := by rw [htk, cntNd_append]; simp [cntNd]
    have hall : cntNd ds = cntNd (ds.take i) + (cnt1 ds[i] + cntNd (ds.drop (i + 1))) := by
      have hdr : ds.drop i = ds[i] :: ds.drop (i + 1) := List.drop_eq_getElem_cons hlt
      conv => lhs; rw [← List.take_append_drop i ds, hdr]
      rw [cntNd_append]; rfl
    have hn1 := cntNd_nn (ds.take i)
    have hn2 := cntNd_nn (ds.drop (i + 1))
    obtain ⟨ad, rfl, hcell⟩ := Rd.elem NdC_len (hr.ext e2) (k := i) (by omega)
    have hel2 : NdP es[i] = NdP (mk1 (k + cntNd (ds.take i)) ds[i]) := by
      have h1 := congrArg (fun l => l[i]?) hm
      simp only [List.getElem?_map, List.getElem?_eq_getElem (show i < es.length by omega), List.getElem?_eq_getElem (show i < (markNd k ds).length by rw [markNd_length]; exact hlt), Option.map_some, Option.some.injEq] at h1
      rw [h1, markNd_get k ds i hlt]
    obtain ⟨ob, os⟩ := hok es[i] (List.getElem_mem _)
    obtain ⟨q, hq⟩ : ∃ q, q = k + cntNd (ds.take i) := ⟨_, rfl⟩
    obtain ⟨x, hx⟩ : ∃ x, x = ds[i] := ⟨_, rfl⟩
    obtain ⟨y, hy⟩ : ∃ y, y = es[i] := ⟨_, rfl⟩
    rw [← hy] at hcell hel2 ob os
    rw [← hx] at hel2 hct hall
    rw [← hq] at hel2
    obtain ⟨id, body, safe, vb, vs⟩ := y
    simp only [NdP, mk1, Prod.mk.injEq] at hel2
    obtain ⟨rfl, rfl, rfl⟩ := hel2
    simp only at ob os
    unfold cnt1 at hct hall
    have hqb : 0 < id ∧ id + 1 + x.body.length + x.safe.length ≤ 1099511627776 := by omega
    have h0 : w2.cell? ((ad.add (i * 3)).add 0) = some (I id) := hcell 0 _ rfl
    have h1 : w2.cell? ((ad.add (i * 3)).add 1) = some vb := hcell 1 _ rfl
    have h2 : w2.cell? ((ad.add (i * 3)).add 2) = some vs := hcell 2 _ rfl
    obtain ⟨Ab, cb, rfl, hcb, hrb⟩ := ob
    obtain ⟨As, cs, rfl, hcs, hrs⟩ := os
    rw [mk8_length] at hrb hrs h1 h2 hcb hcs
    rw [← hq]
    repeat' (first | apply Jbq | apply Jbr | apply Jbs | apply Jbt | apply Jby | apply Jbz | (apply Jcg; (first | exact Jaa rfl | exact Jal rfl rfl | exact Jar Us.h Sz.h rfl rfl (by omega) | (apply Jbl; exact Us.h; exact rfl; exact Sz.h; exact rfl)); exact rfl) | refine Jcg (Pu_load Fl.h rfl (fun _ e => by rw [e]; exact h0)) rfl ?_)
    refine Jcf (by rw [show (!decide (id = id)) = false from by simp]; rfl) ?_
    repeat' (first | apply Jbq | apply Jbr | apply Jbs | apply Jbt | apply Jbz | (apply Jcg; (first | exact Jaa rfl | exact Jab rfl | exact Jaf rfl rfl (by omega) | exact Jar Us.h Sz.h rfl rfl (by omega) | (apply Jbl; exact Us.h; exact rfl; exact Sz.h; exact rfl)); exact rfl) | refine Jcg (Pu_load Fl.h rfl (fun _ e => by rw [e]; exact h1)) rfl ?_)
    refine TL_call rfl en150 (heldByteS_c (hrb.ext e2) (by omega) (by omega) (by omega)) rfl rfl ?_
    rintro _ w3 ⟨rfl, e3⟩
    have h2' := e3.cell h2
    repeat' (first | apply Jbq | apply Jbr | apply Jbs | apply Jbt | apply Jbz | (apply Jcg; (first | exact Jaa rfl | exact Jab rfl | exact Jad rfl rfl | exact Jar Us.h Sz.h rfl rfl (by omega) | (apply Jbl; exact Us.h; exact rfl; exact Sz.h; exact rfl)); exact rfl) | refine Jcg (Pu_load Fl.h rfl (fun _ e => by rw [e]; exact h2')) rfl ?_ | (refine Jcx rfl (fun hb => ?_) (fun hb => ?_) <;> (try (exfalso; omega))))
    refine TL_call rfl en150 (heldByteS_c (hrs.ext (e2.ext e3)) (by omega) (by omega) (by omega)) rfl rfl ?_
    rintro _ w4 ⟨rfl, e4⟩
    repeat' (first | apply Jbq | apply Jbr | apply Jbs | apply Jbt | apply Jbx | apply Jbz | (apply Jcg; (first | exact Jaa rfl | exact Jab rfl | exact Jad rfl rfl | exact Jaf rfl rfl (by omega)); exact rfl) | (refine Jcx rfl (fun hb => ?_) (fun hb => ?_) <;> (try (exfalso; omega))))
    exact TN_round (i + 1) (subEnv_cons rfl (subEnv_cons (congrArg (fun z => some (I z)) (by rw [hct]; omega)) (subEnv_cons rfl (subEnv_nil _)))) ⟨hlt, (e2.ext e3).ext e4⟩ (by omega)
  · obtain rfl : i = ds.length := by omega
    rw [List.take_length]
    repeat' (first | apply Jbq | apply Jbr | apply Jbs | apply Jbt | apply Jbu | apply Jca | apply Jcb | apply Jcc | (apply Jcg; (first | exact Jaa rfl | exact Jab rfl); exact rfl))
    exact TR_of (res1 rfl rfl) ⟨rfl, e2⟩
end Go.Proofs.YtggaghghclomkaaGreat
