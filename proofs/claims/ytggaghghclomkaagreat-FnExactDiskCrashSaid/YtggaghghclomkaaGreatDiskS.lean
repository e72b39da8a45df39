/- Disks that can be read, and the laws' helpers on them. -/
import Derived.Test.YtggaghghclomkaaGreatDiskRN
import Derived.Test.YtggaghghclomkaaGreatDiskRK
import Derived.Test.YtggaghghclomkaaGreatDiskRT
namespace Go.Proofs.YtggaghghclomkaaGreat
open Go.RowKit
attribute [local irreducible] TL TC TN TX TR TQ TA Pu Ret

structure DiskP where
  room : Int
  fuse : Int
  next : Int
  nodes : List NodeP
  kept : List LinkP
  turns : List TurnP
def dskC (d : DiskP) (sn sk st : Value) : List Value := [I d.room, I d.fuse, I d.next, sn, sk, st]
def RDk (w : World) (lo hi : Nat) (d : DiskP) (sn sk st : Value) : Prop := RN w lo hi sn d.nodes ∧ RK w lo hi sk d.kept ∧ RT w lo hi st d.turns
def totD (d : DiskP) : Int := (d.nodes.length + totNd d.nodes) + (d.kept.length + totLk d.kept) + (d.turns.length + totTn d.turns)
def DiskP.fits (d : DiskP) : Prop := (-9223372036854775808 ≤ d.room ∧ d.room ≤ 9223372036854775807) ∧ (-9223372036854775808 ≤ d.fuse ∧ d.fuse ≤ 9223372036854775807) ∧ (-9223372036854775808 ≤ d.next ∧ d.next ≤ 9223372036854775807) ∧
  (d.nodes.length ≤ 9223372036854775807 ∧ ∀ p ∈ d.nodes, NdFit p) ∧ (d.kept.length ≤ 9223372036854775807 ∧ ∀ p ∈ d.kept, LkFit p) ∧ (d.turns.length ≤ 9223372036854775807 ∧ ∀ p ∈ d.turns, TnFit p)
theorem RDk.ch {w w' : World} {lo hi : Nat} {d : DiskP} {sn sk st : Value} {T : Nat → Prop} (h : RDk w lo hi d sn sk st) (c : Ch T w w') (hd : ∀ k, lo ≤ k → k < hi → ¬ T k) : RDk w' lo hi d sn sk st := ⟨h.1.ch c hd, h.2.1.ch c hd, h.2.2.ch c hd⟩
theorem RDk.ext {w w' : World} {lo hi : Nat} {d : DiskP} {sn sk st : Value} (h : RDk w lo hi d sn sk st) (c : Ext w w') : RDk w' lo hi d sn sk st := h.ch c (fun _ _ _ t => t)
theorem RDk.wide {w : World} {lo hi lo' hi' : Nat} {d : DiskP} {sn sk st : Value} (h : RDk w lo hi d sn sk st) (h1 : lo' ≤ lo) (h2 : hi ≤ hi') (h3 : hi' ≤ w.heap.size) : RDk w lo' hi' d sn sk st := ⟨h.1.wide h1 h2 h3, h.2.1.wide h1 h2 h3, h.2.2.wide h1 h2 h3⟩
theorem RDk.one {w : World} {lo hi : Nat} {d : DiskP} {sn sk st : Value} (h : RDk w lo hi d sn sk st) : (dskC d sn sk st).all (·.oneCell') = true := by
  simp only [dskC, List.all_cons, List.all_nil, h.1.one, h.2.1.one, h.2.2.one]; rfl
theorem totD_parts {d : DiskP} (h : totD d ≤ 1048576) : d.nodes.length + totNd d.nodes ≤ 1048576 ∧ d.kept.length + totLk d.kept ≤ 1048576 ∧ d.turns.length + totTn d.turns ≤ 1048576 := by
  have h1 := totNd_nn d.nodes
  have h2 := totLk_nn d.kept
  have h3 := totTn_nn d.turns
  unfold totD at h
  omega
set_option maxHeartbeats 1000000 in
theorem szDisk_c {w : World} {lo hi : Nat} {d : DiskP} {sn sk st : Value} {left : Int} (h : RDk w lo hi d sn sk st) (hf : d.fits) (h0 : 0 ≤ left) (h1 : left ≤ 1048576) :
    Ret Tryz.prog 11 #[.agg (dskC d sn sk st).toArray, I left] w fun v w' => (v = I (-1) ∨ (v = I (left - totD d) ∧ totD d ≤ left)) ∧ Ext w w' := by
  obtain ⟨_, _, _, ⟨f1, f2⟩, ⟨f3, f4⟩, ⟨f5, f6⟩⟩ := hf
  have n1 := totNd_nn d.nodes
  have n2 := totLk_nn d.kept
  have n3 := totTn_nn d.turns
  refine Ret_enter Tryz.func11 rfl rfl rfl ?_
  repeat' (first | apply Jbs | apply Jbt)
  refine TL_box (cs := dskC d sn sk st) rfl rfl ?_
  intro w1 g E hg hz hbk
  clear hg hz
  repeat' (first | apply Jbq | apply Jbr | apply Jbs | apply Jbt | (apply Jcg; (first | exact Jaa rfl | exact Jab rfl | (apply Jbl; exact Us.h; exact rfl; exact Sz.h; exact rfl)); exact rfl) | refine Jcg (Pu_load Fl.h rfl (fun _ e => by rw [e]; exact hbk.ld rfl)) rfl ?_)
  refine TL_call rfl en54 (szNodeS_k (h.1.ext E) f1 h0 h1 f2) rfl rfl ?_
  rintro _ w2 ⟨hv, e2⟩
  replace E := E.ext e2
  replace hbk := hbk.ext e2
  rcases hv with rfl | ⟨rfl, hle⟩
  · repeat' (first | apply Jbq | apply Jbr | apply Jbs | apply Jbt | apply Jbu | apply Jbv | (refine Jce rfl ?_) | (apply Jcg; (first | exact Jaa rfl | exact Jab rfl | exact Jad rfl rfl); exact rfl))
    exact TR_of (res1 rfl rfl) ⟨.inl rfl, E⟩
  repeat' (first | apply Jbq | apply Jbr | apply Jbs | apply Jbt | apply Jbz | (apply Jcg; (first | exact Jaa rfl | exact Jab rfl | exact Jad rfl rfl | (apply Jbl; exact Us.h; exact rfl; exact Sz.h; exact rfl)); exact rfl) | refine Jcg (Pu_load Fl.h rfl (fun _ e => by rw [e]; exact hbk.ld rfl)) rfl ?_ | (refine Jcx rfl (fun hb => ?_) (fun hb => ?_) <;> (try (exfalso; omega))))
  refine TL_call rfl en55 (szLinkS_k (h.2.1.ext E) f3 (by omega) (by omega) f4) rfl rfl ?_
  rintro _ w3 ⟨hv, e3⟩
  replace E := E.ext e3
  replace hbk := hbk.ext e3
  rcases hv with rfl | ⟨rfl, hle2⟩
  · repeat' (first | apply Jbq | apply Jbr | apply Jbs | apply Jbt | apply Jbu | apply Jbv | (refine Jce rfl ?_) | (apply Jcg; (first | exact Jaa rfl | exact Jab rfl | exact Jad rfl rfl); exact rfl))
    exact TR_of (res1 rfl rfl) ⟨.inl rfl, E⟩
  repeat' (first | apply Jbq | apply Jbr | apply Jbs | apply Jbt | apply Jbz | (apply Jcg; (first | exact Jaa rfl | exact Jab rfl | exact Jad rfl rfl | (apply Jbl; exact Us.h; exact rfl; exact Sz.h; exact rfl)); exact rfl) | refine Jcg (Pu_load Fl.h rfl (fun _ e => by rw [e]; exact hbk.ld rfl)) rfl ?_ | (refine Jcx rfl (fun hb => ?_) (fun hb => ?_) <;> (try (exfalso; omega))))
  refine TL_call rfl en56 (szTurnS_k (h.2.2.ext E) f5 (by omega) (by omega) f6) rfl rfl ?_
  rintro _ w4 ⟨hv, e4⟩
  replace E := E.ext e4
  rcases hv with rfl | ⟨rfl, hle3⟩
  · repeat' (first | apply Jbq | apply Jbr | apply Jbs | apply Jbt | apply Jbu | apply Jbv | (refine Jce rfl ?_) | (apply Jcg; (first | exact Jaa rfl | exact Jab rfl | exact Jad rfl rfl); exact rfl))
    exact TR_of (res1 rfl rfl) ⟨.inl rfl, E⟩
  repeat' (first | apply Jbq | apply Jbr | apply Jbs | apply Jbt | apply Jbu | apply Jbz | (apply Jcg; (first | exact Jaa rfl | exact Jab rfl | exact Jad rfl rfl); exact rfl) | (refine Jcx rfl (fun hb => ?_) (fun hb => ?_) <;> (try (exfalso; omega))))
  exact TR_of (res1 rfl rfl) ⟨.inr ⟨congrArg I (by unfold totD; omega), by unfold totD; omega⟩, E⟩
set_option maxHeartbeats 2000000 in
theorem toDisk_c {w : World} {lo hi : Nat} {d : DiskP} {sn sk st : Value} (h : RDk w lo hi d sn sk st) (hl : totD d ≤ 1048576) :
    Ret Tryz.prog 13 #[.agg (dskC d sn sk st).toArray] w fun v' w' => ∃ sn' sk' st', v' = .agg (dskC d sn' sk' st').toArray ∧ Ext w w' ∧ RDk w' w.heap.size w'.heap.size d sn' sk' st' := by
  obtain ⟨l1, l2, l3⟩ := totD_parts hl
  refine Ret_enter Tryz.func13 rfl rfl rfl ?_
  repeat' (first | apply Jbs | apply Jbt)
  refine TL_box (cs := dskC d sn sk st) rfl rfl ?_
  intro w1 g1 e1 hg1 hz1 hb1
  skip
  refine TL_alloc Zs.h rfl rfl ?_
  intro w2 g2 e2 hg2 hz2 hb2
  replace hb1 := hb1.ext e2
  repeat' (first | apply Jbq | apply Jbr | apply Jbs | apply Jbt)
  refine TL_alloc Zs.h rfl rfl ?_
  intro w3 g3 e3 hg3 hz3 hb3
  replace hb1 := hb1.ext e3
  replace hb2 := hb2.ext e3
  have E : Ext w w3 := (e1.ext e2).ext e3
  have hgw : w.heap.size ≤ g1 ∧ g1 < g2 ∧ g2 < g3 := by omega
  clear hg1 hg2 hg3 e1 e2 e3 hz1 hz2 hz3
  repeat' (first | apply Jbq | apply Jbr | apply Jbs | apply Jbt | (apply Jcg; (apply Jbl; exact Us.h; exact rfl; exact Sz.h; exact rfl); exact rfl) | refine Jcg (Pu_load Fl.h rfl (fun _ e => by rw [e]; exact hb1.ld rfl)) rfl ?_)
  refine TL_store rfl rfl Sz.h rfl hb3 rfl ?_
  clear hb3
  intro w4 c4 hz4 hb3
  replace hb1 := hb1.ch c4 (by simp only [Iv]; omega)
  replace hb2 := hb2.ch c4 (by simp only [Iv]; omega)
  replace E : Ext w w4 := Ext.then_iv E c4 (by omega)
  repeat' (first | apply Jbq | apply Jbr | apply Jbs | apply Jbt | (apply Jcg; (apply Jbl; exact Us.h; exact rfl; exact Sz.h; exact rfl); exact rfl) | refine Jcg (Pu_load Fl.h rfl (fun _ e => by rw [e]; exact hb1.ld rfl)) rfl ?_)
  refine TL_store rfl rfl Sz.h rfl hb3 rfl ?_
  clear hb3
  intro w5 c5 hz5 hb3
  replace hb1 := hb1.ch c5 (by simp only [Iv]; omega)
  replace hb2 := hb2.ch c5 (by simp only [Iv]; omega)
  replace E : Ext w w5 := Ext.then_iv E c5 (by omega)
  repeat' (first | apply Jbq | apply Jbr | apply Jbs | apply Jbt | (apply Jcg; (apply Jbl; exact Us.h; exact rfl; exact Sz.h; exact rfl); exact rfl) | refine Jcg (Pu_load Fl.h rfl (fun _ e => by rw [e]; exact hb1.ld rfl)) rfl ?_)
  refine TL_store rfl rfl Sz.h rfl hb3 rfl ?_
  clear hb3
  intro w6 c6 hz6 hb3
  replace hb1 := hb1.ch c6 (by simp only [Iv]; omega)
  replace hb2 := hb2.ch c6 (by simp only [Iv]; omega)
  replace E : Ext w w6 := Ext.then_iv E c6 (by omega)
  have hlt := hb3.lt
  repeat' (first | apply Jbq | apply Jbr | apply Jbs | apply Jbt | (apply Jcg; (apply Jbl; exact Us.h; exact rfl; exact Sz.h; exact rfl); exact rfl) | refine Jcg (Pu_load Fl.h rfl (fun _ e => by rw [e]; exact hb1.ld rfl)) rfl ?_)
  refine TL_call rfl en62 (toNodeS_k (h.1.ext E) l1) rfl rfl ?_
  intro sn2 w7 ⟨e7, ho7⟩
  replace hb1 := hb1.ext e7
  replace hb2 := hb2.ext e7
  replace hb3 := hb3.ext e7
  have hs6 := E.size
  have hs7 := e7.size
  replace E := E.ext e7
  repeat' ((apply Jcg; (apply Jbl; exact Us.h; exact rfl; exact Sz.h; exact rfl); exact rfl))
  refine TL_store rfl rfl Sz.h ho7.one hb3 rfl ?_
  clear hb3
  intro w8 c8 hz8 hb3
  replace hb1 := hb1.ch c8 (by simp only [Iv]; omega)
  replace hb2 := hb2.ch c8 (by simp only [Iv]; omega)
  replace ho7 := ho7.ch c8 (by intro k _ _; simp only [Iv]; omega)
  replace E : Ext w w8 := Ext.then_iv E c8 (by omega)
  repeat' (first | apply Jbq | apply Jbr | apply Jbs | apply Jbt | (apply Jcg; (apply Jbl; exact Us.h; exact rfl; exact Sz.h; exact rfl); exact rfl) | refine Jcg (Pu_load Fl.h rfl (fun _ e => by rw [e]; exact hb1.ld rfl)) rfl ?_)
  refine TL_call rfl en63 (toLinkS_k (h.2.1.ext E) l2) rfl rfl ?_
  intro sk2 w9 ⟨e9, ho9⟩
  replace hb1 := hb1.ext e9
  replace hb2 := hb2.ext e9
  replace hb3 := hb3.ext e9
  replace ho7 := ho7.ext e9
  have hs9 := e9.size
  replace E := E.ext e9
  repeat' ((apply Jcg; (apply Jbl; exact Us.h; exact rfl; exact Sz.h; exact rfl); exact rfl))
  refine TL_store rfl rfl Sz.h ho9.one hb3 rfl ?_
  clear hb3
  intro w10 c10 hz10 hb3
  replace hb1 := hb1.ch c10 (by simp only [Iv]; omega)
  replace hb2 := hb2.ch c10 (by simp only [Iv]; omega)
  replace ho7 := ho7.ch c10 (by intro k _ _; simp only [Iv]; omega)
  replace ho9 := ho9.ch c10 (by intro k _ _; simp only [Iv]; omega)
  replace E : Ext w w10 := Ext.then_iv E c10 (by omega)
  repeat' (first | apply Jbq | apply Jbr | apply Jbs | apply Jbt | (apply Jcg; (apply Jbl; exact Us.h; exact rfl; exact Sz.h; exact rfl); exact rfl) | refine Jcg (Pu_load Fl.h rfl (fun _ e => by rw [e]; exact hb1.ld rfl)) rfl ?_)
  refine TL_call rfl en64 (toTurnS_k (h.2.2.ext E) l3) rfl rfl ?_
  intro st2 w11 ⟨e11, ho11⟩
  replace hb2 := hb2.ext e11
  replace hb3 := hb3.ext e11
  replace ho7 := ho7.ext e11
  replace ho9 := ho9.ext e11
  have hs11 := e11.size
  replace E := E.ext e11
  repeat' ((apply Jcg; (apply Jbl; exact Us.h; exact rfl; exact Sz.h; exact rfl); exact rfl))
  refine TL_store rfl rfl Sz.h ho11.one hb3 rfl ?_
  clear hb3
  intro w12 c12 hz12 hb3
  replace hb2 := hb2.ch c12 (by simp only [Iv]; omega)
  replace ho7 := ho7.ch c12 (by intro k _ _; simp only [Iv]; omega)
  replace ho9 := ho9.ch c12 (by intro k _ _; simp only [Iv]; omega)
  replace ho11 := ho11.ch c12 (by intro k _ _; simp only [Iv]; omega)
  replace E : Ext w w12 := Ext.then_iv E c12 (by omega)
  repeat' (first | apply Jbq | apply Jbr | apply Jbs | apply Jbt)
  refine Jcg (Pu_loadAgg (cs := dskC d sn2 sk2 st2) Us.h rfl Sz.h rfl (fun _ e j u hu => by rw [e, add0, hb3.cell]; exact hu)) rfl ?_
  skip
  refine TL_storeAgg rfl rfl Sz.h (by show ((dskC d sn2 sk2 st2).all (·.oneCell')) = true; simp only [dskC, List.all_cons, List.all_nil, ho7.one, ho9.one, ho11.one]; rfl) hb2 rfl ?_
  clear hb2
  intro w13 c13 hz13 hb2
  replace ho7 := ho7.ch c13 (by intro k _ _; simp only [Iv]; omega)
  replace ho9 := ho9.ch c13 (by intro k _ _; simp only [Iv]; omega)
  replace ho11 := ho11.ch c13 (by intro k _ _; simp only [Iv]; omega)
  repeat' (first | apply Jbq | apply Jbr | apply Jbu)
  exact TR_of (resA rfl rfl hb2 Us.h rfl Sz.h) ⟨sn2, sk2, st2, rfl, Ext.then_iv E c13 (by omega), ho7.wide (by omega) (by omega) (Nat.le_refl _), ho9.wide (by omega) (by omega) (Nat.le_refl _), ho11.wide (by omega) (by omega) (Nat.le_refl _)⟩
set_option maxHeartbeats 1000000 in
theorem eqDisk_c {w : World} {lo hi lo2 hi2 : Nat} {d : DiskP} {sn sk st sn2 sk2 st2 : Value} (h : RDk w lo hi d sn sk st) (h2 : RDk w lo2 hi2 d sn2 sk2 st2) (hl : totD d ≤ 1048576) :
    Ret Tryz.prog 16 #[.agg (dskC d sn sk st).toArray, .agg (dskC d sn2 sk2 st2).toArray] w fun v' w' => v' = .bool true ∧ Ext w w' := by
  obtain ⟨l1, l2, l3⟩ := totD_parts hl
  refine Ret_enter Tryz.func16 rfl rfl rfl ?_
  repeat' (first | apply Jbs | apply Jbt)
  refine TL_box (cs := dskC d sn sk st) rfl rfl ?_
  intro w1 g1 e1 hg1 hz1 hb1
  skip
  refine TL_box (cs := dskC d sn2 sk2 st2) rfl rfl ?_
  intro w2 g2 e2 hg2 hz2 hb2
  replace hb1 := hb1.ext e2
  have E := e1.ext e2
  repeat' (first | apply Jbq | apply Jbr | apply Jbs | apply Jbt | apply Jbz | (refine Jcf rfl ?_) | (apply Jcg; (first | exact Jbm rfl rfl | exact Jab rfl | (apply Jbl; exact Us.h; exact rfl; exact Sz.h; exact rfl)); exact rfl) | refine Jcg (Pu_load Fl.h rfl (fun _ e => by rw [e]; exact hb1.ld rfl)) rfl ?_ | refine Jcg (Pu_load Fl.h rfl (fun _ e => by rw [e]; exact hb2.ld rfl)) rfl ?_)
  refine TL_call rfl en72 (eqNodeS_k (h.1.ext E) (h2.1.ext E) l1) rfl rfl ?_
  rintro _ w3 ⟨rfl, e3⟩
  replace hb1 := hb1.ext e3
  replace hb2 := hb2.ext e3
  replace E := E.ext e3
  repeat' (first | apply Jbq | apply Jbr | apply Jbs | apply Jbt | apply Jbz | (refine Jcf rfl ?_) | (apply Jcg; (first | exact Jaj rfl | (apply Jbl; exact Us.h; exact rfl; exact Sz.h; exact rfl)); exact rfl) | refine Jcg (Pu_load Fl.h rfl (fun _ e => by rw [e]; exact hb1.ld rfl)) rfl ?_ | refine Jcg (Pu_load Fl.h rfl (fun _ e => by rw [e]; exact hb2.ld rfl)) rfl ?_)
  refine TL_call rfl en73 (eqLinkS_k (h.2.1.ext E) (h2.2.1.ext E) l2) rfl rfl ?_
  rintro _ w4 ⟨rfl, e4⟩
  replace hb1 := hb1.ext e4
  replace hb2 := hb2.ext e4
  replace E := E.ext e4
  repeat' (first | apply Jbq | apply Jbr | apply Jbs | apply Jbt | apply Jbz | (refine Jcf rfl ?_) | (apply Jcg; (first | exact Jaj rfl | (apply Jbl; exact Us.h; exact rfl; exact Sz.h; exact rfl)); exact rfl) | refine Jcg (Pu_load Fl.h rfl (fun _ e => by rw [e]; exact hb1.ld rfl)) rfl ?_ | refine Jcg (Pu_load Fl.h rfl (fun _ e => by rw [e]; exact hb2.ld rfl)) rfl ?_)
  refine TL_call rfl en74 (eqTurnS_k (h.2.2.ext E) (h2.2.2.ext E) l3) rfl rfl ?_
  rintro _ w5 ⟨rfl, e5⟩
  repeat' (first | apply Jbq | apply Jbr | apply Jbs | apply Jbt | apply Jbu | apply Jbz | (refine Jcf rfl ?_) | (apply Jcg; (first | exact Jab rfl | exact Jaj rfl); exact rfl))
  exact TR_of (res1 rfl rfl) ⟨rfl, E.ext e5⟩
end Go.Proofs.YtggaghghclomkaaGreat
