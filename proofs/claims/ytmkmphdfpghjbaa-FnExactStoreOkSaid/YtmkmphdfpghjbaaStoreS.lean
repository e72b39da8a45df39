/- Stores that can be read, and the laws' helpers on them. -/
import Derived.Test.YtmkmphdfpghjbaaDiskS
import Derived.Test.YtmkmphdfpghjbaaKindE
namespace Go.Proofs.Ytmkmphdfpghjbaa
open Go.RowKit
attribute [local irreducible] TL TC TN TX TR TQ TA Pu Ret

theorem Blk.storedL {g : Nat} {tb : TypeId} : ∀ (us : List Value) (off : Nat) (w : World) (cs : List Value), Blk w g tb cs → Blk (w.setCells g off us) g tb (setL cs off us) ∧ Ch (Iv g (g + 1)) w (w.setCells g off us) ∧ (w.setCells g off us).heap.size = w.heap.size
  | [], off, w, cs, h => ⟨h, Ch.refl _ _, rfl⟩
  | v :: r, off, w, cs, h => by
    have h1 : Blk (w.setCell ⟨g, off, none⟩ v) g tb (cs.set off v) := by
      unfold Blk
      rw [heap_setCell_same w g off cs.toArray tb v h]
      simp
    have c1 : Ch (Iv g (g + 1)) w (w.setCell ⟨g, off, none⟩ v) := ⟨rfl, rfl, rfl, by simp, fun k _ hk => heap_setCell_other w ⟨g, off, none⟩ k v (fun e => hk (by simp [Iv, e]))⟩
    obtain ⟨h2, c2, z2⟩ := Blk.storedL r (off + 1) _ _ h1
    exact ⟨h2, c1.then c2, by rw [show (w.setCells g off (v :: r)) = (w.setCell ⟨g, off, none⟩ v).setCells g (off + 1) r from rfl, z2]; simp⟩
section
variable {P : Program} {L : List Oper} {Q : Exit → Act → World → Prop} {n : Nat} {l : Env} {w : World} {rest : List Oper} {ty t : TypeId} {pos : String} {af : Array Edge} {x y : Operand}
/-- A value of several cells goes into a part of a block. -/
theorem TL_storeBlk {g off : Nat} {tb : TypeId} {cs us : List Value} {ad : Addr} (hx : ev l x = some (.pointer (some ad))) (had : ad = ⟨g, off, none⟩) (hy : ev l y = some (.agg us.toArray)) (hz : (P.info? t).map (·.size) = some us.length) (hv : us.all (·.oneCell') = true)
    (hb : Blk w g tb cs) (hoff : off + us.length ≤ cs.length)
    (h : ∀ w', Ch (Iv g (g + 1)) w w' → w'.heap.size = w.heap.size → Blk w' g tb (setL cs off us) → TL P L Q rest n l w') :
    TL P L Q (⟨none, .store t x y, ty, pos, af, none⟩ :: rest) n l w := by
  subst had
  obtain ⟨h1, h2, h3⟩ := Blk.storedL us off w cs hb
  refine TL_skipped (w' := w.setCells g off us) rfl rfl (fun a ha => ?_) (h _ h2 h3 h1)
  have := run_storeAt_mid (P := P) w g off t us.toArray (fun j hj => ⟨by rw [hb.cell (off + j), List.getElem?_eq_getElem (by simp at hj; omega)]; rfl, hb.frozen _⟩) (by simpa using hz) (by simpa using hv)
  simp [execOp, ha.eval hx, ha.eval hy, this]
end
structure StoreP where
  disk : DiskP
  keep : Int
  size : Int
  list : List Ent
  len : Int
def stoC (s : StoreP) (sn sk st sl : Value) : List Value := [I s.disk.room, I s.disk.fuse, I s.disk.next, sn, sk, st, I s.keep, I s.size, sl, I s.len]
theorem stoC_disk {s : StoreP} {sn sk st sl : Value} {j : Nat} {u : Value} (h : (dskC s.disk sn sk st)[j]? = some u) : (stoC s sn sk st sl)[j]? = some u := by
  have hl : j < (dskC s.disk sn sk st).length := (List.getElem?_eq_some_iff.1 h).1
  rw [show stoC s sn sk st sl = dskC s.disk sn sk st ++ [I s.keep, I s.size, sl, I s.len] from rfl, List.getElem?_append_left hl, h]
def RSt (w : World) (lo hi : Nat) (s : StoreP) (sn sk st sl : Value) : Prop := RDk w lo hi s.disk sn sk st ∧ RE w lo hi sl s.list
def totS (s : StoreP) : Int := totD s.disk + (s.list.length + totE s.list)
def StoreP.fits (s : StoreP) : Prop := s.disk.fits ∧ s.list.length ≤ 9223372036854775807 ∧ ∀ d ∈ s.list, ((-9223372036854775808 ≤ d.1 ∧ d.1 ≤ 9223372036854775807) ∧ d.2.length ≤ 9223372036854775807)
theorem RE.wide {w : World} {lo hi lo' hi' : Nat} {v : Value} {l : List Ent} (h : RE w lo hi v l) (h1 : lo' ≤ lo) (h2 : hi ≤ hi') (h3 : hi' ≤ w.heap.size) : RE w lo' hi' v l := by
  obtain ⟨A, c, e, hc, hr⟩ := h
  exact ⟨A, c, e, hc, hr.wide h1 h2 h3⟩
theorem RE.one {w : World} {lo hi : Nat} {v : Value} {l : List Ent} (h : RE w lo hi v l) : v.oneCell' = true := by obtain ⟨A, c, rfl, _⟩ := h; rfl
theorem RSt.ch {w w' : World} {lo hi : Nat} {s : StoreP} {sn sk st sl : Value} {T : Nat → Prop} (h : RSt w lo hi s sn sk st sl) (c : Ch T w w') (hd : ∀ k, lo ≤ k → k < hi → ¬ T k) : RSt w' lo hi s sn sk st sl := ⟨h.1.ch c hd, h.2.ch c hd⟩
theorem RSt.ext {w w' : World} {lo hi : Nat} {s : StoreP} {sn sk st sl : Value} (h : RSt w lo hi s sn sk st sl) (c : Ext w w') : RSt w' lo hi s sn sk st sl := h.ch c (fun _ _ _ t => t)
theorem RSt.one {w : World} {lo hi : Nat} {s : StoreP} {sn sk st sl : Value} (h : RSt w lo hi s sn sk st sl) : (stoC s sn sk st sl).all (·.oneCell') = true := by
  simp only [stoC, List.all_cons, List.all_nil, h.1.1.one, h.1.2.1.one, h.1.2.2.one, h.2.one]; rfl
theorem totD_nn (d : DiskP) : 0 ≤ totD d := by
  have h1 := totNd_nn d.nodes
  have h2 := totLk_nn d.kept
  have h3 := totTn_nn d.turns
  unfold totD
  omega
theorem totS_parts {s : StoreP} (h : totS s ≤ 1048576) : totD s.disk ≤ 1048576 ∧ s.list.length ≤ 1048576 := by
  have h1 := totD_nn s.disk
  have h2 := totE_nn s.list
  unfold totS at h
  omega
theorem blk_disk {w w' : World} {g : Nat} {tb : TypeId} {s : StoreP} {sn sk st sl : Value} (hb : Blk w g tb (stoC s sn sk st sl)) (e : w' = w) (j : Nat) (u : Value) (hu : (dskC s.disk sn sk st)[j]? = some u) : w'.cell? (((⟨g, 0, none⟩ : Addr).add 0).add j) = some u := by
  rw [e, add_of_add, add0, Nat.zero_add, hb.cell]; exact stoC_disk hu
set_option maxHeartbeats 1000000 in
theorem szStore_c {w : World} {lo hi : Nat} {s : StoreP} {sn sk st sl : Value} {left : Int} (h : RSt w lo hi s sn sk st sl) (hf : s.fits) (h0 : 0 ≤ left) (h1 : left ≤ 1048576) :
    Ret Try.prog 31 #[.agg (stoC s sn sk st sl).toArray, I left] w fun v w' => (v = I (-1) ∨ (v = I (left - totS s) ∧ totS s ≤ left)) ∧ Ext w w' := by
  have n1 := totD_nn s.disk
  have n2 := totE_nn s.list
  refine Ret_enter Try.func31 rfl rfl rfl ?_
  repeat' (first | apply Jbq | apply Jbr | apply Jbs | apply Jbt | apply Jbu | apply Jbv | apply Jbw | apply Jbx | apply Jby | apply Jbz | apply Jca | apply Jcb | apply Jcc | (refine Jcd rfl ?_) | (refine Jce rfl ?_) | (refine Jcf rfl ?_) | (apply Jcg; (first | exact Jaa rfl | exact Jab rfl | exact Jad rfl rfl | exact Jaj rfl | exact Jal rfl rfl | exact Jat rfl rfl | exact Jav Us.h rfl rfl | (apply Jbl; exact Us.h; exact rfl; exact Sz.h; exact rfl)); exact rfl) | refine Jch rfl rfl rfl ?_ | refine Jci rfl rfl rfl rfl rfl ?_ | refine Jcj rfl rfl rfl rfl ?_)
  refine TL_box (cs := stoC s sn sk st sl) rfl rfl ?_
  intro w1 g E hg hz hbk
  clear hg hz
  repeat' (first | apply Jbq | apply Jbr | apply Jbs | apply Jbt | apply Jbu | apply Jbv | apply Jbw | apply Jbx | apply Jby | apply Jbz | apply Jca | apply Jcb | apply Jcc | (refine Jcd rfl ?_) | (refine Jce rfl ?_) | (refine Jcf rfl ?_) | (apply Jcg; (first | exact Jaa rfl | exact Jab rfl | exact Jad rfl rfl | exact Jaj rfl | exact Jal rfl rfl | exact Jat rfl rfl | exact Jav Us.h rfl rfl | (apply Jbl; exact Us.h; exact rfl; exact Sz.h; exact rfl)); exact rfl) | refine Jch rfl rfl rfl ?_ | refine Jci rfl rfl rfl rfl rfl ?_ | refine Jcj rfl rfl rfl rfl ?_ | refine Jcg (Pu_loadAgg (cs := dskC s.disk sn sk st) Us.h rfl Sz.h rfl (fun _ e j u hu => blk_disk hbk e j u hu)) rfl ?_ | refine Jcg (Pu_load Fl.h rfl (fun _ e => by rw [e]; exact hbk.ld rfl)) rfl ?_)
  refine TL_call rfl en15 (szDisk_c (h.1.ext E) hf.1 h0 h1) rfl rfl ?_
  rintro _ w2 ⟨hv, e2⟩
  replace E := E.ext e2
  replace hbk := hbk.ext e2
  rcases hv with rfl | ⟨rfl, hle⟩
  · repeat' (first | apply Jbq | apply Jbr | apply Jbs | apply Jbt | apply Jbu | apply Jbv | apply Jbw | apply Jbx | apply Jby | apply Jbz | apply Jca | apply Jcb | apply Jcc | (refine Jcd rfl ?_) | (refine Jce rfl ?_) | (refine Jcf rfl ?_) | (apply Jcg; (first | exact Jbm rfl rfl | exact Jbn Us.h rfl rfl | exact Jbo rfl rfl | exact Jaa rfl | exact Jab rfl | exact Jad rfl rfl | exact Jaj rfl | exact Jal rfl rfl | exact Jat rfl rfl | exact Jav Us.h rfl rfl | (apply Jbl; exact Us.h; exact rfl; exact Sz.h; exact rfl)); exact rfl) | refine Jch rfl rfl rfl ?_ | refine Jci rfl rfl rfl rfl rfl ?_ | refine Jcj rfl rfl rfl rfl ?_ | (refine Jcs rfl rfl (fun hb => ?_) (fun hb => ?_) <;> (try (exfalso; omega))) | (refine Jct rfl rfl (fun hb => ?_) (fun hb => ?_) <;> (try (exfalso; omega))) | refine Jcr rfl rfl (fun hb => ?_) (fun hb => ?_) | (refine Jcx rfl (fun hb => ?_) (fun hb => ?_) <;> (try (exfalso; omega))) | (refine Jcy rfl (fun hb => ?_) (fun hb => ?_) <;> (try (exfalso; omega))) | refine Jcz rfl (fun hb => ?_) (fun hb => ?_))
    exact TR_of (res1 rfl rfl) ⟨.inl rfl, E⟩
  repeat' (first | apply Jbq | apply Jbr | apply Jbs | apply Jbt | apply Jbu | apply Jbv | apply Jbw | apply Jbx | apply Jby | apply Jbz | apply Jca | apply Jcb | apply Jcc | (refine Jcd rfl ?_) | (refine Jce rfl ?_) | (refine Jcf rfl ?_) | (apply Jcg; (first | exact Jbm rfl rfl | exact Jbn Us.h rfl rfl | exact Jbo rfl rfl | exact Jaa rfl | exact Jab rfl | exact Jad rfl rfl | exact Jaj rfl | exact Jal rfl rfl | exact Jat rfl rfl | exact Jav Us.h rfl rfl | (apply Jbl; exact Us.h; exact rfl; exact Sz.h; exact rfl)); exact rfl) | refine Jch rfl rfl rfl ?_ | refine Jci rfl rfl rfl rfl rfl ?_ | refine Jcj rfl rfl rfl rfl ?_ | refine Jcg (Pu_load Fl.h rfl (fun _ e => by rw [e]; exact hbk.ld rfl)) rfl ?_ | (refine Jcs rfl rfl (fun hb => ?_) (fun hb => ?_) <;> (try (exfalso; omega))) | (refine Jct rfl rfl (fun hb => ?_) (fun hb => ?_) <;> (try (exfalso; omega))) | refine Jcr rfl rfl (fun hb => ?_) (fun hb => ?_) | (refine Jcx rfl (fun hb => ?_) (fun hb => ?_) <;> (try (exfalso; omega))) | (refine Jcy rfl (fun hb => ?_) (fun hb => ?_) <;> (try (exfalso; omega))) | refine Jcz rfl (fun hb => ?_) (fun hb => ?_))
  refine TL_call rfl en87 (szE_k (h.2.ext E) hf.2.1 (by omega) (by omega) hf.2.2) rfl rfl ?_
  rintro _ w3 ⟨hv, e3⟩
  replace E := E.ext e3
  rcases hv with rfl | ⟨rfl, hle2⟩
  · repeat' (first | apply Jbq | apply Jbr | apply Jbs | apply Jbt | apply Jbu | apply Jbv | apply Jbw | apply Jbx | apply Jby | apply Jbz | apply Jca | apply Jcb | apply Jcc | (refine Jcd rfl ?_) | (refine Jce rfl ?_) | (refine Jcf rfl ?_) | (apply Jcg; (first | exact Jbm rfl rfl | exact Jbn Us.h rfl rfl | exact Jbo rfl rfl | exact Jaa rfl | exact Jab rfl | exact Jad rfl rfl | exact Jaj rfl | exact Jal rfl rfl | exact Jat rfl rfl | exact Jav Us.h rfl rfl | (apply Jbl; exact Us.h; exact rfl; exact Sz.h; exact rfl)); exact rfl) | refine Jch rfl rfl rfl ?_ | refine Jci rfl rfl rfl rfl rfl ?_ | refine Jcj rfl rfl rfl rfl ?_ | (refine Jcs rfl rfl (fun hb => ?_) (fun hb => ?_) <;> (try (exfalso; omega))) | (refine Jct rfl rfl (fun hb => ?_) (fun hb => ?_) <;> (try (exfalso; omega))) | refine Jcr rfl rfl (fun hb => ?_) (fun hb => ?_) | (refine Jcx rfl (fun hb => ?_) (fun hb => ?_) <;> (try (exfalso; omega))) | (refine Jcy rfl (fun hb => ?_) (fun hb => ?_) <;> (try (exfalso; omega))) | refine Jcz rfl (fun hb => ?_) (fun hb => ?_))
    exact TR_of (res1 rfl rfl) ⟨.inl rfl, E⟩
  repeat' (first | apply Jbq | apply Jbr | apply Jbs | apply Jbt | apply Jbu | apply Jbv | apply Jbw | apply Jbx | apply Jby | apply Jbz | apply Jca | apply Jcb | apply Jcc | (refine Jcd rfl ?_) | (refine Jce rfl ?_) | (refine Jcf rfl ?_) | (apply Jcg; (first | exact Jbm rfl rfl | exact Jbn Us.h rfl rfl | exact Jbo rfl rfl | exact Jaa rfl | exact Jab rfl | exact Jad rfl rfl | exact Jaj rfl | exact Jal rfl rfl | exact Jat rfl rfl | exact Jav Us.h rfl rfl | (apply Jbl; exact Us.h; exact rfl; exact Sz.h; exact rfl)); exact rfl) | refine Jch rfl rfl rfl ?_ | refine Jci rfl rfl rfl rfl rfl ?_ | refine Jcj rfl rfl rfl rfl ?_ | (refine Jcs rfl rfl (fun hb => ?_) (fun hb => ?_) <;> (try (exfalso; omega))) | (refine Jct rfl rfl (fun hb => ?_) (fun hb => ?_) <;> (try (exfalso; omega))) | refine Jcr rfl rfl (fun hb => ?_) (fun hb => ?_) | (refine Jcx rfl (fun hb => ?_) (fun hb => ?_) <;> (try (exfalso; omega))) | (refine Jcy rfl (fun hb => ?_) (fun hb => ?_) <;> (try (exfalso; omega))) | refine Jcz rfl (fun hb => ?_) (fun hb => ?_))
  exact TR_of (res1 rfl rfl) ⟨.inr ⟨congrArg I (by unfold totS; omega), by unfold totS; omega⟩, E⟩
set_option maxHeartbeats 2000000 in
theorem toStore_c {w : World} {lo hi : Nat} {s : StoreP} {sn sk st sl : Value} (h : RSt w lo hi s sn sk st sl) (hl : totS s ≤ 1048576) :
    Ret Try.prog 33 #[.agg (stoC s sn sk st sl).toArray] w fun v' w' => ∃ sn' sk' st' sl', v' = .agg (stoC s sn' sk' st' sl').toArray ∧ Ext w w' ∧ RSt w' w.heap.size w'.heap.size s sn' sk' st' sl' := by
  obtain ⟨l1, l2⟩ := totS_parts hl
  refine Ret_enter Try.func33 rfl rfl rfl ?_
  repeat' (first | apply Jbq | apply Jbr | apply Jbs | apply Jbt | apply Jbu | apply Jbv | apply Jbw | apply Jbx | apply Jby | apply Jbz | apply Jca | apply Jcb | apply Jcc | (refine Jcd rfl ?_) | (refine Jce rfl ?_) | (refine Jcf rfl ?_) | (apply Jcg; (first | exact Jaa rfl | exact Jab rfl | exact Jad rfl rfl | exact Jaj rfl | exact Jal rfl rfl | exact Jat rfl rfl | exact Jav Us.h rfl rfl | (apply Jbl; exact Us.h; exact rfl; exact Sz.h; exact rfl)); exact rfl) | refine Jch rfl rfl rfl ?_ | refine Jci rfl rfl rfl rfl rfl ?_ | refine Jcj rfl rfl rfl rfl ?_)
  refine TL_box (cs := stoC s sn sk st sl) rfl rfl ?_
  intro w1 g1 e1 hg1 hz1 hb1
  repeat' (first | apply Jbq | apply Jbr | apply Jbs | apply Jbt | apply Jbu | apply Jbv | apply Jbw | apply Jbx | apply Jby | apply Jbz | apply Jca | apply Jcb | apply Jcc | (refine Jcd rfl ?_) | (refine Jce rfl ?_) | (refine Jcf rfl ?_) | (apply Jcg; (first | exact Jaa rfl | exact Jab rfl | exact Jad rfl rfl | exact Jaj rfl | exact Jal rfl rfl | exact Jat rfl rfl | exact Jav Us.h rfl rfl | (apply Jbl; exact Us.h; exact rfl; exact Sz.h; exact rfl)); exact rfl) | refine Jch rfl rfl rfl ?_ | refine Jci rfl rfl rfl rfl rfl ?_ | refine Jcj rfl rfl rfl rfl ?_)
  refine TL_alloc Zs.h rfl rfl ?_
  intro w2 g2 e2 hg2 hz2 hb2
  replace hb1 := hb1.ext e2
  repeat' (first | apply Jbq | apply Jbr | apply Jbs | apply Jbt | apply Jbu | apply Jbv | apply Jbw | apply Jbx | apply Jby | apply Jbz | apply Jca | apply Jcb | apply Jcc | (refine Jcd rfl ?_) | (refine Jce rfl ?_) | (refine Jcf rfl ?_) | (apply Jcg; (first | exact Jaa rfl | exact Jab rfl | exact Jad rfl rfl | exact Jaj rfl | exact Jal rfl rfl | exact Jat rfl rfl | exact Jav Us.h rfl rfl | (apply Jbl; exact Us.h; exact rfl; exact Sz.h; exact rfl)); exact rfl) | refine Jch rfl rfl rfl ?_ | refine Jci rfl rfl rfl rfl rfl ?_ | refine Jcj rfl rfl rfl rfl ?_)
  refine TL_alloc Zs.h rfl rfl ?_
  intro w3 g3 e3 hg3 hz3 hb3
  replace hb1 := hb1.ext e3
  replace hb2 := hb2.ext e3
  have E : Ext w w3 := (e1.ext e2).ext e3
  have hgw : w.heap.size ≤ g1 ∧ g1 < g2 ∧ g2 < g3 ∧ g3 < w3.heap.size := by omega
  clear hg1 hg2 hg3 e1 e2 e3 hz1 hz2 hz3
  repeat' (first | apply Jbq | apply Jbr | apply Jbs | apply Jbt | apply Jbu | apply Jbv | apply Jbw | apply Jbx | apply Jby | apply Jbz | apply Jca | apply Jcb | apply Jcc | (refine Jcd rfl ?_) | (refine Jce rfl ?_) | (refine Jcf rfl ?_) | (apply Jcg; (first | exact Jaa rfl | exact Jab rfl | exact Jad rfl rfl | exact Jaj rfl | exact Jal rfl rfl | exact Jat rfl rfl | exact Jav Us.h rfl rfl | (apply Jbl; exact Us.h; exact rfl; exact Sz.h; exact rfl)); exact rfl) | refine Jch rfl rfl rfl ?_ | refine Jci rfl rfl rfl rfl rfl ?_ | refine Jcj rfl rfl rfl rfl ?_ | refine Jcg (Pu_loadAgg (cs := dskC s.disk sn sk st) Us.h rfl Sz.h rfl (fun _ e j u hu => blk_disk hb1 e j u hu)) rfl ?_)
  refine TL_call rfl en17 (toDisk_c (h.1.ext E) l1) rfl rfl ?_
  rintro _ w4 ⟨sn2, sk2, st2, rfl, e4, ho4⟩
  replace hb1 := hb1.ext e4
  replace hb2 := hb2.ext e4
  replace hb3 := hb3.ext e4
  have hs3 := E.size
  have hs4 := e4.size
  replace E := E.ext e4
  repeat' (first | apply Jbq | apply Jbr | apply Jbs | apply Jbt | apply Jbu | apply Jbv | apply Jbw | apply Jbx | apply Jby | apply Jbz | apply Jca | apply Jcb | apply Jcc | (refine Jcd rfl ?_) | (refine Jce rfl ?_) | (refine Jcf rfl ?_) | (apply Jcg; (first | exact Jaa rfl | exact Jab rfl | exact Jad rfl rfl | exact Jaj rfl | exact Jal rfl rfl | exact Jat rfl rfl | exact Jav Us.h rfl rfl | (apply Jbl; exact Us.h; exact rfl; exact Sz.h; exact rfl)); exact rfl) | refine Jch rfl rfl rfl ?_ | refine Jci rfl rfl rfl rfl rfl ?_ | refine Jcj rfl rfl rfl rfl ?_)
  refine TL_storeBlk (off := 0) rfl (add0 _ 0) rfl Sz.h ho4.one hb3 (by simp [dskC]) ?_
  clear hb3
  intro w5 c5 hz5 hb3
  replace hb1 := hb1.ch c5 (by simp only [Iv]; omega)
  replace hb2 := hb2.ch c5 (by simp only [Iv]; omega)
  replace ho4 := ho4.ch c5 (by intro k _ _; simp only [Iv]; omega)
  replace E : Ext w w5 := Ext.then_iv E c5 (by omega)
  repeat' (first | apply Jbq | apply Jbr | apply Jbs | apply Jbt | apply Jbu | apply Jbv | apply Jbw | apply Jbx | apply Jby | apply Jbz | apply Jca | apply Jcb | apply Jcc | (refine Jcd rfl ?_) | (refine Jce rfl ?_) | (refine Jcf rfl ?_) | (apply Jcg; (first | exact Jaa rfl | exact Jab rfl | exact Jad rfl rfl | exact Jaj rfl | exact Jal rfl rfl | exact Jat rfl rfl | exact Jav Us.h rfl rfl | (apply Jbl; exact Us.h; exact rfl; exact Sz.h; exact rfl)); exact rfl) | refine Jch rfl rfl rfl ?_ | refine Jci rfl rfl rfl rfl rfl ?_ | refine Jcj rfl rfl rfl rfl ?_ | refine Jcg (Pu_load Fl.h rfl (fun _ e => by rw [e]; exact hb1.ld rfl)) rfl ?_)
  refine TL_store rfl rfl Sz.h rfl hb3 rfl ?_
  clear hb3
  intro w6 c6 hz6 hb3
  replace hb1 := hb1.ch c6 (by simp only [Iv]; omega)
  replace hb2 := hb2.ch c6 (by simp only [Iv]; omega)
  replace ho4 := ho4.ch c6 (by intro k _ _; simp only [Iv]; omega)
  replace E : Ext w w6 := Ext.then_iv E c6 (by omega)
  repeat' (first | apply Jbq | apply Jbr | apply Jbs | apply Jbt | apply Jbu | apply Jbv | apply Jbw | apply Jbx | apply Jby | apply Jbz | apply Jca | apply Jcb | apply Jcc | (refine Jcd rfl ?_) | (refine Jce rfl ?_) | (refine Jcf rfl ?_) | (apply Jcg; (first | exact Jaa rfl | exact Jab rfl | exact Jad rfl rfl | exact Jaj rfl | exact Jal rfl rfl | exact Jat rfl rfl | exact Jav Us.h rfl rfl | (apply Jbl; exact Us.h; exact rfl; exact Sz.h; exact rfl)); exact rfl) | refine Jch rfl rfl rfl ?_ | refine Jci rfl rfl rfl rfl rfl ?_ | refine Jcj rfl rfl rfl rfl ?_ | refine Jcg (Pu_load Fl.h rfl (fun _ e => by rw [e]; exact hb1.ld rfl)) rfl ?_)
  refine TL_store rfl rfl Sz.h rfl hb3 rfl ?_
  clear hb3
  intro w7 c7 hz7 hb3
  replace hb1 := hb1.ch c7 (by simp only [Iv]; omega)
  replace hb2 := hb2.ch c7 (by simp only [Iv]; omega)
  replace ho4 := ho4.ch c7 (by intro k _ _; simp only [Iv]; omega)
  replace E : Ext w w7 := Ext.then_iv E c7 (by omega)
  repeat' (first | apply Jbq | apply Jbr | apply Jbs | apply Jbt | apply Jbu | apply Jbv | apply Jbw | apply Jbx | apply Jby | apply Jbz | apply Jca | apply Jcb | apply Jcc | (refine Jcd rfl ?_) | (refine Jce rfl ?_) | (refine Jcf rfl ?_) | (apply Jcg; (first | exact Jaa rfl | exact Jab rfl | exact Jad rfl rfl | exact Jaj rfl | exact Jal rfl rfl | exact Jat rfl rfl | exact Jav Us.h rfl rfl | (apply Jbl; exact Us.h; exact rfl; exact Sz.h; exact rfl)); exact rfl) | refine Jch rfl rfl rfl ?_ | refine Jci rfl rfl rfl rfl rfl ?_ | refine Jcj rfl rfl rfl rfl ?_ | refine Jcg (Pu_load Fl.h rfl (fun _ e => by rw [e]; exact hb1.ld rfl)) rfl ?_)
  refine TL_call rfl en91 (toE_k (h.2.ext E) l2) rfl rfl ?_
  intro sl2 w8 ⟨e8, ho8⟩
  replace hb1 := hb1.ext e8
  replace hb2 := hb2.ext e8
  replace hb3 := hb3.ext e8
  replace ho4 := ho4.ext e8
  have ho8 := ho8.rd
  have hs7 := E.size
  have hs8 := e8.size
  replace E := E.ext e8
  repeat' (first | apply Jbq | apply Jbr | apply Jbs | apply Jbt | apply Jbu | apply Jbv | apply Jbw | apply Jbx | apply Jby | apply Jbz | apply Jca | apply Jcb | apply Jcc | (refine Jcd rfl ?_) | (refine Jce rfl ?_) | (refine Jcf rfl ?_) | (apply Jcg; (first | exact Jaa rfl | exact Jab rfl | exact Jad rfl rfl | exact Jaj rfl | exact Jal rfl rfl | exact Jat rfl rfl | exact Jav Us.h rfl rfl | (apply Jbl; exact Us.h; exact rfl; exact Sz.h; exact rfl)); exact rfl) | refine Jch rfl rfl rfl ?_ | refine Jci rfl rfl rfl rfl rfl ?_ | refine Jcj rfl rfl rfl rfl ?_)
  refine TL_store rfl rfl Sz.h ho8.one hb3 rfl ?_
  clear hb3
  intro w9 c9 hz9 hb3
  replace hb1 := hb1.ch c9 (by simp only [Iv]; omega)
  replace hb2 := hb2.ch c9 (by simp only [Iv]; omega)
  replace ho4 := ho4.ch c9 (by intro k _ _; simp only [Iv]; omega)
  replace ho8 := ho8.ch c9 (by intro k _ _; simp only [Iv]; omega)
  replace E : Ext w w9 := Ext.then_iv E c9 (by omega)
  repeat' (first | apply Jbq | apply Jbr | apply Jbs | apply Jbt | apply Jbu | apply Jbv | apply Jbw | apply Jbx | apply Jby | apply Jbz | apply Jca | apply Jcb | apply Jcc | (refine Jcd rfl ?_) | (refine Jce rfl ?_) | (refine Jcf rfl ?_) | (apply Jcg; (first | exact Jaa rfl | exact Jab rfl | exact Jad rfl rfl | exact Jaj rfl | exact Jal rfl rfl | exact Jat rfl rfl | exact Jav Us.h rfl rfl | (apply Jbl; exact Us.h; exact rfl; exact Sz.h; exact rfl)); exact rfl) | refine Jch rfl rfl rfl ?_ | refine Jci rfl rfl rfl rfl rfl ?_ | refine Jcj rfl rfl rfl rfl ?_ | refine Jcg (Pu_load Fl.h rfl (fun _ e => by rw [e]; exact hb1.ld rfl)) rfl ?_)
  refine TL_store rfl rfl Sz.h rfl hb3 rfl ?_
  clear hb3
  intro w10 c10 hz10 hb3
  replace hb2 := hb2.ch c10 (by simp only [Iv]; omega)
  replace ho4 := ho4.ch c10 (by intro k _ _; simp only [Iv]; omega)
  replace ho8 := ho8.ch c10 (by intro k _ _; simp only [Iv]; omega)
  replace E : Ext w w10 := Ext.then_iv E c10 (by omega)
  repeat' (first | apply Jbq | apply Jbr | apply Jbs | apply Jbt | apply Jbu | apply Jbv | apply Jbw | apply Jbx | apply Jby | apply Jbz | apply Jca | apply Jcb | apply Jcc | (refine Jcd rfl ?_) | (refine Jce rfl ?_) | (refine Jcf rfl ?_) | (apply Jcg; (first | exact Jaa rfl | exact Jab rfl | exact Jad rfl rfl | exact Jaj rfl | exact Jal rfl rfl | exact Jat rfl rfl | exact Jav Us.h rfl rfl | (apply Jbl; exact Us.h; exact rfl; exact Sz.h; exact rfl)); exact rfl) | refine Jch rfl rfl rfl ?_ | refine Jci rfl rfl rfl rfl rfl ?_ | refine Jcj rfl rfl rfl rfl ?_)
  refine Jcg (Pu_loadAgg (cs := stoC s sn2 sk2 st2 sl2) Us.h rfl Sz.h rfl (fun _ e j u hu => by rw [e, add0, hb3.cell]; exact hu)) rfl ?_
  repeat' (first | apply Jbq | apply Jbr | apply Jbs | apply Jbt | apply Jbu | apply Jbv | apply Jbw | apply Jbx | apply Jby | apply Jbz | apply Jca | apply Jcb | apply Jcc | (refine Jcd rfl ?_) | (refine Jce rfl ?_) | (refine Jcf rfl ?_) | (apply Jcg; (first | exact Jaa rfl | exact Jab rfl | exact Jad rfl rfl | exact Jaj rfl | exact Jal rfl rfl | exact Jat rfl rfl | exact Jav Us.h rfl rfl | (apply Jbl; exact Us.h; exact rfl; exact Sz.h; exact rfl)); exact rfl) | refine Jch rfl rfl rfl ?_ | refine Jci rfl rfl rfl rfl rfl ?_ | refine Jcj rfl rfl rfl rfl ?_)
  refine TL_storeAgg rfl rfl Sz.h (by show ((stoC s sn2 sk2 st2 sl2).all (·.oneCell')) = true; simp only [stoC, List.all_cons, List.all_nil, ho4.1.one, ho4.2.1.one, ho4.2.2.one, ho8.one]; rfl) hb2 rfl ?_
  clear hb2
  intro w11 c11 hz11 hb2
  replace ho4 := ho4.ch c11 (by intro k _ _; simp only [Iv]; omega)
  replace ho8 := ho8.ch c11 (by intro k _ _; simp only [Iv]; omega)
  repeat' (first | apply Jbq | apply Jbr | apply Jbs | apply Jbt | apply Jbu | apply Jbv | apply Jbw | apply Jbx | apply Jby | apply Jbz | apply Jca | apply Jcb | apply Jcc | (refine Jcd rfl ?_) | (refine Jce rfl ?_) | (refine Jcf rfl ?_) | (apply Jcg; (first | exact Jaa rfl | exact Jab rfl | exact Jad rfl rfl | exact Jaj rfl | exact Jal rfl rfl | exact Jat rfl rfl | exact Jav Us.h rfl rfl | (apply Jbl; exact Us.h; exact rfl; exact Sz.h; exact rfl)); exact rfl) | refine Jch rfl rfl rfl ?_ | refine Jci rfl rfl rfl rfl rfl ?_ | refine Jcj rfl rfl rfl rfl ?_)
  exact TR_of (resA rfl rfl hb2 Us.h rfl Sz.h) ⟨sn2, sk2, st2, sl2, rfl, Ext.then_iv E c11 (by omega), ho4.wide (by omega) (by omega) (Nat.le_refl _), ho8.wide (by omega) (by omega) (Nat.le_refl _)⟩
set_option maxHeartbeats 1000000 in
theorem eqStore_c {w : World} {lo hi lo2 hi2 : Nat} {s : StoreP} {sn sk st sl sn2 sk2 st2 sl2 : Value} (h : RSt w lo hi s sn sk st sl) (h2 : RSt w lo2 hi2 s sn2 sk2 st2 sl2) (hl : totS s ≤ 1048576) :
    Ret Try.prog 35 #[.agg (stoC s sn sk st sl).toArray, .agg (stoC s sn2 sk2 st2 sl2).toArray] w fun v' w' => v' = .bool true ∧ Ext w w' := by
  obtain ⟨l1, l2⟩ := totS_parts hl
  refine Ret_enter Try.func35 rfl rfl rfl ?_
  repeat' (first | apply Jbq | apply Jbr | apply Jbs | apply Jbt | apply Jbu | apply Jbv | apply Jbw | apply Jbx | apply Jby | apply Jbz | apply Jca | apply Jcb | apply Jcc | (refine Jcd rfl ?_) | (refine Jce rfl ?_) | (refine Jcf rfl ?_) | (apply Jcg; (first | exact Jaa rfl | exact Jab rfl | exact Jad rfl rfl | exact Jaj rfl | exact Jal rfl rfl | exact Jat rfl rfl | exact Jav Us.h rfl rfl | (apply Jbl; exact Us.h; exact rfl; exact Sz.h; exact rfl)); exact rfl) | refine Jch rfl rfl rfl ?_ | refine Jci rfl rfl rfl rfl rfl ?_ | refine Jcj rfl rfl rfl rfl ?_)
  refine TL_box (cs := stoC s sn sk st sl) rfl rfl ?_
  intro w1 g1 e1 hg1 hz1 hb1
  repeat' (first | apply Jbq | apply Jbr | apply Jbs | apply Jbt | apply Jbu | apply Jbv | apply Jbw | apply Jbx | apply Jby | apply Jbz | apply Jca | apply Jcb | apply Jcc | (refine Jcd rfl ?_) | (refine Jce rfl ?_) | (refine Jcf rfl ?_) | (apply Jcg; (first | exact Jaa rfl | exact Jab rfl | exact Jad rfl rfl | exact Jaj rfl | exact Jal rfl rfl | exact Jat rfl rfl | exact Jav Us.h rfl rfl | (apply Jbl; exact Us.h; exact rfl; exact Sz.h; exact rfl)); exact rfl) | refine Jch rfl rfl rfl ?_ | refine Jci rfl rfl rfl rfl rfl ?_ | refine Jcj rfl rfl rfl rfl ?_)
  refine TL_box (cs := stoC s sn2 sk2 st2 sl2) rfl rfl ?_
  intro w2 g2 e2 hg2 hz2 hb2
  replace hb1 := hb1.ext e2
  have E := e1.ext e2
  repeat' (first | apply Jbq | apply Jbr | apply Jbs | apply Jbt | apply Jbu | apply Jbv | apply Jbw | apply Jbx | apply Jby | apply Jbz | apply Jca | apply Jcb | apply Jcc | (refine Jcd rfl ?_) | (refine Jce rfl ?_) | (refine Jcf rfl ?_) | (apply Jcg; (first | exact Jbm rfl rfl | exact Jbn Us.h rfl rfl | exact Jbo rfl rfl | exact Jaa rfl | exact Jab rfl | exact Jad rfl rfl | exact Jaj rfl | exact Jal rfl rfl | exact Jat rfl rfl | exact Jav Us.h rfl rfl | (apply Jbl; exact Us.h; exact rfl; exact Sz.h; exact rfl)); exact rfl) | refine Jch rfl rfl rfl ?_ | refine Jci rfl rfl rfl rfl rfl ?_ | refine Jcj rfl rfl rfl rfl ?_ | refine Jcg (Pu_loadAgg (cs := dskC s.disk sn sk st) Us.h rfl Sz.h rfl (fun _ e j u hu => blk_disk hb1 e j u hu)) rfl ?_ | refine Jcg (Pu_loadAgg (cs := dskC s.disk sn2 sk2 st2) Us.h rfl Sz.h rfl (fun _ e j u hu => blk_disk hb2 e j u hu)) rfl ?_ | (refine Jcs rfl rfl (fun hb => ?_) (fun hb => ?_) <;> (try (exfalso; omega))) | (refine Jct rfl rfl (fun hb => ?_) (fun hb => ?_) <;> (try (exfalso; omega))) | refine Jcr rfl rfl (fun hb => ?_) (fun hb => ?_) | (refine Jcx rfl (fun hb => ?_) (fun hb => ?_) <;> (try (exfalso; omega))) | (refine Jcy rfl (fun hb => ?_) (fun hb => ?_) <;> (try (exfalso; omega))) | refine Jcz rfl (fun hb => ?_) (fun hb => ?_))
  refine TL_call rfl en19 (eqDisk_c (h.1.ext E) (h2.1.ext E) l1) rfl rfl ?_
  rintro _ w3 ⟨rfl, e3⟩
  replace hb1 := hb1.ext e3
  replace hb2 := hb2.ext e3
  replace E := E.ext e3
  repeat' (first | apply Jbq | apply Jbr | apply Jbs | apply Jbt | apply Jbu | apply Jbv | apply Jbw | apply Jbx | apply Jby | apply Jbz | apply Jca | apply Jcb | apply Jcc | (refine Jcd rfl ?_) | (refine Jce rfl ?_) | (refine Jcf rfl ?_) | (apply Jcg; (first | exact Jbm rfl rfl | exact Jbn Us.h rfl rfl | exact Jbo rfl rfl | exact Jaa rfl | exact Jab rfl | exact Jad rfl rfl | exact Jaj rfl | exact Jal rfl rfl | exact Jat rfl rfl | exact Jav Us.h rfl rfl | (apply Jbl; exact Us.h; exact rfl; exact Sz.h; exact rfl)); exact rfl) | refine Jch rfl rfl rfl ?_ | refine Jci rfl rfl rfl rfl rfl ?_ | refine Jcj rfl rfl rfl rfl ?_ | refine Jcg (Pu_load Fl.h rfl (fun _ e => by rw [e]; exact hb1.ld rfl)) rfl ?_ | refine Jcg (Pu_load Fl.h rfl (fun _ e => by rw [e]; exact hb2.ld rfl)) rfl ?_ | (refine Jcs rfl rfl (fun hb => ?_) (fun hb => ?_) <;> (try (exfalso; omega))) | (refine Jct rfl rfl (fun hb => ?_) (fun hb => ?_) <;> (try (exfalso; omega))) | refine Jcr rfl rfl (fun hb => ?_) (fun hb => ?_) | (refine Jcx rfl (fun hb => ?_) (fun hb => ?_) <;> (try (exfalso; omega))) | (refine Jcy rfl (fun hb => ?_) (fun hb => ?_) <;> (try (exfalso; omega))) | refine Jcz rfl (fun hb => ?_) (fun hb => ?_))
  refine TL_call rfl en38 (eqE_k (h.2.ext E) (h2.2.ext E) (by omega)) rfl rfl ?_
  rintro _ w4 ⟨rfl, e4⟩
  replace hb1 := hb1.ext e4
  replace hb2 := hb2.ext e4
  replace E := E.ext e4
  repeat' (first | apply Jbq | apply Jbr | apply Jbs | apply Jbt | apply Jbu | apply Jbv | apply Jbw | apply Jbx | apply Jby | apply Jbz | apply Jca | apply Jcb | apply Jcc | (refine Jcd rfl ?_) | (refine Jce rfl ?_) | (refine Jcf rfl ?_) | (apply Jcg; (first | exact Jbm rfl rfl | exact Jbn Us.h rfl rfl | exact Jbo rfl rfl | exact Jaa rfl | exact Jab rfl | exact Jad rfl rfl | exact Jaj rfl | exact Jal rfl rfl | exact Jat rfl rfl | exact Jav Us.h rfl rfl | (apply Jbl; exact Us.h; exact rfl; exact Sz.h; exact rfl)); exact rfl) | refine Jch rfl rfl rfl ?_ | refine Jci rfl rfl rfl rfl rfl ?_ | refine Jcj rfl rfl rfl rfl ?_ | refine Jcg (Pu_load Fl.h rfl (fun _ e => by rw [e]; exact hb1.ld rfl)) rfl ?_ | refine Jcg (Pu_load Fl.h rfl (fun _ e => by rw [e]; exact hb2.ld rfl)) rfl ?_ | (refine Jcs rfl rfl (fun hb => ?_) (fun hb => ?_) <;> (try (exfalso; omega))) | (refine Jct rfl rfl (fun hb => ?_) (fun hb => ?_) <;> (try (exfalso; omega))) | refine Jcr rfl rfl (fun hb => ?_) (fun hb => ?_) | (refine Jcx rfl (fun hb => ?_) (fun hb => ?_) <;> (try (exfalso; omega))) | (refine Jcy rfl (fun hb => ?_) (fun hb => ?_) <;> (try (exfalso; omega))) | refine Jcz rfl (fun hb => ?_) (fun hb => ?_))
  exact TR_of (res1 rfl rfl) ⟨rfl, E⟩
end Go.Proofs.Ytmkmphdfpghjbaa
