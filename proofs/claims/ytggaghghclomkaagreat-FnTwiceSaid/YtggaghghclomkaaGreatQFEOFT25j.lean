/- Texts of this proof laid together, in the order in which they build; what each proves stands ahead of it. No condition but those told there. -/
import Derived.Test.YtggaghghclomkaaGreatQFEOFT25i
import Derived.Laws.StructEq

/- Stores that can be read, and the laws' helpers on them. -/
namespace Go.Proofs.YtggaghghclomkaaGreat
open Go.RowKit
attribute [local irreducible] TL TC TN TX TR TQ TA Pu Ret

theorem Blk.storedL {g : Nat} {tb : TypeId} : ∀ (us : List Value) (off : Nat) (w : World) (cs : List Value), Blk w g tb cs → Blk (w.setCells g off us) g tb (setL cs off us) ∧ Ch (Iv g (g + 1)) w (w.setCells g off us) ∧ (w.setCells g off us).heap.size = w.heap.size
  | [], off, w, cs, h => ⟨h, Ch.refl _ _, rfl⟩
  | v :: r, off, w, cs, h => by
    have h1 : Blk (w.setCell ⟨g, off, none⟩ v) g tb (cs.set off v) := by
      unfold Blk
      rw [heap_setCell_same w g off cs.toArray tb v h]
      simp
    have c1 : Ch (Iv g (g + 1)) w (w.setCell ⟨g, off, none⟩ v) := ⟨rfl, rfl, rfl, by simp, fun k _ hk => heap_setCell_other w ⟨g, off, none⟩ k v (fun e => hk (by simp [Iv, e]))⟩
    obtain ⟨h2, c2, z2⟩ := Blk.storedL r (off + 1) _ _ h1
    exact ⟨h2, c1.then c2, by rw [show (w.setCells g off (v :: r)) = (w.setCell ⟨g, off, none⟩ v).setCells g (off + 1) r from rfl, z2]; simp⟩
section
variable {P : Program} {L : List Oper} {Q : Exit → Act → World → Prop} {n : Nat} {l : Env} {w : World} {rest : List Oper} {ty t : TypeId} {pos : String} {af : Array Edge} {x y : Operand}
/-- A value of several cells goes into a part of a block. -/
theorem TL_storeBlk {g off : Nat} {tb : TypeId} {cs us : List Value} {ad : Addr} (hx : ev l x = some (.pointer (some ad))) (had : ad = ⟨g, off, none⟩) (hy : ev l y = some (.agg us.toArray)) (hz : (P.info? t).map (·.size) = some us.length) (hv : us.all (·.oneCell') = true)
    (hb : Blk w g tb cs) (hoff : off + us.length ≤ cs.length)
    (h : ∀ w', Ch (Iv g (g + 1)) w w' → w'.heap.size = w.heap.size → Blk w' g tb (setL cs off us) → TL P L Q rest n l w') :
    TL P L Q (⟨none, .store t x y, ty, pos, af, none⟩ :: rest) n l w := by
  subst had
  obtain ⟨h1, h2, h3⟩ := Blk.storedL us off w cs hb
  refine TL_skipped (w' := w.setCells g off us) rfl rfl (fun a ha => ?_) (h _ h2 h3 h1)
  have := run_storeAt_mid (P := P) w g off t us.toArray (fun j hj => ⟨by rw [hb.cell (off + j), List.getElem?_eq_getElem (by simp at hj; omega)]; rfl, hb.frozen _⟩) (by simpa using hz) (by simpa using hv)
  simp [execOp, ha.eval hx, ha.eval hy, this]
end
structure StoreP where
  disk : DiskP
  keep : Int
  size : Int
  list : List Ent
  len : Int
def stoC (s : StoreP) (sn sk st sl : Value) : List Value := [I s.disk.room, I s.disk.fuse, I s.disk.next, sn, sk, st, I s.keep, I s.size, sl, I s.len]
theorem stoC_disk {s : StoreP} {sn sk st sl : Value} {j : Nat} {u : Value} (h : (dskC s.disk sn sk st)[j]? = some u) : (stoC s sn sk st sl)[j]? = some u := by
  have hl : j < (dskC s.disk sn sk st).length := (List.getElem?_eq_some_iff.1 h).1
  rw [show stoC s sn sk st sl = dskC s.disk sn sk st ++ [I s.keep, I s.size, sl, I s.len] from rfl, List.getElem?_append_left hl, h]
def RSt (w : World) (lo hi : Nat) (s : StoreP) (sn sk st sl : Value) : Prop := RDk w lo hi s.disk sn sk st ∧ RE w lo hi sl s.list
def totS (s : StoreP) : Int := totD s.disk + (s.list.length + totE s.list)
def StoreP.fits (s : StoreP) : Prop := s.disk.fits ∧ s.list.length ≤ 9223372036854775807 ∧ ∀ d ∈ s.list, ((-9223372036854775808 ≤ d.1 ∧ d.1 ≤ 9223372036854775807) ∧ d.2.length ≤ 9223372036854775807)
theorem RE.wide {w : World} {lo hi lo' hi' : Nat} {v : Value} {l : List Ent} (h : RE w lo hi v l) (h1 : lo' ≤ lo) (h2 : hi ≤ hi') (h3 : hi' ≤ w.heap.size) : RE w lo' hi' v l := by
  obtain ⟨A, c, e, hc, hr⟩ := h
  exact ⟨A, c, e, hc, hr.wide h1 h2 h3⟩
theorem RE.one {w : World} {lo hi : Nat} {v : Value} {l : List Ent} (h : RE w lo hi v l) : v.oneCell' = true := by obtain ⟨A, c, rfl, _⟩ := h; rfl
theorem RSt.ch {w w' : World} {lo hi : Nat} {s : StoreP} {sn sk st sl : Value} {T : Nat → Prop} (h : RSt w lo hi s sn sk st sl) (c : Ch T w w') (hd : ∀ k, lo ≤ k → k < hi → ¬ T k) : RSt w' lo hi s sn sk st sl := ⟨h.1.ch c hd, h.2.ch c hd⟩
theorem RSt.ext {w w' : World} {lo hi : Nat} {s : StoreP} {sn sk st sl : Value} (h : RSt w lo hi s sn sk st sl) (c : Ext w w') : RSt w' lo hi s sn sk st sl := h.ch c (fun _ _ _ t => t)
theorem RSt.one {w : World} {lo hi : Nat} {s : StoreP} {sn sk st sl : Value} (h : RSt w lo hi s sn sk st sl) : (stoC s sn sk st sl).all (·.oneCell') = true := by
  simp only [stoC, List.all_cons, List.all_nil, h.1.1.one, h.1.2.1.one, h.1.2.2.one, h.2.one]; rfl
theorem totD_nn (d : DiskP) : 0 ≤ totD d := by
  have h1 := totNd_nn d.nodes
  have h2 := totLk_nn d.kept
  have h3 := totTn_nn d.turns
  unfold totD
  omega
theorem totS_parts {s : StoreP} (h : totS s ≤ 1048576) : totD s.disk ≤ 1048576 ∧ s.list.length ≤ 1048576 := by
  have h1 := totD_nn s.disk
  have h2 := totE_nn s.list
  unfold totS at h
  omega
theorem blk_disk {w w' : World} {g : Nat} {tb : TypeId} {s : StoreP} {sn sk st sl : Value} (hb : Blk w g tb (stoC s sn sk st sl)) (e : w' = w) (j : Nat) (u : Value) (hu : (dskC s.disk sn sk st)[j]? = some u) : w'.cell? (((⟨g, 0, none⟩ : Addr).add 0).add j) = some u := by
  rw [e, add_of_add, add0, Nat.zero_add, hb.cell]; exact stoC_disk hu
set_option maxHeartbeats 1000000 in
theorem eqStore_c {w : World} {lo hi lo2 hi2 : Nat} {s : StoreP} {sn sk st sl sn2 sk2 st2 sl2 : Value} (h : RSt w lo hi s sn sk st sl) (h2 : RSt w lo2 hi2 s sn2 sk2 st2 sl2) (hl : totS s ≤ 1048576) :
    Ret Tryz.prog 51 #[.agg (stoC s sn sk st sl).toArray, .agg (stoC s sn2 sk2 st2 sl2).toArray] w fun v' w' => v' = .bool true ∧ Ext w w' := by
  obtain ⟨l1, l2⟩ := totS_parts hl
  refine Ret_enter Tryz.func51 rfl rfl rfl ?_
  repeat' (first | apply Jbs | apply Jbt)
  refine TL_box (cs := stoC s sn sk st sl) rfl rfl ?_
  intro w1 g1 e1 hg1 hz1 hb1
  skip
  refine TL_box (cs := stoC s sn2 sk2 st2 sl2) rfl rfl ?_
  intro w2 g2 e2 hg2 hz2 hb2
  replace hb1 := hb1.ext e2
  have E := e1.ext e2
  repeat' (first | apply Jbq | apply Jbr | apply Jbs | apply Jbt | (apply Jcg; (first | exact Jab rfl | (apply Jbl; exact Us.h; exact rfl; exact Sz.h; exact rfl)); exact rfl) | refine Jcg (Pu_loadAgg (cs := dskC s.disk sn sk st) Us.h rfl Sz.h rfl (fun _ e j u hu => blk_disk hb1 e j u hu)) rfl ?_ | refine Jcg (Pu_loadAgg (cs := dskC s.disk sn2 sk2 st2) Us.h rfl Sz.h rfl (fun _ e j u hu => blk_disk hb2 e j u hu)) rfl ?_)
  refine TL_call rfl en16 (eqDisk_c (h.1.ext E) (h2.1.ext E) l1) rfl rfl ?_
  rintro _ w3 ⟨rfl, e3⟩
  replace hb1 := hb1.ext e3
  replace hb2 := hb2.ext e3
  replace E := E.ext e3
  repeat' (first | apply Jbq | apply Jbr | apply Jbs | apply Jbt | apply Jbz | (refine Jcf rfl ?_) | (apply Jcg; (first | exact Jbm rfl rfl | exact Jaj rfl | (apply Jbl; exact Us.h; exact rfl; exact Sz.h; exact rfl)); exact rfl) | refine Jcg (Pu_load Fl.h rfl (fun _ e => by rw [e]; exact hb1.ld rfl)) rfl ?_ | refine Jcg (Pu_load Fl.h rfl (fun _ e => by rw [e]; exact hb2.ld rfl)) rfl ?_)
  refine TL_call rfl en125 (eqE_k (h.2.ext E) (h2.2.ext E) (by omega)) rfl rfl ?_
  rintro _ w4 ⟨rfl, e4⟩
  replace hb1 := hb1.ext e4
  replace hb2 := hb2.ext e4
  replace E := E.ext e4
  repeat' (first | apply Jbq | apply Jbr | apply Jbs | apply Jbt | apply Jbu | apply Jbz | (refine Jcf rfl ?_) | (apply Jcg; (first | exact Jbm rfl rfl | exact Jab rfl | exact Jaj rfl | (apply Jbl; exact Us.h; exact rfl; exact Sz.h; exact rfl)); exact rfl) | refine Jcg (Pu_load Fl.h rfl (fun _ e => by rw [e]; exact hb1.ld rfl)) rfl ?_ | refine Jcg (Pu_load Fl.h rfl (fun _ e => by rw [e]; exact hb2.ld rfl)) rfl ?_)
  exact TR_of (res1 rfl rfl) ⟨rfl, E⟩
end Go.Proofs.YtggaghghclomkaaGreat

/- Contracts: whether a store is right; the entries of a disk. -/
namespace Go.Proofs.YtggaghghclomkaaGreat
open Go.RowKit
/-- What is asked of a store beside its parts. -/
def sTail (s : StoreP) : Prop := (pRead s.disk histT).2 = true ∧ (pLog s.list).2 = true ∧ (pRead s.disk histT).1 = (pLog s.list).1 ∧ s.len = ((pLog s.list).1.length : Int) ∧ (pRead s.disk tempT).2 = false
structure SOk (s : StoreP) : Prop where
  disk : DOk s.disk
  range : 1 ≤ s.keep ∧ s.keep ≤ 100 ∧ 0 ≤ s.size ∧ s.size ≤ 60000
  list : pEntries s.list = true
  tail : s.disk.fuse = 0 ∨ sTail s
open Classical in
noncomputable def pSOk (s : StoreP) : Bool := decide (SOk s)
open Classical in
theorem pSOk_yes {s : StoreP} (h : SOk s) : pSOk s = true := by unfold pSOk; exact decide_eq_true h
open Classical in
theorem pSOk_no {s : StoreP} (h : ¬ SOk s) : pSOk s = false := by unfold pSOk; exact decide_eq_false h
theorem pDOk_not {d : DiskP} (h : pDOk d = false) : ¬ DOk d := fun h2 => by rw [pDOk_yes h2] at h; cases h
attribute [local irreducible] TL TC TN TX TR TQ TA Pu Ret
theorem l06Range_c (k z : Int) (w : World) : Ret Tryz.prog 104 #[I k, I z] w fun v w' => v = .bool (decide (1 ≤ k ∧ k ≤ 100 ∧ 0 ≤ z ∧ z ≤ 60000)) ∧ w = w' := by
  refine Ret_enter Tryz.func104 rfl rfl rfl ?_
  repeat' (first | apply Jbq | apply Jbr | apply Jbs | apply Jbt | apply Jbu | (apply Jcg; (first | exact Jaa rfl | exact Jab rfl | exact Jah rfl rfl | exact Jai rfl rfl | exact Jan rfl rfl | exact Jao rfl rfl); exact rfl) | refine Jch rfl rfl rfl ?_ | refine Jci rfl rfl rfl rfl rfl ?_ | (refine Jcs rfl rfl (fun hb => ?_) (fun hb => ?_) <;> (try (exfalso; omega))))
  all_goals exact TR_of (res1 rfl rfl) ⟨by first | exact congrArg Value.bool (decide_eq_decide.2 (by omega)) | exact congrArg Value.bool (decide_eq_false (by omega)).symm | exact congrArg Value.bool (decide_eq_true (by omega)).symm, rfl⟩
set_option maxRecDepth 100000 in
set_option maxHeartbeats 8000000 in
theorem implStoreOk_c {w : World} {lo hi : Nat} {s : StoreP} {sn sk st sl : Value} (h : RSt w lo hi s sn sk st sl) (hf : s.fits) (hl : totS s ≤ 1048576) :
    Ret Tryz.prog 39 #[.agg (stoC s sn sk st sl).toArray] w fun v' w' => v' = .bool (pSOk s) ∧ Ext w w' := by
  obtain ⟨l1, l2⟩ := totS_parts hl
  refine Ret_enter Tryz.func39 rfl rfl rfl ?_
  repeat' (first | apply Jbs | apply Jbt)
  refine TL_box (cs := stoC s sn sk st sl) rfl rfl ?_
  intro w1 g E hg hz hbk
  clear hg hz
  repeat' (first | apply Jbq | apply Jbr | apply Jbs | apply Jbt | (apply Jcg; (first | exact Jab rfl | (apply Jbl; exact Us.h; exact rfl; exact Sz.h; exact rfl)); exact rfl) | refine Jcg (Pu_loadAgg (cs := dskC s.disk sn sk st) Us.h rfl Sz.h rfl (fun _ e j u hu => blk_disk hbk e j u hu)) rfl ?_)
  refine TL_call rfl en65 (implDiskOk_c (h.1.ext E) hf.1 l1) rfl rfl ?_
  rintro _ w2 ⟨rfl, e2⟩
  replace hbk := hbk.ext e2
  replace E := E.ext e2
  cases hp : pDOk s.disk with
  | false =>
    repeat' (first | apply Jbq | apply Jbr | apply Jbs | apply Jbt | apply Jbu | apply Jbv | (refine Jce rfl ?_) | (apply Jcg; (first | exact Jaa rfl | exact Jab rfl | exact Jah rfl rfl | exact Jaj rfl); exact rfl) | refine Jci rfl rfl rfl rfl rfl ?_)
    exact TR_of (res1 rfl rfl) ⟨by rw [pSOk_no (fun q => pDOk_not hp q.disk)], E⟩
  | true =>
    repeat' (first | apply Jbq | apply Jbr | apply Jbs | apply Jbt | apply Jbu | apply Jbv | (refine Jce rfl ?_) | (apply Jcg; (first | exact Jaa rfl | exact Jab rfl | exact Jah rfl rfl | exact Jai rfl rfl | exact Jaj rfl | (apply Jbl; exact Us.h; exact rfl; exact Sz.h; exact rfl)); exact rfl) | refine Jch rfl rfl rfl ?_ | refine Jci rfl rfl rfl rfl rfl ?_ | refine Jcg (Pu_load Fl.h rfl (fun _ e => by rw [e]; exact hbk.ld rfl)) rfl ?_ | (refine TL_call rfl en101 (in_d _ _ _ _) rfl rfl ?_; rintro _ _ ⟨rfl, rfl⟩) | (refine Jct rfl rfl (fun hb => ?_) (fun hb => ?_) <;> (try (exfalso; omega))))
    · exact TR_of (res1 rfl rfl) ⟨by rw [pSOk_no (fun q => by have := q.range; omega)], E⟩
    · exact TR_of (res1 rfl rfl) ⟨by rw [pSOk_no (fun q => by have := q.range; omega)], E⟩
    have hr : 1 ≤ s.keep ∧ s.keep ≤ 100 ∧ 0 ≤ s.size ∧ s.size ≤ 60000 := by omega
    refine TL_call rfl en109 (implEntriesOk_k (h.2.ext E) l2) rfl rfl ?_
    rintro _ w3 ⟨rfl, e3⟩
    replace hbk := hbk.ext e3
    replace E := E.ext e3
    cases he : pEntries s.list with
    | false =>
      repeat' (first | apply Jbq | apply Jbr | apply Jbs | apply Jbt | apply Jbu | apply Jbv | (refine Jce rfl ?_) | (apply Jcg; (first | exact Jab rfl | exact Jai rfl rfl | exact Jaj rfl); exact rfl) | refine Jch rfl rfl rfl ?_)
      exact TR_of (res1 rfl rfl) ⟨by rw [pSOk_no (fun q => by rw [q.list] at he; cases he)], E⟩
    | true =>
      repeat' (first | apply Jbq | apply Jbr | apply Jbs | apply Jbt | apply Jbz | (refine Jcf rfl ?_) | (apply Jcg; (first | exact Jai rfl rfl | exact Jaj rfl | exact Jak rfl rfl | (apply Jbl; exact Us.h; exact rfl; exact Sz.h; exact rfl)); exact rfl) | refine Jch rfl rfl rfl ?_ | refine Jcg (Pu_load Fl.h rfl (fun _ e => by rw [e]; exact hbk.ld rfl)) rfl ?_)
      refine Jcx rfl (fun hz => ?_) (fun hz => ?_)
      · repeat' (first | apply Jbq | apply Jbr | apply Jbs | apply Jbt | apply Jbu | apply Jbv | (apply Jcg; exact Jab rfl; exact rfl))
        exact TR_of (res1 rfl rfl) ⟨by rw [pSOk_yes ⟨pDOk_of hp, hr, he, .inl hz⟩], E⟩
      have hno : ¬ sTail s → pSOk s = false := fun hn => pSOk_no (fun q => q.tail.elim hz hn)
      have hyes : sTail s → pSOk s = true := fun ht => pSOk_yes ⟨pDOk_of hp, hr, he, .inr ht⟩
      repeat' (first | apply Jbr | apply Jbs | apply Jbt | apply Jbz | (apply Jcg; (apply Jbl; exact Us.h; exact rfl; exact Sz.h; exact rfl); exact rfl) | refine Jcg (Pu_loadAgg (cs := dskC s.disk sn sk st) Us.h rfl Sz.h rfl (fun _ e j u hu => blk_disk hbk e j u hu)) rfl ?_)
      refine TL_call rfl en37 (implDiskRead_c (s := histT) (h.1.ext E) hf.1 l1 (by decide)) rfl rfl ?_
      rintro _ w4 ⟨v4, rfl, e4, r4⟩
      replace hbk := hbk.ext e4
      replace E := E.ext e4
      repeat' (first | apply Jbq | apply Jbr | apply Jbs | apply Jbt | (apply Jcg; (first | exact Jaa rfl | exact Jab rfl | exact Jae rfl rfl | (apply Jbl; exact Us.h; exact rfl; exact Sz.h; exact rfl)); exact rfl) | refine Jcg (Pu_load Fl.h rfl (fun _ e => by rw [e]; exact hbk.ld rfl)) rfl ?_)
      refine TL_call rfl en110 (implLogBytes_k (h.2.ext E) l2) rfl rfl ?_
      rintro _ w5 ⟨v5, rfl, e5, r5⟩
      replace hbk := hbk.ext e5
      replace E := E.ext e5
      replace r4 := r4.ext e5
      repeat' (first | apply Jbq | apply Jbr | apply Jbs | apply Jbt | (apply Jcg; (first | exact Jaa rfl | exact Jab rfl | exact Jae rfl rfl | (apply Jbl; exact Us.h; exact rfl; exact Sz.h; exact rfl)); exact rfl) | refine Jcg (Pu_loadAgg (cs := dskC s.disk sn sk st) Us.h rfl Sz.h rfl (fun _ e j u hu => blk_disk hbk e j u hu)) rfl ?_)
      refine TL_call rfl en37 (implDiskRead_c (s := tempT) (h.1.ext E) hf.1 l1 (by decide)) rfl rfl ?_
      rintro _ w6 ⟨v6, rfl, e6, r6⟩
      replace hbk := hbk.ext e6
      replace E := E.ext e6
      replace r4 := r4.rd.ext e6
      replace r5 := r5.rd.ext e6
      obtain ⟨A4, c4, rfl, hc4, q4⟩ := r4
      obtain ⟨A5, c5, rfl, hc5, q5⟩ := r5
      have hpl := pRead_len s.disk histT l1
      clear r6
      unfold sTail at hno hyes
      cases h4 : (pRead s.disk histT).2 with
      | false =>
        have hno := hno (fun q => by rw [q.1] at h4; cases h4)
        repeat' (first | apply Jbq | apply Jbr | apply Jbs | apply Jbt | apply Jbu | (apply Jcg; (first | exact Jaa rfl | exact Jab rfl | exact Jae rfl rfl | exact Jai rfl rfl); exact rfl) | refine Jci rfl rfl rfl rfl rfl ?_)
        exact TR_of (res1 rfl rfl) ⟨by rw [hno], E⟩
      | true =>
        cases h5 : (pLog s.list).2 with
        | false =>
          have hno := hno (fun q => by rw [q.2.1] at h5; cases h5)
          repeat' (first | apply Jbq | apply Jbr | apply Jbs | apply Jbt | apply Jbu | (apply Jcg; (first | exact Jaa rfl | exact Jab rfl | exact Jae rfl rfl | exact Jah rfl rfl | exact Jai rfl rfl); exact rfl) | refine Jch rfl rfl rfl ?_ | refine Jci rfl rfl rfl rfl rfl ?_)
          exact TR_of (res1 rfl rfl) ⟨by rw [hno], E⟩
        | true =>
          by_cases hq : (pRead s.disk histT).1 = (pLog s.list).1
          · by_cases hn : s.len = ((pLog s.list).1.length : Int)
            · cases h6 : (pRead s.disk tempT).2 with
              | false =>
                have hyes := hyes ⟨h4, h5, hq, hn, h6⟩
                repeat' (first | apply Jbq | apply Jbr | apply Jbs | apply Jbt | apply Jbu | (apply Jcg; (first | exact Jaa rfl | exact Jab rfl | exact Jac Us.h rfl | exact Jae rfl rfl | exact Jah rfl rfl | exact Jai rfl rfl | exact Jaj rfl | exact Jak rfl rfl | exact Jas rfl rfl | (apply Jbl; exact Us.h; exact rfl; exact Sz.h; exact rfl)); exact rfl) | refine Jch rfl rfl rfl ?_ | refine Jci rfl rfl rfl rfl rfl ?_ | refine Jcg (Pu_load Fl.h rfl (fun _ e => by rw [e]; exact hbk.ld rfl)) rfl ?_ | refine Jcg (Pu_string Us.h Us.h Us.h rfl (fun w' e => by rw [e]; exact ⟨_, _, q4⟩)) rfl ?_ | refine Jcg (Pu_string Us.h Us.h Us.h rfl (fun w' e => by rw [e]; exact ⟨_, _, q5⟩)) rfl ?_ | (refine Jcs rfl rfl (fun hb => ?_) (fun hb => ?_) <;> (try (exfalso; omega))))
                all_goals first | exact absurd hq (by assumption) | exact TR_of (res1 rfl rfl) ⟨by rw [hyes]; rfl, E⟩
              | true =>
                have hno := hno (fun q => by rw [q.2.2.2.2] at h6; cases h6)
                repeat' (first | apply Jbq | apply Jbr | apply Jbs | apply Jbt | apply Jbu | (apply Jcg; (first | exact Jaa rfl | exact Jab rfl | exact Jac Us.h rfl | exact Jae rfl rfl | exact Jah rfl rfl | exact Jai rfl rfl | exact Jaj rfl | exact Jak rfl rfl | exact Jas rfl rfl | (apply Jbl; exact Us.h; exact rfl; exact Sz.h; exact rfl)); exact rfl) | refine Jch rfl rfl rfl ?_ | refine Jci rfl rfl rfl rfl rfl ?_ | refine Jcg (Pu_load Fl.h rfl (fun _ e => by rw [e]; exact hbk.ld rfl)) rfl ?_ | refine Jcg (Pu_string Us.h Us.h Us.h rfl (fun w' e => by rw [e]; exact ⟨_, _, q4⟩)) rfl ?_ | refine Jcg (Pu_string Us.h Us.h Us.h rfl (fun w' e => by rw [e]; exact ⟨_, _, q5⟩)) rfl ?_ | (refine Jcs rfl rfl (fun hb => ?_) (fun hb => ?_) <;> (try (exfalso; omega))))
                all_goals first | exact absurd hq (by assumption) | exact TR_of (res1 rfl rfl) ⟨by rw [hno]; rfl, E⟩
            · have hno := hno (fun q => hn q.2.2.2.1)
              repeat' (first | apply Jbq | apply Jbr | apply Jbs | apply Jbt | apply Jbu | (apply Jcg; (first | exact Jaa rfl | exact Jab rfl | exact Jac Us.h rfl | exact Jae rfl rfl | exact Jah rfl rfl | exact Jai rfl rfl | exact Jak rfl rfl | exact Jas rfl rfl | (apply Jbl; exact Us.h; exact rfl; exact Sz.h; exact rfl)); exact rfl) | refine Jch rfl rfl rfl ?_ | refine Jci rfl rfl rfl rfl rfl ?_ | refine Jcg (Pu_load Fl.h rfl (fun _ e => by rw [e]; exact hbk.ld rfl)) rfl ?_ | refine Jcg (Pu_string Us.h Us.h Us.h rfl (fun w' e => by rw [e]; exact ⟨_, _, q4⟩)) rfl ?_ | refine Jcg (Pu_string Us.h Us.h Us.h rfl (fun w' e => by rw [e]; exact ⟨_, _, q5⟩)) rfl ?_ | (refine Jcs rfl rfl (fun hb => ?_) (fun hb => ?_) <;> (try (exfalso; omega))))
              all_goals first | exact absurd hq (by assumption) | exact TR_of (res1 rfl rfl) ⟨by rw [hno], E⟩
          · have hno := hno (fun q => hq q.2.2.1)
            repeat' (first | apply Jbq | apply Jbr | apply Jbs | apply Jbt | apply Jbu | (apply Jcg; (first | exact Jaa rfl | exact Jab rfl | exact Jac Us.h rfl | exact Jae rfl rfl | exact Jah rfl rfl | exact Jai rfl rfl | exact Jaj rfl | exact Jak rfl rfl | exact Jas rfl rfl | (apply Jbl; exact Us.h; exact rfl; exact Sz.h; exact rfl)); exact rfl) | refine Jch rfl rfl rfl ?_ | refine Jci rfl rfl rfl rfl rfl ?_ | refine Jcg (Pu_load Fl.h rfl (fun _ e => by rw [e]; exact hbk.ld rfl)) rfl ?_ | refine Jcg (Pu_string Us.h Us.h Us.h rfl (fun w' e => by rw [e]; exact ⟨_, _, q4⟩)) rfl ?_ | refine Jcg (Pu_string Us.h Us.h Us.h rfl (fun w' e => by rw [e]; exact ⟨_, _, q5⟩)) rfl ?_ | (refine Jcs rfl rfl (fun hb => ?_) (fun hb => ?_) <;> (try (exfalso; omega))))
            all_goals first | exact absurd (show (pRead s.disk histT).1 = (pLog s.list).1 by assumption) hq | exact TR_of (res1 rfl rfl) ⟨by rw [hno], E⟩
end Go.Proofs.YtggaghghclomkaaGreat

/- The cursor over the bytes of a draw: what it gives, weakly said. -/
namespace Go.Proofs.YtggaghghclomkaaGreat
open Go.RowKit
attribute [local irreducible] TL TC TN TX TR TQ TA Pu Ret

def Cur (w : World) (g : Nat) : Prop := ∃ (A : Option Addr) (c lo : Nat) (s : List UInt8) (i : Nat) (h : Int), Blk w g 148 [.slice A s.length c, I i, I h] ∧ Rd w lo g 1 A s.length (u8s s) ∧ i ≤ s.length ∧ s.length ≤ 1048576
abbrev pt (g : Nat) : Value := .pointer (some ⟨g, 0, none⟩)
theorem Cur.ch {w w' : World} {g : Nat} {T : Nat → Prop} (h : Cur w g) (c : Ch T w w') (hT : ∀ k, k ≤ g → ¬ T k) : Cur w' g := by
  obtain ⟨A, cc, lo, s, i, x, hb, hr, hi, hl⟩ := h
  exact ⟨A, cc, lo, s, i, x, hb.ch c (hT g (Nat.le_refl _)), hr.ch c (fun k _ hk => hT k (by omega)), hi, hl⟩
theorem Cur.ext {w w' : World} {g : Nat} (h : Cur w g) (e : Ext w w') : Cur w' g := h.ch e (fun _ _ t => t)
theorem Cur.lt {w : World} {g : Nat} (h : Cur w g) : g < w.heap.size := by obtain ⟨_, _, _, _, _, _, hb, _⟩ := h; exact hb.lt
theorem and255 (x : Int) : ∃ n : Nat, bitv .and .i64 x 255 = (n : Int) ∧ n < 256 := by
  have h : (BitVec.ofInt 64 x &&& BitVec.ofInt 64 255).toNat ≤ 255 := by
    rw [BitVec.toNat_and]
    exact Nat.le_trans Nat.and_le_right (by decide)
  refine ⟨(BitVec.ofInt 64 x &&& BitVec.ofInt 64 255).toNat, ?_, by omega⟩
  show IntKind.i64.wrap (((BitVec.ofInt 64 x &&& BitVec.ofInt 64 255).toNat : Nat) : Int) = _
  rw [IntWalk.i64_in _ (by omega)]
theorem Own.step {w w1 w2 : World} {g lo hi : Nat} (c : Ch (Iv g (g + 1)) w w1) (c2 : Ch (Iv lo hi) w1 w2) (h : w.heap.size ≤ lo) : Ch (Iv g (g + 1)) w w2 := c.trans c2 (fun _ _ t => t) (fun i hi t => absurd t.1 (by omega))
set_option maxHeartbeats 2000000 in
theorem l01Byte_c {w : World} {g : Nat} (hcur : Cur w g) :
    Ret Tryz.prog 161 #[pt g] w fun v w' => ∃ n : Nat, v = I n ∧ n < 256 ∧ Ch (Iv g (g + 1)) w w' ∧ Cur w' g := by
  obtain ⟨A, c, lo, s, i, h, hb, hr, hi, hl⟩ := hcur
  refine Ret_enter Tryz.func161 rfl rfl rfl ?_
  repeat' (first | apply Jbq | apply Jbr | apply Jbs | apply Jbt | (apply Jcg; (first | exact Jaa rfl | exact Jab rfl | exact Jba rfl | (apply Jbl; exact Us.h; exact rfl; exact Sz.h; exact rfl)); exact rfl) | refine Jcg (Pu_load Fl.h rfl (fun _ e => by rw [e]; exact hb.ld rfl)) rfl ?_ | refine Jcg (Pu_mulw rfl rfl) rfl ?_ | refine Jcg (Pu_addw rfl rfl) rfl ?_)
  refine TL_store rfl rfl Sz.h rfl hb rfl ?_
  intro w1 c1 hz1 hb1
  replace hr := hr.ch c1 (by intro k _ _; simp only [Iv]; omega)
  obtain ⟨h1, hh1⟩ : ∃ h1, h1 = IntKind.i64.wrap (IntKind.i64.wrap (h * 6364136223846793005) + 1442695040888963407) := ⟨_, rfl⟩
  replace hb1 : Blk w1 g 148 [.slice A s.length c, I i, I h1] := by rw [hh1]; exact hb1
  clear hh1 hb
  repeat' (first | apply Jbq | apply Jbr | apply Jbs)
  refine TC_quietExt mixed (by kernel_rfl) ?_
  repeat' (first | (apply Jck; (first | exact Jaa rfl | exact Jab rfl | exact Jba rfl | (apply Jbl; exact Us.h; exact rfl; exact Sz.h; exact rfl)); exact rfl) | refine Jck (Pu_load Fl.h rfl (fun _ e => Ext.cell e (hb1.ld rfl))) rfl ?_ | refine Jck (Pu_shr rfl rfl (by omega)) rfl ?_ | refine Jck (Pu_xor rfl rfl) rfl ?_ | refine Jck (Pu_and rfl rfl) rfl ?_)
  refine TQ_nil fun w2 e2 => ?_
  obtain ⟨x, hx, hxl⟩ := and255 (bitv .xor .i64 (h1.fdiv (2 ^ min (33 : Int).toNat IntKind.i64.bits)) (h1.fdiv (2 ^ min (45 : Int).toNat IntKind.i64.bits)))
  rw [hx]
  clear hx
  replace hb1 := hb1.ext e2
  replace hr := hr.ext e2
  repeat' (first | apply Jbr | apply Jbs)
  refine TC_quietExt mixed (by kernel_rfl) ?_
  repeat' (first | (apply Jck; (first | exact Jaa rfl | exact Jac Us.h rfl | exact Jad rfl rfl | exact Jba rfl | (apply Jbl; exact Us.h; exact rfl; exact Sz.h; exact rfl)); exact rfl) | refine Jck (Pu_load Fl.h rfl (fun _ e => Ext.cell e (hb1.ld rfl))) rfl ?_)
  refine TQ_nil fun w3 e3 => ?_
  replace hb1 := hb1.ext e3
  replace hr := hr.ext e3
  have c3 := (c1.ext e2).ext e3
  have hg3 := hb1.lt
  repeat' (apply Jbr)
  refine Jcx rfl (fun hlt => ?_) (fun hge => ?_)
  · obtain ⟨ad, rfl, hcell⟩ := hr.get (show i < s.length by omega)
    rw [u8s_get s (by omega)] at hcell
    have hx2 := (s.getD i 0).toNat_lt
    repeat' (apply Jbs)
    refine TC_quietExt mixed (by kernel_rfl) ?_
    repeat' (first | (apply Jck; (first | exact Jaa rfl | exact Jab rfl | exact Jaf rfl rfl (by omega) | exact Jag Us.h Sz.h rfl rfl (by omega) | exact Jax Us.h Us.h rfl (by omega) | exact Jba rfl | (apply Jbl; exact Us.h; exact rfl; exact Sz.h; exact rfl)); exact rfl) | refine Jck (Pu_load Fl.h rfl (fun _ e => Ext.cell e (hb1.ld rfl))) rfl ?_ | refine Jck (Pu_load Fl.h rfl (fun _ e => Ext.cell e hcell)) rfl ?_ | refine Jck (Pu_and rfl rfl) rfl ?_)
    refine TQ_nil fun w4 e4 => ?_
    obtain ⟨y, hy, hyl⟩ := and255 ((x : Int) + ((s.getD i 0).toNat : Int))
    rw [hy]
    replace hb1 := hb1.ext e4
    replace hr := hr.ext e4
    repeat' (first | apply Jbr | apply Jbt | (apply Jcg; (first | exact Jaa rfl | exact Jaf rfl rfl (by omega) | exact Jba rfl | (apply Jbl; exact Us.h; exact rfl; exact Sz.h; exact rfl)); exact rfl) | refine Jcg (Pu_load Fl.h rfl (fun _ e => by rw [e]; exact hb1.ld rfl)) rfl ?_)
    refine TL_store rfl rfl Sz.h rfl hb1 rfl ?_
    intro w5 c5 hz5 hb5
    repeat' (first | apply Jbq | apply Jbr | apply Jbs | apply Jbt | apply Jbu | (apply Jcg; (first | exact Jaa rfl | exact Jab rfl); exact rfl))
    refine TR_of (res1 rfl rfl) ⟨y, rfl, hyl, (c3.ext e4).then c5, some ad, c, lo, s, i + 1, h1, hb5, hr.ch c5 (by intro k _ _; simp only [Iv]; omega), by omega, hl⟩
  · repeat' (first | apply Jbq | apply Jbr | apply Jbs | apply Jbt | apply Jbu | apply Jbz | (apply Jcg; (first | exact Jaa rfl | exact Jab rfl); exact rfl))
    exact TR_of (res1 rfl rfl) ⟨x, rfl, hxl, c3, A, c, lo, s, i, h1, hb1, hr, hi, hl⟩
set_option maxHeartbeats 2000000 in
theorem l01Below_c {w : World} {g : Nat} {n : Int} (hcur : Cur w g) (hn : n ≤ 4611686018427387904) :
    Ret Tryz.prog 115 #[pt g, I n] w fun v w' => ∃ x : Int, v = I x ∧ 0 ≤ x ∧ (0 < n → x < n) ∧ (n ≤ 0 → x = 0) ∧ Ch (Iv g (g + 1)) w w' ∧ Cur w' g := by
  refine Ret_enter Tryz.func115 rfl rfl rfl ?_
  repeat' (first | apply Jbq | apply Jbr | apply Jbs | apply Jbt | apply Jbu | apply Jbv | apply Jbz | (apply Jcg; (first | exact Jaa rfl | exact Jab rfl | exact Jan rfl rfl); exact rfl) | (refine Jcx rfl (fun hb => ?_) (fun hb => ?_) <;> (try (exfalso; omega))))
  · exact TR_of (res1 rfl rfl) ⟨0, rfl, by omega, by omega, fun _ => rfl, Ch.refl _ _, hcur⟩
  · refine TL_call rfl en161 (l01Byte_c hcur) rfl rfl ?_
    rintro _ w1 ⟨x, rfl, hx, c1, hcur1⟩
    repeat' (first | apply Jbq | apply Jbr | apply Jbu | apply Jbv | (apply Jcg; (first | exact Jaa rfl | exact Jab rfl | exact Jbj rfl rfl (by omega)); exact rfl))
    have h1 := Int.emod_nonneg (x : Int) (show n ≠ 0 by omega)
    have h2 := Int.emod_lt_of_pos (x : Int) (show 0 < n by omega)
    exact TR_of (res1 rfl rfl) ⟨_, rfl, h1, fun _ => h2, by omega, c1, hcur1⟩
  · refine TL_call rfl en161 (l01Byte_c hcur) rfl rfl ?_
    rintro _ w1 ⟨x1, rfl, hx1, c1, hcur1⟩
    repeat' (first | apply Jbq | apply Jbr | apply Jbs | apply Jbt | (apply Jcg; (first | exact Jaa rfl | exact Jab rfl); exact rfl))
    refine TL_call rfl en161 (l01Byte_c hcur1) rfl rfl ?_
    rintro _ w2 ⟨x2, rfl, hx2, c2, hcur2⟩
    repeat' (first | apply Jbq | apply Jbr | apply Jbs | apply Jbt | (apply Jcg; (first | exact Jaa rfl | exact Jab rfl); exact rfl))
    refine TL_call rfl en161 (l01Byte_c hcur2) rfl rfl ?_
    rintro _ w3 ⟨x3, rfl, hx3, c3, hcur3⟩
    repeat' (first | apply Jbq | apply Jbr | apply Jbs | apply Jbt | (apply Jcg; (first | exact Jaa rfl | exact Jab rfl); exact rfl))
    refine TL_call rfl en161 (l01Byte_c hcur3) rfl rfl ?_
    rintro _ w4 ⟨x4, rfl, hx4, c4, hcur4⟩
    repeat' (first | apply Jbq | apply Jbr | apply Jbs | apply Jbt | apply Jbu | (apply Jcg; (first | exact Jaa rfl | exact Jab rfl | exact Jaf rfl rfl (by omega) | exact Jbj rfl rfl (by omega) | exact Jbk rfl rfl (by omega)); exact rfl))
    have h1 := Int.emod_nonneg ((x1 : Int) * 16777216 + (x2 : Int) * 65536 + (x3 : Int) * 256 + (x4 : Int)) (show n ≠ 0 by omega)
    have h2 := Int.emod_lt_of_pos ((x1 : Int) * 16777216 + (x2 : Int) * 65536 + (x3 : Int) * 256 + (x4 : Int)) (show 0 < n by omega)
    exact TR_of (res1 rfl rfl) ⟨_, rfl, h1, fun _ => h2, by omega, ((c1.then c2).then c3).then c4, hcur4⟩
set_option maxRecDepth 100000 in
set_option maxHeartbeats 4000000 in
theorem l01New_c {w : World} {lo hi : Nat} {v : Value} {s : List UInt8} (hR : RB w lo hi v s) (hl : s.length ≤ 1048576) :
    Ret Tryz.prog 99 #[v] w fun v' w' => ∃ g, v' = pt g ∧ Ext w w' ∧ w.heap.size ≤ g ∧ w'.heap.size = g + 1 ∧ Cur w' g := by
  obtain ⟨A, c, rfl, hc, hr⟩ := hR
  refine Ret_enter Tryz.func99 rfl rfl rfl ?_
  repeat' (first | apply Jbq | apply Jbr | apply Jbs | apply Jbt | apply Jby | (apply Jcg; (first | exact Jaa rfl | exact Jab rfl | exact Jac Us.h rfl | exact Jaf rfl rfl (by omega)); exact rfl))
  refine TC_loop (ι := Nat × Int) (fun x => [(0, .slice A s.length c), (3, I x.2), (4, I x.1)]) (fun x w' => x.1 ≤ s.length ∧ w = w') (fun x => s.length - x.1) (0, _) (subEnv_cons rfl (subEnv_cons rfl (subEnv_cons rfl (subEnv_nil _)))) ⟨Nat.zero_le _, rfl⟩ ?_
  rintro ⟨i, h⟩ _ ⟨hi, rfl⟩
  simp only at hi
  by_cases hlt : i < s.length ∧ i < 4000
  · obtain ⟨ad, rfl, hcell⟩ := hr.get hlt.1
    rw [u8s_get s hlt.1] at hcell
    have hx2 := (s.getD i 0).toNat_lt
    repeat' (first | apply Jbq | apply Jbr | apply Jbs | apply Jbt | apply Jbx | apply Jby | apply Jbz | (apply Jcg; (first | exact Jaa rfl | exact Jab rfl | exact Jac Us.h rfl | exact Jad rfl rfl | exact Jaf rfl rfl (by omega) | exact Jag Us.h Sz.h rfl rfl (by omega) | exact Jah rfl rfl | exact Jax Us.h Us.h rfl (by omega)); exact rfl) | refine Jch rfl rfl rfl ?_ | refine Jcg (Pu_mulw rfl rfl) rfl ?_ | refine Jcg (Pu_addw rfl rfl) rfl ?_ | refine Jcg (Pu_and rfl rfl) rfl ?_ | refine Jcg (Pu_load Fl.h rfl (fun _ e => by rw [e]; exact hcell)) rfl ?_ | (refine Jcs rfl rfl (fun hb => ?_) (fun hb => ?_) <;> (try (exfalso; omega))) | (refine Jcx rfl (fun hb => ?_) (fun hb => ?_) <;> (try (exfalso; omega))))
    exact TN_round (i + 1, _) (subEnv_cons rfl (subEnv_cons rfl (subEnv_cons rfl (subEnv_nil _)))) ⟨hlt.1, rfl⟩ (by simp only; omega)
  · repeat' (first | apply Jbq | apply Jbr | apply Jbs | apply Jbt | apply Jbu | apply Jca | apply Jcb | apply Jcc | (refine Jcf rfl ?_) | (apply Jcg; (first | exact Jaa rfl | exact Jab rfl | exact Jac Us.h rfl | exact Jad rfl rfl | exact Jah rfl rfl | exact Jai rfl rfl); exact rfl) | refine Jch rfl rfl rfl ?_ | refine Jci rfl rfl rfl rfl rfl ?_ | (refine Jcg (Pu_build (cs := [.slice A s.length c, I 0, I h]) rfl (by kernel_rfl)) rfl ?_) | (refine TL_box (cs := [.slice A s.length c, I 0, I h]) rfl rfl ?_; intro w1 g1 e1 hg1 hz1 hb1) | (refine Jcs rfl rfl (fun hb => ?_) (fun hb => ?_) <;> (try (exfalso; omega))) | (refine Jcx rfl (fun hb => ?_) (fun hb => ?_) <;> (try (exfalso; omega))))
    all_goals exact TR_of (res1 rfl rfl) ⟨g1, rfl, e1, by omega, hz1, A, c, lo, s, 0, h, hb1, (hr.ext e1).wide (Nat.le_refl _) (by have := hr.hi_le; omega) (by omega), Nat.zero_le _, hl⟩
set_option maxHeartbeats 2000000 in
theorem l01Bytes_c {w : World} {g : Nat} {most : Nat} (hcur : Cur w g) (hm : most ≤ 65536) :
    Ret Tryz.prog 177 #[pt g, I most] w fun v w' => ∃ s : List UInt8, s.length ≤ most ∧ Ch (Iv g (g + 1)) w w' ∧ OB w' w.heap.size w'.heap.size v s ∧ Cur w' g := by
  refine Ret_enter Tryz.func177 rfl rfl rfl ?_
  repeat' (first | apply Jbq | apply Jbr | apply Jbs | apply Jbt | (apply Jcg; (first | exact Jaa rfl | exact Jab rfl | exact Jaf rfl rfl (by omega)); exact rfl))
  refine TL_call rfl en115 (l01Below_c hcur (by omega)) rfl rfl ?_
  rintro _ w1 ⟨n, rfl, hn0, hn1, _, c1, hcur1⟩
  have hn1 := hn1 (by omega)
  have hg := hcur.lt
  repeat' (first | apply Jbq | apply Jbr | apply Jbs | apply Jbt | apply Jby | (apply Jcg; exact Jab rfl; exact rfl) | (refine TL_buildSlice0 Us.h Sz.h rfl ?_; intro w2 g2 e2 hg2 hz2 hown2))
  have hnew : OB w2 w.heap.size w2.heap.size (.slice (some ⟨g2, 0, none⟩) 0 0) [] := by
    have hs1 := c1.size
    exact ⟨_, _, rfl, hown2.wide (by omega) (by omega) (Nat.le_refl _)⟩
  refine TC_loop (ι := Nat × List UInt8 × Value) (fun x => [(0, pt g), (5, I n), (6, x.2.2), (7, I x.1)]) (fun x w' => (x.1 : Int) ≤ n ∧ x.2.1.length = x.1 ∧ Ch (Iv g (g + 1)) w w' ∧ OB w' w.heap.size w'.heap.size x.2.2 x.2.1 ∧ Cur w' g) (fun x => (n - x.1).toNat) (0, [], _) (subEnv_cons rfl (subEnv_cons rfl (subEnv_cons rfl (subEnv_cons rfl (subEnv_nil _)))))
    ⟨hn0, rfl, c1.ext e2, hnew, hcur1.ext e2⟩ ?_
  rintro ⟨k, s, va⟩ w3 ⟨hs, hsl, c3, ho3, hcur3⟩
  simp only at hs hsl ho3
  repeat' (first | apply Jbq | apply Jbr | apply Jbs | apply Jbt | (apply Jcg; (first | exact Jaa rfl | exact Jad rfl rfl); exact rfl))
  refine Jcx rfl (fun hb => ?_) (fun hb => ?_)
  · repeat' (first | apply Jbr | apply Jbs | apply Jbt | apply Jby | apply Jbz | (apply Jcg; exact Jaa rfl; exact rfl))
    refine TL_call rfl en161 (l01Byte_c hcur3) rfl rfl ?_
    rintro _ w4 ⟨x, rfl, hx, c4, hcur4⟩
    repeat' ((apply Jcg; exact Jaw Us.h Us.h rfl; exact rfl))
    refine TL_buildSlice Us.h Zi.h rfl rfl rfl rfl (fillu1 _) rfl rfl ?_
    intro w5 g5 e5 hg5 hz5 hown5
    have ho5 := (ho3.ch c4 (by intro k _ _; simp only [Iv]; omega)).ext e5
    refine TL_appendB Us.h rfl rfl ho5 (OB_new (s := [_]) rfl hown5 hg5 hz5).rd (by have := c3.size; have := c4.size; have := e5.size; omega) (by simp only [List.length_cons, List.length_nil]; omega) rfl ?_
    intro w6 v6 c6 ho6
    repeat' (first | apply Jbq | apply Jbr | apply Jbt | apply Jbx | (apply Jcg; (first | exact Jaa rfl | exact Jab rfl | exact Jaf rfl rfl (by omega)); exact rfl))
    exact TN_round (k + 1, s ++ [UInt8.ofNat ((x : Int) % 256).toNat], v6) (subEnv_cons rfl (subEnv_cons rfl (subEnv_cons rfl (subEnv_cons rfl (subEnv_nil _))))) ⟨by simp only; omega, by simp only [List.length_append, List.length_cons, List.length_nil]; omega, Own.step ((c3.then c4).ext e5) c6 (Nat.le_refl _), ho6, (hcur4.ext e5).ch c6 (by intro k _; simp only [Iv]; omega)⟩ (by simp only; omega)
  · repeat' (first | apply Jbq | apply Jbr | apply Jbs | apply Jbt | apply Jbu | apply Jca | apply Jcb | apply Jcc | (apply Jcg; (first | exact Jaa rfl | exact Jab rfl); exact rfl))
    exact TR_of (res1 rfl rfl) ⟨s, by omega, c3, ho3, hcur3⟩
end Go.Proofs.YtggaghghclomkaaGreat

/- Entries held against each other; entries that are drawn, weakly said. -/
namespace Go.Proofs.YtggaghghclomkaaGreat
open Go.RowKit
attribute [local irreducible] TL TC TN TX TR TQ TA Pu Ret

section
variable {P : Program} {t : TypeId}
theorem fieldsOf_of {fs : Array Field} (h : P.underlying t = some (.struct fs)) : P.fieldsOf t = fs := by unfold Program.fieldsOf; rw [h]
theorem run_part {f : TypeId} {xs : Array Value} {off : Nat} {v : Value} (hfl : flat P f = true) (hv : xs[off]? = some v) (w : World) : (part f xs off).run P w = .ok v w := by
  simp [part, run_isAgg_flat hfl, hv]
theorem equalIn_int {k : IntKind} {a : Int} (ht : P.underlying t = some (.int k)) (d : Nat) (w : World) : (Op.equalIn (d + 1) t (.int k a) (.int k a)).run P w = .ok true w := by
  rw [Op.equalIn, Sem.run_bind, run_underlying ht w]; simp
theorem equalIn_str {a : ByteArray} (ht : P.underlying t = some .string) (d : Nat) (w : World) : (Op.equalIn (d + 1) t (.string a) (.string a)).run P w = .ok true w := by
  rw [Op.equalIn, Sem.run_bind, run_underlying ht w]; simp [beq_toListBytes]
end
theorem run_eqE (e : Ent) (w : World) : (Op.equal 82 (.agg (entC e).toArray) (.agg (entC e).toArray)).run Tryz.prog w = .ok true w := by
  have hu := Tryz.underlying82
  have hf := fieldsOf_of hu
  have h := run_equalIn_struct (P := Tryz.prog) w 9999 82 (entC e).toArray (entC e).toArray (by rw [hf]; exact hu) (by kernel_rfl)
  show (Op.equalIn (9999 + 1) 82 (.agg (entC e).toArray) (.agg (entC e).toArray)).run Tryz.prog w = .ok true w
  have p0 := run_part (P := Tryz.prog) (f := 3) (xs := (entC e).toArray) (off := 0) (v := I e.1) fl3 rfl w
  have p1 := run_part (P := Tryz.prog) (f := 9) (xs := (entC e).toArray) (off := 1) (v := S e.2) fl9 rfl w
  have q0 := equalIn_int (P := Tryz.prog) (a := e.1) Tryz.underlying3 9998 w
  have q1 := equalIn_str (P := Tryz.prog) (a := ⟨e.2.toArray⟩) Tryz.underlying9 9998 w
  rw [h, hf]
  simp [Op.eqFields, Sem.run_bind, p0, p1, q0, q1]
section
variable {C : World → Prop} {n : Nat} {l : Env} {dd : Option Nat} {ty : TypeId} {pos : String} {af : Array Edge} {x y : Operand} {t' : TypeId}
theorem Pu_neqE {e : Ent} (hx : ev l x = some (.agg (entC e).toArray)) (hy : ev l y = some (.agg (entC e).toArray)) : Pu Tryz.prog C n l ⟨dd, .binOp .neq 82 x y t', ty, pos, af, none⟩ (.bool false) := by
  unfold Pu
  intro s hs w _
  have g : (eqGuard .neq 82 x y (.agg (entC e).toArray) (.agg (entC e).toArray)).run Tryz.prog w = .ok () w := by
    have h0 : Tryz.prog.eqGuardType Tryz.prog.depth 82 = false := by kernel_rfl
    simp [eqGuard, h0]
  have b : (binOp .neq 82 (.agg (entC e).toArray) (.agg (entC e).toArray)).run Tryz.prog w = .ok (.bool false) w := by
    show (do pure (.bool (!(← Op.equal 82 (.agg (entC e).toArray) (.agg (entC e).toArray)))) : Sem Value).run Tryz.prog w = _
    rw [Sem.run_bind, run_eqE]; rfl
  simp only [execOp, hs.eval hx, hs.eval hy, Sem.run_bind, Sem.run_pure, Result.andThen_ok, g, b]
end
set_option maxHeartbeats 1000000 in
theorem sameEntries_c {w : World} {lo hi lo2 hi2 : Nat} {v v2 : Value} {t : List Ent} (h : RE w lo hi v t) (h2 : RE w lo2 hi2 v2 t) (hl : t.length ≤ 1048576) :
    Ret Tryz.prog 38 #[v, v2] w fun v' w' => v' = .bool true ∧ Ext w w' := by
  obtain ⟨A, c, rfl, _, hr⟩ := h
  obtain ⟨A2, c2, rfl, _, hr2⟩ := h2
  refine Ret_enter Tryz.func38 rfl rfl rfl ?_
  repeat' (first | apply Jbq | apply Jbr | apply Jbs | apply Jbt | apply Jby | apply Jbz | (refine Jcf rfl ?_) | (apply Jcg; (first | exact Jbm rfl rfl | exact Jaa rfl | exact Jab rfl | exact Jac Us.h rfl); exact rfl))
  refine TC_loop (ι := Nat) (fun k => [(0, .slice A t.length c), (1, .slice A2 t.length c2), (12, I t.length), (13, I k)]) (fun k w' => k ≤ t.length ∧ Ext w w') (fun k => t.length - k) 0 (subEnv_cons rfl (subEnv_cons rfl (subEnv_cons rfl (subEnv_cons rfl (subEnv_nil _))))) ⟨Nat.zero_le _, Ch.refl _ _⟩ ?_
  intro k w3 ⟨hk, e3⟩
  repeat' (first | apply Jbq | apply Jbr | apply Jbs | apply Jbt | (apply Jcg; exact Jad rfl rfl; exact rfl))
  refine Jcx rfl (fun hb => ?_) (fun hb => ?_)
  · have hlt : k < t.length := by omega
    obtain ⟨ad, rfl, hc⟩ := Rd.elem entC_len (hr.ext e3) hlt
    obtain ⟨ad2, rfl, hc2⟩ := Rd.elem entC_len (hr2.ext e3) hlt
    repeat' (first | apply Jbq | apply Jbr | apply Jbs | apply Jbt | apply Jby | apply Jbz | (apply Jcg; (first | exact Jaa rfl | exact Jab rfl); exact rfl))
    refine TC_quietExt mixed (by kernel_rfl) ?_
    repeat' (first | (apply Jck; (first | exact Jaa rfl | exact Jar Us.h Sz.h rfl rfl (by omega)); exact rfl) | refine Jck (Pu_loadAgg (cs := entC t[k]) Us.h rfl Sz.h rfl (agg_at hc)) rfl ?_ | refine Jck (Pu_loadAgg (cs := entC t[k]) Us.h rfl Sz.h rfl (agg_at hc2)) rfl ?_ | refine Jck (Pu_neqE rfl rfl) rfl ?_)
    refine TQ_nil fun w4 e4 => ?_
    repeat' (first | apply Jbq | apply Jbr | apply Jbt | apply Jbx | apply Jbz | (refine Jcf rfl ?_) | (apply Jcg; (first | exact Jaa rfl | exact Jaf rfl rfl (by omega)); exact rfl))
    exact TN_round (k + 1) (subEnv_cons rfl (subEnv_cons rfl (subEnv_cons rfl (subEnv_cons rfl (subEnv_nil _))))) ⟨hlt, e3.ext e4⟩ (by omega)
  · repeat' (first | apply Jbq | apply Jbr | apply Jbs | apply Jbt | apply Jbu | apply Jca | apply Jcb | apply Jcc | (apply Jcg; exact Jab rfl; exact rfl))
    exact TR_of (res1 rfl rfl) ⟨rfl, e3⟩
end Go.Proofs.YtggaghghclomkaaGreat

/- Lists of records: what the laws ask of them. No condition. -/
namespace Go.Proofs.YtggaghghclomkaaGreat
open Go.RowKit

theorem textAt_drop (b : List UInt8) (a n : Nat) : textAt (b.drop a) 0 n = textAt b a n := by unfold textAt; rw [List.drop_drop]
/-- What is read at a place is what is read at the beginning of the bytes behind it. -/
theorem readF_shift {b : List UInt8} {a : Nat} (h : a ≤ b.length) : pReadF b a = ((pReadF (b.drop a) 0).1, (if (pReadF (b.drop a) 0).2.2 = 0 then a + (pReadF (b.drop a) 0).2.1 else 0), (pReadF (b.drop a) 0).2.2) := by
  have h0 := readF_nat (b := b.drop a) (a := 0) (Nat.zero_le _)
  simp only [Int.ofNat_zero, Nat.zero_add, List.drop_zero, textAt_drop] at h0
  have g2 : getF (b.drop a) 0 2 = getF b a 2 := getF_drop b a 0 2
  have g4 : getF (b.drop a) 2 4 = getF b (a + 2) 4 := getF_drop b a 2 4
  have g6 : getF (b.drop a) 6 4 = getF b (a + 6) 4 := getF_drop b a 6 4
  have hl : (b.drop a).length = b.length - a := List.length_drop
  have e1 : ((b.drop a).length < 10) = (b.length < a + 10) := propext ⟨fun _ => by omega, fun _ => by omega⟩
  have e2 : (((b.drop a).length : Int) < 0 + 10 + getF b a 2) = ((b.length : Int) < a + 10 + getF b a 2) := propext ⟨fun _ => by omega, fun _ => by omega⟩
  rw [g2, g4, g6] at h0
  simp only [e1, e2] at h0
  rw [readF_nat h, show pReadF (b.drop a) 0 = pReadF (b.drop a) ((0 : Nat) : Int) from rfl]
  simp only [Int.ofNat_zero]
  rw [h0]
  by_cases c1 : b.length < a + 10
  · simp only [if_pos c1]; simp
  simp only [if_neg c1]
  by_cases c2 : getF b a 2 < 1 ∨ 1000 < getF b a 2
  · simp only [if_pos c2]; simp
  simp only [if_neg c2]
  by_cases c3 : (b.length : Int) < a + 10 + getF b a 2
  · simp only [if_pos c3]; simp
  simp only [if_neg c3]
  by_cases c4 : getF b (a + 2) 4 < 1 ∨ 1000000000 < getF b (a + 2) 4
  · simp only [if_pos c4]; simp
  simp only [if_neg c4]
  by_cases c5 : getF b (a + 6) 4 ≠ crc ((b.drop a).take 6 ++ textAt b a (getF b a 2).toNat)
  · simp only [if_pos c5]; simp
  simp only [if_neg c5]
  simp; omega
theorem read_short {b : List UInt8} (h : b.length < 10) : (pReadF b 0).2.2 = 2 := by
  have h0 := readF_nat (b := b) (a := 0) (Nat.zero_le _)
  rw [show pReadF b 0 = pReadF b ((0 : Nat) : Int) from rfl, h0, if_pos (by omega)]
theorem frame_parts (e : Ent) (post : List UInt8) : frame e ++ post = putR e.2.length 2 ++ (putR e.1 4 ++ (putR (crc (headF e ++ e.2)) 4 ++ (e.2 ++ post))) := by
  unfold frame headF; simp only [List.append_assoc]
theorem take_len {x y : List UInt8} {n : Nat} (h : x.length = n) : (x ++ y).take n = x := by subst h; exact List.take_left
theorem drop_len {x y : List UInt8} {n : Nat} (h : x.length = n) : (x ++ y).drop n = y := by subst h; exact List.drop_left
/-- A right record's parts as they are read. -/
theorem frame_get {e : Ent} (hp : pEntry e.1 e.2 = true) (post : List UInt8) :
    getF (frame e ++ post) 0 2 = e.2.length ∧ getF (frame e ++ post) 2 4 = e.1 ∧ getF (frame e ++ post) 6 4 = crc (headF e ++ e.2) ∧ (frame e ++ post).take 6 = headF e ∧ textAt (frame e ++ post) 0 e.2.length = e.2 := by
  have hb := pEntry_iff.1 hp
  have hl := frame_length e
  have hc := crc_lt (headF e ++ e.2)
  have hp := frame_parts e post
  have d2 : (frame e ++ post).drop 2 = putR e.1 4 ++ (putR (crc (headF e ++ e.2)) 4 ++ (e.2 ++ post)) := by rw [hp, drop_len (putR_length _ 2)]
  have d6 : (frame e ++ post).drop 6 = putR (crc (headF e ++ e.2)) 4 ++ (e.2 ++ post) := by
    rw [show 6 = 2 + 4 from rfl, ← List.drop_drop, d2, drop_len (putR_length _ 4)]
  have d10 : (frame e ++ post).drop 10 = e.2 ++ post := by
    rw [show 10 = 6 + 4 from rfl, ← List.drop_drop, d6, drop_len (putR_length _ 4)]
  refine ⟨?_, ?_, ?_, ?_, ?_⟩
  · rw [getF_val _ 0 2 (by rw [List.length_append]; omega), List.drop_zero, hp, take_len (putR_length _ 2), val_putR 2 (by omega) (by omega)]
  · rw [getF_val _ 2 4 (by rw [List.length_append]; omega), d2, take_len (putR_length _ 4), val_putR 4 (by omega) (by omega)]
  · rw [getF_val _ 6 4 (by rw [List.length_append]; omega), d6, take_len (putR_length _ 4), val_putR 4 (by omega) (by omega)]
  · unfold frame
    rw [List.append_assoc, List.append_assoc, take_len (headF_length e)]
  · unfold textAt
    rw [Nat.zero_add, d10, take_len rfl]
theorem read_frame {e : Ent} (hp : pEntry e.1 e.2 = true) (post : List UInt8) : pReadF (frame e ++ post) 0 = (e, 10 + (e.2.length : Int), 0) := by
  obtain ⟨g1, g2, g3, g4, g5⟩ := frame_get hp post
  have hb := pEntry_iff.1 hp
  have hl := frame_length e
  have h0 := readF_nat (b := frame e ++ post) (a := 0) (Nat.zero_le _)
  rw [show pReadF (frame e ++ post) 0 = pReadF (frame e ++ post) ((0 : Nat) : Int) from rfl, h0]
  rw [g1]
  simp only [Nat.zero_add]
  rw [g2, g3, List.drop_zero, g4, Int.toNat_natCast, g5]
  rw [if_neg (by rw [List.length_append]; omega), if_neg (by omega), if_neg (by rw [List.length_append]; omega), if_neg (by omega), if_neg (by simp)]
  simp
/-- How many records are all there within m bytes. -/
def cnt : List Ent → Nat → Nat
  | [], _ => 0
  | e :: l, m => if (frame e).length ≤ m then cnt l (m - (frame e).length) + 1 else 0
theorem ents_take (l : List Ent) (k : Nat) : (ents l).take (k * 2) = ents (l.take k) := cellsL_take entC_len l k
theorem RE.to {w : World} {lo hi c : Nat} {A : Option Addr} {l : List Ent} {b : Int} (h : Rd w lo hi 2 A l.length (ents l)) (hb : 0 ≤ b ∧ b ≤ l.length) (hc : l.length ≤ c) :
    RE w lo hi (.slice (cutA A c 0 2) b.toNat c) (l.take b.toNat) := by
  have hl : (l.take b.toNat).length = b.toNat := by rw [List.length_take]; omega
  have h2 := h.cut (a := 0) (b := b.toNat) (c := c) (Nat.zero_le _) (by omega) hc
  rw [Nat.zero_mul, List.drop_zero, Nat.sub_zero, ents_take] at h2
  exact ⟨_, _, by rw [hl], by rw [hl]; omega, by rw [hl]; exact h2⟩
end Go.Proofs.YtggaghghclomkaaGreat

/- Reading a log of any bytes: what is read is what stands there, and a log is read as it was written. No condition. -/
namespace Go.Proofs.YtggaghghclomkaaGreat
open Go.RowKit
def chainE (p : Option Int) : List Ent → Prop
  | [] => True
  | e :: l => pEntry e.1 e.2 = true ∧ follows p e.1 = true ∧ chainE (some e.1) l
theorem chain_iff : ∀ (l : List Ent) (p : Option Int), chainE p l ↔ ((∀ i, (h : i < l.length) → pEntry l[i].1 l[i].2 = true) ∧ (∀ i, (h : i + 1 < l.length) → l[i].1 + 1 = l[i + 1].1) ∧ ∀ h : 0 < l.length, follows p l[0].1 = true)
  | [], p => by simp [chainE]
  | e :: l, p => by
    rw [chainE, chain_iff l (some e.1)]
    constructor
    · rintro ⟨h1, h2, h3, h4, h5⟩
      refine ⟨fun i hi => ?_, fun i hi => ?_, fun _ => h2⟩
      · cases i with
        | zero => exact h1
        | succ i => exact h3 i (by simpa using hi)
      · cases i with
        | zero => have := h5 (by simpa using hi); simpa [follows] using this
        | succ i => exact h4 i (by simpa using hi)
    · rintro ⟨h1, h2, h3⟩
      refine ⟨h1 0 (by simp), h3 (by simp), fun i hi => ?_, fun i hi => ?_, fun h => ?_⟩
      · exact h1 (i + 1) (by simpa using hi)
      · exact h2 (i + 1) (by simpa using hi)
      · have := h2 0 (by simpa using h); simpa [follows] using this
theorem entries_chain {l : List Ent} : pEntries l = true ↔ chainE none l := by
  rw [pEntries_iff, chain_iff]
  unfold entsOkTo
  constructor
  · rintro ⟨h1, h2⟩; exact ⟨fun i hi => h1 i hi hi, fun i hi => h2 i hi hi, fun _ => rfl⟩
  · rintro ⟨h1, h2, _⟩; exact ⟨fun i hi _ => h1 i hi, fun i hi _ => h2 i hi⟩
theorem chain_ok : ∀ {l : List Ent} {p : Option Int}, chainE p l → ∀ e ∈ l, pEntry e.1 e.2 = true
  | [], _, _, _, h => by cases h
  | x :: l, _, h, e, he => by
    rcases List.mem_cons.1 he with rfl | he
    · exact h.1
    · exact chain_ok h.2.2 e he
/-- The record that is read stands there. -/
theorem readF_frame {b : List UInt8} {a : Nat} (h : (pReadF b a).2.2 = 0) : frame (pReadF b a).1 = (b.drop a).take (10 + (pReadF b a).1.2.length) ∧ (pReadF b a).2.1 = ((a + (10 + (pReadF b a).1.2.length) : Nat) : Int) ∧ a + (10 + (pReadF b a).1.2.length) ≤ b.length ∧ pEntry (pReadF b a).1.1 (pReadF b a).1.2 = true := by
  obtain ⟨h1, h2, h3, h4, h5⟩ := readF_next h
  refine ⟨?_, by rw [h5]; omega, by omega, h4⟩
  unfold pReadF at h h3 h5 ⊢
  by_cases g1 : (a : Int) < 0 ∨ (b.length : Int) < a
  · rw [if_pos g1] at h; simp at h
  rw [if_neg g1] at h h3 h5 ⊢
  simp only [Int.toNat_natCast] at h h3 h5 ⊢
  by_cases g2 : b.length < a + 10
  · rw [if_pos g2] at h; simp at h
  rw [if_neg g2] at h h3 h5 ⊢
  by_cases g3 : getF b a 2 < 1 ∨ 1000 < getF b a 2
  · rw [if_pos g3] at h; simp at h
  rw [if_neg g3] at h h3 h5 ⊢
  by_cases g4 : (b.length : Int) < a + 10 + getF b a 2
  · rw [if_pos g4] at h; simp at h
  rw [if_neg g4] at h h3 h5 ⊢
  by_cases g5 : getF b (a + 2) 4 < 1 ∨ 1000000000 < getF b (a + 2) 4
  · rw [if_pos g5] at h; simp at h
  rw [if_neg g5] at h h3 h5 ⊢
  by_cases g6 : getF b (a + 6) 4 ≠ crc ((b.drop a).take 6 ++ textAt b a (getF b a 2).toNat)
  · rw [if_pos g6] at h; simp at h
  rw [if_neg g6] at h h3 h5 ⊢
  simp only at h3 h5 ⊢
  have hl : (textAt b a (getF b a 2).toNat).length = (getF b a 2).toNat := by unfold textAt; rw [List.length_take, List.length_drop]; omega
  rw [hl]
  exact (frame_is (n := (getF b a 2).toNat) (by omega) (by omega)).2 (Decidable.not_not.1 g6)
theorem scan_frames (b : List UInt8) : ∀ (n a : Nat) (p : Option Int), b.length - a ≤ n → a ≤ b.length → (scanFrom b p a).1.flatMap frame = (b.drop a).take ((scanFrom b p a).2 - a) ∧ chainE p (scanFrom b p a).1
  | 0, a, p, hn, ha => by
    rw [scanFrom_end (fun h => by have := readF_next h.1; omega)]
    simp [chainE]
  | n + 1, a, p, hn, ha => by
    by_cases h : (pReadF b a).2.2 = 0 ∧ follows p (pReadF b a).1.1 = true
    · have h0 := readF_next h.1
      obtain ⟨h1, h2, h3, h4⟩ := readF_frame h.1
      obtain ⟨i1, i2⟩ := scan_frames b n (pReadF b a).2.1.toNat (some (pReadF b a).1.1) (by omega) (by omega)
      have hsl := scanFrom_len b (b.length - (pReadF b a).2.1.toNat) (pReadF b a).2.1.toNat (some (pReadF b a).1.1) (Nat.le_refl _) (by omega)
      rw [scanFrom_step h.1 h.2]
      refine ⟨?_, h4, h.2, i2⟩
      rw [List.flatMap_cons, i1, h1]
      rw [h2, Int.toNat_natCast] at hsl ⊢
      generalize (scanFrom b (some (pReadF b a).1.1) (a + (10 + (pReadF b a).1.2.length))).2 = z at hsl ⊢
      rw [← List.drop_drop, show z - a = (10 + (pReadF b a).1.2.length) + (z - (a + (10 + (pReadF b a).1.2.length))) by omega]
      exact (List.take_add ..).symm
    · rw [scanFrom_end h]; simp [chainE]
/-- What is read of any bytes: right entries, just the bytes before the place. -/
theorem pScan_is (b : List UInt8) : (pScan b).1.flatMap frame = b.take (pScan b).2 ∧ pEntries (pScan b).1 = true ∧ (pScan b).2 ≤ b.length := by
  have h := scan_frames b b.length 0 none (by omega) (Nat.zero_le _)
  have h2 := scanFrom_len b b.length 0 none (by omega) (Nat.zero_le _)
  unfold pScan
  exact ⟨by simpa using h.1, entries_chain.2 h.2, h2.2.2⟩
theorem scan_chain : ∀ (l : List Ent) (p : Option Int) (pre rest : List UInt8), chainE p l → (pReadF rest 0).2.2 ≠ 0 →
    scanFrom (pre ++ (l.flatMap frame ++ rest)) p pre.length = (l, pre.length + (l.flatMap frame).length)
  | [], p, pre, rest, _, hr => by
    rw [scanFrom_end (fun h => by
      have h1 := h.1
      rw [readF_shift (by simp)] at h1
      simp only [List.flatMap_nil, List.nil_append, drop_len rfl] at h1
      exact hr h1)]
    simp
  | e :: l, p, pre, rest, hc, hr => by
    have hp := hc.1
    have hl := frame_length e
    have hsh := readF_shift (b := pre ++ ((e :: l).flatMap frame ++ rest)) (a := pre.length) (by simp)
    rw [drop_len rfl, List.flatMap_cons, List.append_assoc, read_frame hp] at hsh
    simp only at hsh
    have ih := scan_chain l (some e.1) (pre ++ frame e) rest hc.2.2 hr
    rw [List.flatMap_cons, List.append_assoc]
    rw [scanFrom_step (by rw [hsh]) (by rw [hsh]; exact hc.2.1), hsh]
    simp only [if_pos]
    rw [List.append_assoc] at ih
    rw [show ((pre.length : Int) + (10 + (e.2.length : Int))).toNat = (pre ++ frame e).length by rw [List.length_append, hl]; omega, ih]
    simp only [List.length_append, Prod.mk.injEq, true_and]
    omega
theorem scan_rest {l : List Ent} (h : pEntries l = true) {rest : List UInt8} (hr : (pReadF rest 0).2.2 ≠ 0) : pScan (l.flatMap frame ++ rest) = (l, (l.flatMap frame).length) := by
  have := scan_chain l none [] rest (entries_chain.1 h) hr
  rw [List.nil_append, List.length_nil, Nat.zero_add] at this
  exact this
theorem scan_whole {l : List Ent} (h : pEntries l = true) : pScan (l.flatMap frame) = (l, (l.flatMap frame).length) := by
  have := scan_rest h (rest := []) (by rw [read_short (by simp)]; decide)
  rwa [List.append_nil] at this
end Go.Proofs.YtggaghghclomkaaGreat

/- Opening a history: what it makes of a disk, and that it finds what is there. The plain law. No condition. -/
namespace Go.Proofs.YtggaghghclomkaaGreat
open Go.RowKit
def noSt : StoreP := ⟨noDk, 0, 0, [], 0⟩
/-- An operation, unless one has failed. -/
noncomputable def stepD (x : DiskP × Int) (o : OpD) : DiskP × Int := if x.2 = 0 then pDo x.1 o else x
def rangeK (k z : Int) : Prop := 1 ≤ k ∧ k ≤ 100 ∧ 0 ≤ z ∧ z ≤ 60000
noncomputable def opA (d : DiskP) : DiskP × Int := pDo d oDir
noncomputable def opB (x : DiskP × Int) : DiskP × Int := if (pRead x.1 tempT).2 = true then stepD x (oRm tempT) else x
noncomputable def opC' (x : DiskP × Int) : DiskP × Int := if (pRead x.1 histT).2 = true then x else stepD x (oMk histT)
noncomputable def opCutx (x : DiskP × Int) : DiskP × Int := if (pScan (pRead x.1 histT).1).2 < (pRead x.1 histT).1.length then stepD x (oCut histT ((pScan (pRead x.1 histT).1).2 : Int)) else x
noncomputable def opEnd (x : DiskP × Int) : DiskP × Int := stepD (stepD x (oSync histT)) oDir
open Classical in
noncomputable def pOpen (d : DiskP) (k z : Int) : StoreP × Int :=
  if DOk d ∧ rangeK k z then
    let x := opC' (opB (opA d))
    let y := opEnd (opCutx x)
    (⟨y.1, k, z, if y.2 = 0 then (pScan (pRead x.1 histT).1).1 else [], if y.2 = 0 then ((pScan (pRead x.1 histT).1).2 : Int) else 0⟩, y.2)
  else (noSt, 1)
theorem pOpen_no {d : DiskP} {k z : Int} (h : ¬ (DOk d ∧ rangeK k z)) : pOpen d k z = (noSt, 1) := by unfold pOpen; exact if_neg h
theorem hist_name : pName histT = true := by decide
theorem temp_name : pName tempT = true := by decide
theorem hist_temp : histT ≠ tempT := by decide
theorem DOk.bodyLe {d : DiskP} (h : DOk d) {p : NodeP} (hp : p ∈ d.nodes) : p.2.1.length ≤ 60000 ∧ p.2.2.length ≤ 60000 := by
  have hB := h.base
  unfold dBase at hB
  have hu := h.used
  have h1 : NdM p ≤ pUsed d.nodes := by
    clear hB hu
    generalize d.nodes = l at hp
    induction l with
    | nil => cases hp
    | cons a r ih =>
      have h0 := (pUsed_le r).1
      have h0' : 0 ≤ NdM a := by unfold NdM; omega
      simp only [pUsed, List.map_cons, List.sum_cons] at *
      rcases List.mem_cons.1 hp with rfl | hp
      · omega
      · have := ih hp; omega
  unfold NdM at h1
  omega
/-! the disks that operations make are right -/
section
variable {d : DiskP} {s t : List UInt8} {p q : NodeP} {b : List UInt8}
theorem DOk.sync (h : DOk d) (h0 : d.fuse ≠ 0) (H : Has d s p) (hs : pName s = true) : DOk (putN d s (p.1, p.2.1, p.2.1)) := by
  have := h.pDo (o := oSync s) (by unfold pOp; simp [hs]); rwa [pDo_sync h h0 H hs] at this
theorem DOk.cut (h : DOk d) (h0 : d.fuse ≠ 0) (H : Has d s p) (hs : pName s = true) {n : Nat} (hn1 : n ≤ p.2.1.length) (hn2 : n ≤ 60000) : DOk (putN d s (p.1, p.2.1.take n, p.2.2)) := by
  have := h.pDo (o := oCut s n) (by unfold pOp; simp [hs]; omega); rwa [pDo_cut h h0 H hs hn1 hn2] at this
theorem DOk.rmD (h : DOk d) (h0 : d.fuse ≠ 0) (H : Has d s p) (hs : pName s = true) (hl : d.turns.length < 40) : DOk (turnD d ⟨6, s, [], 0⟩) := by
  have := h.pDo (o := oRm s) (by unfold pOp; simp [hs]); rwa [pDo_rm h h0 H hs hl] at this
theorem DOk.dirOk (h : DOk d) (h0 : d.fuse ≠ 0) : DOk (dirD d) := by
  have := h.pDo (o := oDir) (by unfold pOp; simp); rwa [pDo_dir h h0] at this
theorem DOk.newD (h : DOk d) (h0 : d.fuse ≠ 0) (hh : dHas (pDir d) s = false) (hs : pName s = true) (hl : d.turns.length < 40) (hx : ¬ (8 ≤ d.nodes.length ∨ 1000000 ≤ d.next)) : DOk (newD d s) := by
  have := h.pDo (o := oMk s) (by unfold pOp; simp [hs])
  rcases pDo_mk h h0 hh hs hl with ⟨h1, _⟩ | ⟨_, h2⟩
  · exact absurd h1 hx
  · rwa [h2] at this
theorem dirD_len (h : DOk d) (h0 : d.fuse ≠ 0) : (dirD d).nodes.length = (pDir d).length := by
  have h1 := h.dirOk h0
  have h2 := h1.len
  unfold pIds at h2
  unfold dirD at h2 ⊢
  simpa using h2.symm
end
/-- A store that is up, all of it durable, with power. -/
structure Live (s : StoreP) : Prop where
  ok : SOk s
  fuse : s.disk.fuse = -1
  turns : s.disk.turns = []
  hist : ∃ p, Has s.disk histT p ∧ p.2.1 = s.list.flatMap frame ∧ p.2.2 = p.2.1
  len : s.len = ((s.list.flatMap frame).length : Int)
  temp : dHas (pDir s.disk) tempT = false
theorem live_of {d : DiskP} {k z : Int} {l : List Ent} {n : Int} {p : NodeP} (h : DOk d) (hr : rangeK k z) (hl : pEntries l = true) (hf : d.fuse = -1) (ht : d.turns = []) (H : Has d histT p) (h1 : p.2.1 = l.flatMap frame) (h2 : p.2.2 = p.2.1) (hn : n = ((l.flatMap frame).length : Int)) (hT : dHas (pDir d) tempT = false) : Live ⟨d, k, z, l, n⟩ := by
  have hb := h.bodyLe H.mem
  have hlog : pLog l = (l.flatMap frame, true) := by unfold pLog; rw [if_pos ⟨hl, by rw [← h1]; omega⟩]
  refine ⟨⟨h, hr, hl, .inr ?_⟩, hf, ht, ⟨p, H, h1, h2⟩, hn, hT⟩
  refine ⟨?_, ?_, ?_, ?_, ?_⟩
  · simp only; rw [H.read h]
  · simp only; rw [hlog]
  · simp only; rw [H.read h, hlog]; exact h1
  · simp only; rw [hlog]; exact hn
  · simp only; rw [read_none hT]
/-- The file is there: what opening makes of it. -/
theorem open_mid {d : DiskP} {p : NodeP} (h : DOk d) (hf : d.fuse = -1) (H : Has d histT p) : ∃ e q, opEnd (opCutx (d, 0)) = (e, 0) ∧ DOk e ∧ e.fuse = -1 ∧ e.turns = [] ∧ Has e histT q ∧ q.2.1 = p.2.1.take (pScan p.2.1).2 ∧ q.2.2 = q.2.1 ∧ pDir e = pDir d := by
  have hb := (h.bodyLe H.mem).1
  have hn := (pScan_is p.2.1).2.2
  have hd : ∃ d1 p1, opCutx (d, 0) = (d1, 0) ∧ DOk d1 ∧ d1.fuse = -1 ∧ Has d1 histT p1 ∧ p1.2.1 = p.2.1.take (pScan p.2.1).2 ∧ pDir d1 = pDir d := by
    unfold opCutx
    simp only [H.read h]
    by_cases hc : (pScan p.2.1).2 < p.2.1.length
    · rw [if_pos hc]
      refine ⟨putN d histT (p.1, p.2.1.take (pScan p.2.1).2, p.2.2), _, ?_, h.cut (by omega) H hist_name hn (by omega), ?_, H.put h rfl, rfl, rfl⟩
      · unfold stepD; rw [if_pos rfl]; exact pDo_cut h (by omega) H hist_name hn (by omega)
      · exact (fuseOf_step h (by omega)).2 hf
    · rw [if_neg hc]
      exact ⟨d, p, rfl, h, hf, H, by rw [List.take_of_length_le (by omega)], rfl⟩
  obtain ⟨d1, p1, e1, h1, hf1, H1, hp1, hd1⟩ := hd
  rw [e1]
  unfold opEnd stepD
  simp only [if_true]
  rw [pDo_sync h1 (by omega) H1 hist_name]
  have h2 := h1.sync (by omega) H1 hist_name
  have H2 := H1.put h1 (p' := (p1.1, p1.2.1, p1.2.1)) rfl
  have hf2 : (putN d1 histT (p1.1, p1.2.1, p1.2.1)).fuse = -1 := (fuseOf_step h1 (by omega)).2 hf1
  simp only [if_true]
  rw [pDo_dir h2 (by omega)]
  exact ⟨_, _, rfl, h2.dirOk (by omega), (fuseOf_step h2 (by omega)).2 hf2, rfl, H2.dir, hp1, rfl, hd1⟩
theorem opC_there {x : DiskP × Int} (h : (pRead x.1 histT).2 = true) : opC' x = x := by unfold opC'; rw [if_pos h]
/-- What is made before the file is read: the directory is settled, no half made file is there. -/
theorem open_pre {d : DiskP} (h : DOk d) (hf : d.fuse = -1) : ∃ e, opB (opA d) = (e, 0) ∧ DOk e ∧ e.fuse = -1 ∧ e.turns.length ≤ 1 ∧ dHas (pDir e) tempT = false ∧ dHas (pDir e) histT = dHas (pDir d) histT ∧ (∀ p, Has d histT p → Has e histT p) ∧ e.nodes.length = (pDir d).length ∧ e.next = d.next ∧ ∀ s, s ≠ tempT → dHas (pDir e) s = dHas (pDir d) s := by
  unfold opA
  rw [pDo_dir h (by omega)]
  have h1 := h.dirOk (by omega)
  have hf1 : (dirD d).fuse = -1 := (fuseOf_step h (by omega)).2 hf
  unfold opB
  simp only [read_iff h1]
  cases hT : dHas (pDir (dirD d)) tempT with
  | true =>
    obtain ⟨t, HT⟩ := h1.has hT
    rw [if_pos rfl]
    unfold stepD
    rw [if_pos rfl, pDo_rm h1 (by omega) HT temp_name (by unfold dirD; simp)]
    refine ⟨_, rfl, h1.rmD (by omega) HT temp_name (by unfold dirD; simp), (fuseOf_step h1 (by omega)).2 hf1, ?_, ?_, ?_, ?_, dirD_len h (by omega), rfl, ?_⟩
    · unfold turnD dirD; simp
    · rw [rm_dir]; exact dHas_dLess _ _
    · rw [rm_dir, less_has, dirD_dir]; simp [hist_temp]
    · exact fun p H => H.dir.rm h1 hist_temp
    · intro s hs; rw [rm_dir, less_has, dirD_dir]; simp [hs]
  | false =>
    rw [if_neg (by decide)]
    exact ⟨_, rfl, h1, hf1, by unfold dirD; simp, hT, rfl, fun p H => H.dir, dirD_len h (by omega), rfl, fun s _ => rfl⟩
theorem opEnd_dead {x : DiskP × Int} (h : x.2 ≠ 0) : opEnd (opCutx x) = x := by
  have h1 : opCutx x = x := by
    unfold opCutx stepD
    rw [if_neg h]
    split <;> rfl
  rw [h1]
  unfold opEnd stepD
  rw [if_neg h, if_neg h]
/-- Opening with power: the file is there behind it, and what is in it is found; or there is no room for a file. -/
theorem open_law {d : DiskP} {k z : Int} (h : DOk d) (hf : d.fuse = -1) (hr : rangeK k z) :
    ((pOpen d k z).2 = 0 ∧ Live (pOpen d k z).1 ∧ (pOpen d k z).1.keep = k ∧ (pOpen d k z).1.size = z ∧ (pOpen d k z).1.list = (pScan (pRead d histT).1).1 ∧ (pRead (pOpen d k z).1.disk histT).1 = (pRead d histT).1.take (pScan (pRead d histT).1).2) ∨
    ((pOpen d k z).2 = 4 ∧ (pOpen d k z).1.list = [] ∧ dHas (pDir d) histT = false ∧ (8 ≤ (pDir d).length ∨ 1000000 ≤ d.next)) := by
  obtain ⟨e, he, h1, hf1, ht1, hT1, hh1, hH1, hl1, hn1, _⟩ := open_pre h hf
  have hop : pOpen d k z = (let x := opC' (e, 0); let y := opEnd (opCutx x); (⟨y.1, k, z, if y.2 = 0 then (pScan (pRead x.1 histT).1).1 else [], if y.2 = 0 then ((pScan (pRead x.1 histT).1).2 : Int) else 0⟩, y.2)) := by
    unfold pOpen; rw [if_pos ⟨h, hr⟩, he]
  have fin : ∀ (g : DiskP) (p : NodeP), opC' (e, 0) = (g, 0) → DOk g → g.fuse = -1 → dHas (pDir g) tempT = false → Has g histT p → p.2.1 = (pRead d histT).1 →
      (pOpen d k z).2 = 0 ∧ Live (pOpen d k z).1 ∧ (pOpen d k z).1.keep = k ∧ (pOpen d k z).1.size = z ∧ (pOpen d k z).1.list = (pScan (pRead d histT).1).1 ∧ (pRead (pOpen d k z).1.disk histT).1 = (pRead d histT).1.take (pScan (pRead d histT).1).2 := by
    intro g p hg h2 hf2 hT2 H hb
    obtain ⟨f, q, hq, h3, hf3, ht3, Hq, hq1, hq2, hd3⟩ := open_mid h2 hf2 H
    rw [hop, hg]
    simp only [hq, if_true, H.read h2]
    rw [hb] at hq1 ⊢
    obtain ⟨s1, s2, s3⟩ := pScan_is (pRead d histT).1
    refine ⟨by first | trivial | rfl, ?_, by first | trivial | rfl, by first | trivial | rfl, by first | trivial | rfl, ?_⟩
    · refine live_of h3 hr s2 hf3 ht3 Hq (by rw [hq1, s1]) hq2 ?_ (by rw [hd3]; exact hT2)
      rw [s1, List.length_take]; omega
    · rw [Hq.read h3]; exact hq1
  cases hh : dHas (pDir d) histT with
  | true =>
    left
    obtain ⟨p, H⟩ := h.has hh
    exact fin e p (opC_there (by rw [(hH1 p H).read h1])) h1 hf1 hT1 (hH1 p H) (by rw [H.read h])
  | false =>
    have hh2 : dHas (pDir e) histT = false := hh1.trans hh
    have hC : opC' (e, 0) = pDo e (oMk histT) := by unfold opC' stepD; simp only [read_none hh2]; rfl
    rcases pDo_mk h1 (by omega) hh2 hist_name (by omega) with ⟨hx, h4⟩ | ⟨hx, h4⟩
    · right
      rw [hop, hC, h4]
      simp only [opEnd_dead (x := (e, 4)) (by simp)]
      exact ⟨by first | trivial | rfl, by simp, by first | trivial | rfl, by omega⟩
    · left
      have h5 := h1.newD (by omega) hh2 hist_name (by omega) hx
      refine fin (newD e histT) (e.next, [], []) (hC.trans h4) h5 ((fuseOf_step h1 (by omega)).2 hf1) ?_ (Has.newNew h1 hh2) (by rw [read_none hh])
      rw [newD_dir, ins_has, hT1]; simp [hist_temp]
/-- A live store behind a loss of power and a start. -/
theorem Live.again {s : StoreP} (h : Live s) (tn : Int) (cuts : List Int) : DOk (crashD s.disk tn cuts) ∧ (pRead (crashD s.disk tn cuts) histT).1 = s.list.flatMap frame := by
  obtain ⟨p, H, h1, h2⟩ := h.hist
  have hd := h.ok.disk
  have hk : runT s.disk.kept (s.disk.turns.take (tnN s.disk tn)) = pDir s.disk := by unfold pDir; rw [h.turns, List.take_nil]
  obtain ⟨i, K⟩ := HasL.crash hd (tn := tn) (cuts := cuts) (s := histT) (p := p) (by rw [hk]; exact H)
  refine ⟨hd.crash tn cuts, ?_⟩
  rw [K.read (hd.crash tn cuts)]
  unfold crashP
  simp only
  rw [h2, tear_self, h1]
theorem Live.open {s : StoreP} (h : Live s) : (pScan (s.list.flatMap frame)).1 = s.list := by rw [scan_whole h.ok.list]
end Go.Proofs.YtggaghghclomkaaGreat

/- Operations one after another: the plain law. No condition. -/
namespace Go.Proofs.YtggaghghclomkaaGreat
open Go.RowKit
theorem pDo_tot (d : DiskP) (o : OpD) : totD (pDo d o).1 ≤ 1048576 := by
  by_cases hp : DOk d ∧ pOp o = true
  · have := (hp.1.pDo hp.2).totD; omega
  · rw [pDo_no hp, totD_no]; decide
theorem noDk_fits : noDk.fits := by unfold DiskP.fits noDk; simp
theorem pDo_fits (d : DiskP) (o : OpD) : (pDo d o).1.fits := by
  by_cases hp : DOk d ∧ pOp o = true
  · exact (hp.1.pDo hp.2).fitsD
  · rw [pDo_no hp]; exact noDk_fits
end Go.Proofs.YtggaghghclomkaaGreat

/- What a call owns of a disk, part by part; lookups of a name. No condition. -/
namespace Go.Proofs.YtggaghghclomkaaGreat
open Go.RowKit
theorem ODk.parts {w : World} {lo hi : Nat} {d : DiskP} {sn sk st : Value} (h : ODk w lo hi d sn sk st) : ∃ es : List Nd, es.map NdP = d.nodes ∧ ONx w sn es ∧ RowOx LkC 162 2 w sk d.kept ∧ RowOx TnC 121 4 w st d.turns ∧
    (∀ b ∈ bksN sn es, lo ≤ b ∧ b < hi ∧ b ∉ blk sk ∧ b ∉ blk st) ∧ (∀ b ∈ blk sk, lo ≤ b ∧ b < hi ∧ b ∉ blk st) ∧ ∀ b ∈ blk st, lo ≤ b ∧ b < hi := by
  obtain ⟨_, es, h1, h2, h3, h4, h5, h6⟩ := h
  obtain ⟨a1, a2⟩ := app3 h5
  refine ⟨es, h1, h2, h3, h4, fun b hb => ?_, fun b hb => ?_, fun b hb => ?_⟩
  · have := h6 b (List.mem_append.2 (.inl hb)); exact ⟨this.1, this.2, (a1 b hb).1, (a1 b hb).2⟩
  · have := h6 b (List.mem_append.2 (.inr (List.mem_append.2 (.inl hb)))); exact ⟨this.1, this.2, a2 b hb⟩
  · exact h6 b (List.mem_append.2 (.inr (List.mem_append.2 (.inr hb))))
theorem ODk.mk3 {w : World} {lo hi : Nat} {d : DiskP} {sn sk st : Value} {es : List Nd} (hs : hi ≤ w.heap.size) (hm : es.map NdP = d.nodes) (hN : ONx w sn es) (hk : RowOx LkC 162 2 w sk d.kept) (ht : RowOx TnC 121 4 w st d.turns)
    (h1 : ∀ b ∈ bksN sn es, lo ≤ b ∧ b < hi ∧ b ∉ blk sk ∧ b ∉ blk st) (h2 : ∀ b ∈ blk sk, lo ≤ b ∧ b < hi ∧ b ∉ blk st) (h3 : ∀ b ∈ blk st, lo ≤ b ∧ b < hi) : ODk w lo hi d sn sk st := by
  refine ⟨hs, es, hm, hN, hk, ht, ?_, fun b hb => ?_⟩
  · rw [List.nodup_append, List.nodup_append]
    refine ⟨hN.nd, ⟨blk_nodup _, blk_nodup _, fun a ha b hb e => (h2 a ha).2.2 (e ▸ hb)⟩, fun a ha b hb e => ?_⟩
    subst e
    rcases List.mem_append.1 hb with hb | hb
    · exact (h1 a ha).2.2.1 hb
    · exact (h1 a ha).2.2.2 hb
  · rcases List.mem_append.1 hb with hb | hb
    · exact ⟨(h1 b hb).1, (h1 b hb).2.1⟩
    · rcases List.mem_append.1 hb with hb | hb
      · exact ⟨(h2 b hb).1, (h2 b hb).2.1⟩
      · exact h3 b hb
/-- One node is put while others stay. -/
theorem ONx.set2 {w w' : World} {g n c lo hi k : Nat} {es : List Nd} {x' : Nd} {T : Nat → Prop} (hk : k < es.length) (h : ONx w (.slice (some ⟨g, 0, none⟩) n c) es) (hch : Ch T w w') (hT : ∀ j, T j → j = g ∨ j ∈ bkd es[k]) (hrow : RowO NdC 98 3 w' lo hi (.slice (some ⟨g, 0, none⟩) n c) (es.set k x'))
    (hx : OBx w' x'.vb x'.body ∧ OBx w' x'.vs x'.safe) (hn : (bkd x').Nodup) (hap : ∀ b ∈ bkd x', b ∈ bkd es[k] ∨ b ∉ bksN (.slice (some ⟨g, 0, none⟩) n c) es) : ONx w' (.slice (some ⟨g, 0, none⟩) n c) (es.set k x') := by
  have hnd := h.nd
  have hself := nodes_self hk
  have hg : bksN (.slice (some ⟨g, 0, none⟩) n c) es = g :: es.flatMap bkd := rfl
  rw [hg] at hnd hap
  have hnd2 := hnd
  rw [hself, List.flatMap_append, List.flatMap_cons, List.nodup_cons, List.nodup_append, List.nodup_append] at hnd2
  obtain ⟨hgn, hM, ⟨hX, hD, hXD⟩, hMX⟩ := hnd2
  have hgm : ∀ d ∈ es, g ∉ bkd d := fun d hd hb => (List.nodup_cons.1 hnd).1 (List.mem_flatMap.2 ⟨d, hd, hb⟩)
  have hgx : g ∉ bkd x' := fun hb => by
    rcases hap g hb with h1 | h1
    · exact hgm _ (List.getElem_mem hk) h1
    · exact h1 (List.mem_cons_self ..)
  have hnot : ∀ b ∈ bkd x', b ∉ (es.take k).flatMap bkd ∧ b ∉ (es.drop (k + 1)).flatMap bkd := fun b hb => by
    rcases hap b hb with h1 | h1
    · exact ⟨fun h2 => hMX b h2 b (List.mem_append.2 (.inl h1)) rfl, fun h2 => hXD b h1 b h2 rfl⟩
    · have hsub : ∀ d ∈ es, b ∉ bkd d := fun d hd h2 => h1 (List.mem_cons_of_mem _ (List.mem_flatMap.2 ⟨d, hd, h2⟩))
      exact ⟨fun h2 => by obtain ⟨d, hd, h3⟩ := List.mem_flatMap.1 h2; exact hsub d (List.mem_of_mem_take hd) h3, fun h2 => by obtain ⟨d, hd, h3⟩ := List.mem_flatMap.1 h2; exact hsub d (List.mem_of_mem_drop hd) h3⟩
  have keep : ∀ d ∈ es, (∀ b ∈ bkd d, b ∉ bkd es[k]) → OBx w' d.vb d.body ∧ OBx w' d.vs d.safe := fun d hd hb => by
    have hok := h.ok d hd
    have hgd := hgm d hd
    have hne : ∀ b ∈ bkd d, ¬ T b := fun b hb' ht => by
      rcases hT b ht with rfl | h1
      · exact hgd hb'
      · exact hb b hb' h1
    exact ⟨hok.1.ch hch (fun b hb' => hne b (List.mem_append.2 (.inl hb'))), hok.2.ch hch (fun b hb' => hne b (List.mem_append.2 (.inr hb')))⟩
  refine ⟨hrow.x, fun d hd => ?_, ?_⟩
  · rw [nodes_split hk] at hd
    rcases List.mem_append.1 hd with hd | hd
    · exact keep d (List.mem_of_mem_take hd) (fun b hb hbx => hMX b (List.mem_flatMap.2 ⟨d, hd, hb⟩) b (List.mem_append.2 (.inl hbx)) rfl)
    · rcases List.mem_cons.1 hd with rfl | hd
      · exact hx
      · exact keep d (List.mem_of_mem_drop hd) (fun b hb hbx => hXD b hbx b (List.mem_flatMap.2 ⟨d, hd, hb⟩) rfl)
  · show (g :: (es.set k x').flatMap bkd).Nodup
    rw [nodes_split hk, List.flatMap_append, List.flatMap_cons, List.nodup_cons, List.nodup_append, List.nodup_append]
    refine ⟨fun hm => ?_, hM, ⟨hn, hD, fun a ha b hb e => (hnot a ha).2 (e ▸ hb)⟩, fun a ha b hb e => ?_⟩
    · rw [List.mem_append, List.mem_append] at hm
      rcases hm with hm | hm | hm
      · exact hgn (List.mem_append.2 (.inl hm))
      · exact hgx hm
      · exact hgn (List.mem_append.2 (.inr (List.mem_append.2 (.inr hm))))
    · subst e
      rcases List.mem_append.1 hb with hb | hb
      · exact (hnot a hb).1 ha
      · exact hMX a ha a (List.mem_append.2 (.inr hb)) rfl
section
variable {α : Type} {f : α → List Value} {e : TypeId} {P : Program} {L : List Oper} {Q : Exit → Act → World → Prop} {n d : Nat} {l : Env} {w : World} {rest : List Oper} {ty : TypeId} {pos : String} {af : Array Edge} {v v2 : Value} {x y : Operand} {t : TypeId}
/-- Own records are appended to: where they lie then. -/
theorem TL_appendOx {lo2 hi2 size bytes : Nat} {z : Value} {s s2 : List α} (ht : P.underlying t = some (.slice e)) (hi0 : (P.info? e).map (fun i => (i.zero, i.size, i.bytes)) = some (some z, size, bytes)) (hzs : z.cells.size = size) (hpos : Nat.blt 0 size = true) (hby : Nat.ble bytes 1024 = true)
    (hone : ∀ a, ∀ u ∈ f a, u.oneCell' = true) (hx : ev l x = some v) (hy : ev l y = some v2) (ho : RowOx f e size w v s) (hr : RowR f size w lo2 hi2 v2 s2) (hm : s.length + s2.length ≤ 1073741824) (hn : Nat.blt d n = true)
    (h : ∀ w' v', Ch (fun j => j ∈ blk v) w w' → (blk v' = blk v ∨ (blk v' = [w.heap.size] ∧ w.heap.size < w'.heap.size)) → RowOx f e size w' v' (s ++ s2) → TL P L Q rest n ((d, v') :: l) w') :
    TL P L Q (⟨some d, .call { callee := .builtin .append, args := #[x, y], argTypes := #[t, t] }, ty, pos, af, none⟩ :: rest) n l w := by
  obtain ⟨l1, h1, ⟨A, c, rfl, ho0⟩, _⟩ := ho
  obtain ⟨lo, hi, hlo, ho, hin⟩ := ho0.narrow2
  obtain ⟨A2, c2, rfl, _, hr⟩ := hr
  have hb : (s.length + s2.length) * bytes ≤ 140737488355328 := Nat.le_trans (Nat.mul_le_mul hm (Nat.le_of_ble_eq_true hby)) (by decide)
  refine TL_append ht hi0 hzs hpos hx hy ho hr (cellsL_one hone s2) hlo hb (by omega) hn ?_
  intro w1 hi1 A1 c1 hch h1 h2 h3 hown
  have hch' : Ch (fun j => j ∈ blk (.slice A s.length c)) w w1 := hch.mono (fun j hj => hin j hj.1 hj.2)
  refine h w1 _ hch' ?_ (RowO.x ⟨A1, c1, by rw [List.length_append], hown.cast (by rw [List.length_append]) (cellsL_append _ _).symm⟩)
  rcases h3 with rfl | rfl
  · left; cases A1 <;> rfl
  · right; exact ⟨rfl, Nat.lt_of_lt_of_le (hown.lt _ rfl) hown.hi_le⟩
end
section
variable {C : World → Prop} {n : Nat} {l : Env} {dd : Option Nat} {ty : TypeId} {pos : String} {af : Array Edge} {m x : Operand} {b : Nat}
theorem Pu_dirLook1 {s : List UInt8} (hm : ev l m = some (.map (some b))) (hx : ev l x = some (S s)) (hs : s.length ≤ 9223372036854775807) {D : List LkD} (hM : ∀ w, C w → ∃ k, MD w b k D) :
    Pu Tryz.prog C n l ⟨dd, .lookup 104 m x false, ty, pos, af, none⟩ (I (dFind D s)) := Pu_lookG hm hx fun w hw => by
  obtain ⟨k, hk⟩ := hM w hw
  obtain ⟨c, hrun, hc, _⟩ := World.ownsMap.lookup_int hk kStr mUnder Tryz.underlying3 (zInt w) (kyS hs)
  rw [toD_at] at hc
  simp only [DataW.lit.injEq, Lit.int.injEq, true_and] at hc
  rw [hrun, hc]
end
/-- The first k elements of an own row are one. -/
theorem Own.takeN {w : World} {lo hi n c k : Nat} {e : TypeId} {A : Option Addr} {xs : List Value} (h : Own w lo hi e 1 A n c xs) (hk : k ≤ n) : Own w lo hi e 1 A k c (xs.take k) := by
  have hl := h.len
  refine ⟨h.hi_le, ⟨by rw [List.length_take]; omega, ?_⟩, h.lt⟩
  rcases h.row.2 with ⟨hv, h0⟩ | ⟨g, cap, cur, hv, h3, h4, h5, h6, h7, h8⟩
  · injection hv with h1 h2 h9
    subst h1 h9
    have : k = 0 := by omega
    subst this
    exact .inl ⟨rfl, rfl⟩
  · injection hv with h1 h2 h9
    subst h1 h9
    refine .inr ⟨g, c, cur, rfl, h3, h4, by omega, h6, h7, ?_⟩
    rw [← h8, List.take_take, Nat.mul_one, Nat.mul_one, Nat.min_eq_left hk]
/-- A disk of which one node is put. -/
theorem ODk.put {w w' : World} {lo hi hi' g n c lo3 hi3 k : Nat} {d d' : DiskP} {sk st : Value} {es : List Nd} {x' : Nd} {T : Nat → Prop} (hs : hi' ≤ w'.heap.size) (hh : hi ≤ hi') (hm : es.map NdP = d.nodes) (hN : ONx w (.slice (some ⟨g, 0, none⟩) n c) es)
    (hK : RowOx LkC 162 2 w sk d.kept) (hT : RowOx TnC 121 4 w st d.turns) (h1 : ∀ b ∈ bksN (.slice (some ⟨g, 0, none⟩) n c) es, lo ≤ b ∧ b < hi ∧ b ∉ blk sk ∧ b ∉ blk st) (h2 : ∀ b ∈ blk sk, lo ≤ b ∧ b < hi ∧ b ∉ blk st) (h3 : ∀ b ∈ blk st, lo ≤ b ∧ b < hi)
    (hk : k < es.length) (hch : Ch T w w') (hTT : ∀ j, T j → j = g ∨ j ∈ bkd es[k]) (hrow : RowO NdC 98 3 w' lo3 hi3 (.slice (some ⟨g, 0, none⟩) n c) (es.set k x')) (hx : OBx w' x'.vb x'.body ∧ OBx w' x'.vs x'.safe) (hn : (bkd x').Nodup)
    (hap : ∀ b ∈ bkd x', b ∈ bkd es[k] ∨ (hi ≤ b ∧ b < hi')) (hlh : lo ≤ hi) (e1 : d'.nodes = d.nodes.set k (NdP x')) (e2 : d'.kept = d.kept) (e3 : d'.turns = d.turns) : ODk w' lo hi' d' (.slice (some ⟨g, 0, none⟩) n c) sk st := by
  have hb : ∀ j, T j → j ∈ bksN (.slice (some ⟨g, 0, none⟩) n c) es := fun j hj => by
    rcases hTT j hj with rfl | h
    · exact List.mem_append.2 (.inl (List.mem_singleton.2 rfl))
    · exact bkd_in hk j h
  have hN' := ONx.set2 hk hN hch hTT hrow hx hn (fun b hb' => by
    rcases hap b hb' with h | h
    · exact .inl h
    · right; intro hm; have := h1 b hm; omega)
  refine ODk.mk3 hs (by rw [e1, List.map_set, hm]) hN' (by rw [e2]; exact hK.ch hch (fun b hb' ht => (h1 b (hb b ht)).2.2.1 hb')) (by rw [e3]; exact hT.ch hch (fun b hb' ht => (h1 b (hb b ht)).2.2.2 hb')) ?_ (fun b hb' => by have := h2 b hb'; exact ⟨this.1, by omega, this.2.2⟩) (fun b hb' => by have := h3 b hb'; omega)
  refine bks_set (R := fun b => lo ≤ b ∧ b < hi' ∧ b ∉ blk sk ∧ b ∉ blk st) (fun b hb' => by have := h1 b hb'; exact ⟨this.1, by omega, this.2.2⟩) (fun b hb' => ?_)
  rcases hap b hb' with h | h
  · have := h1 b (bkd_in hk b h); exact ⟨this.1, by omega, this.2.2⟩
  · exact ⟨by omega, h.2, fun h' => by have := h2 b h'; omega, fun h' => by have := h3 b h'; omega⟩
end Go.Proofs.YtggaghghclomkaaGreat

/- Contracts: an operation on a disk, by the program. -/
namespace Go.Proofs.YtggaghghclomkaaGreat
open Go.RowKit
attribute [local irreducible] TL TC TN TX TR TQ TA Pu Ret
set_option maxRecDepth 100000 in
set_option maxHeartbeats 16000000 in
theorem opCode_c {w : World} {lo hi : Nat} {d : DiskP} {sn sk st vo : Value} {o : OpD} (h : RDk w lo hi d sn sk st) (hf : d.fits) (_hl : totD d ≤ 1048576) (hD : DOk d) (hO : pOp o = true) :
    Ret Tryz.prog 93 #[.agg (dskC d sn sk st).toArray, .agg (opC o vo).toArray] w fun v' w' => v' = I (pCode d o) ∧ Ext w w' := by
  have hh := h
  obtain ⟨ft1, ft2⟩ := fits_tk hf
  obtain ⟨ds, A, c, hm, rfl, hc, hr, hok⟩ := h.1
  obtain ⟨At, ct, rfl, hct, hrt⟩ := h.2.2.row
  have hln : d.nodes.length = ds.length := by rw [← hm, List.length_map]
  have hB := hD.base
  unfold dBase at hB
  obtain ⟨p1, p2, p3, p4, p5, p6, p7, p8, p9⟩ := pOp_parts hO
  obtain ⟨kind, name, to, size, data⟩ := o
  simp only at p1 p2 p3 p4 p5 p6 p7 p8 p9
  have hs : name.length ≤ 9223372036854775807 := by
    by_cases h7 : kind = 7
    · rw [p2 h7]; simp
    · have := pName_len (p3 h7); omega
  refine Ret_enter Tryz.func93 rfl rfl rfl ?_
  repeat' (first | apply Jbs | apply Jbt)
  refine TL_box (cs := dskC d (.slice A ds.length c) sk (.slice At d.turns.length ct)) rfl rfl ?_
  intro w1 g2 e1 hg2 hz1 hb2
  skip
  refine TL_box (cs := opC ⟨kind, name, to, size, data⟩ vo) rfl rfl ?_
  intro w2 g3 e2 hg3 hz2 hb3
  replace hb2 := hb2.ext e2
  have E2 : Ext w w2 := e1.ext e2
  repeat' (first | apply Jbq | apply Jbr | apply Jbs | apply Jbt | (apply Jcg; (first | exact Jab rfl | (apply Jbl; exact Us.h; exact rfl; exact Sz.h; exact rfl)); exact rfl) | refine Jcg (Pu_load Fl.h rfl (fun _ e => by rw [e]; exact hb2.ld rfl)) rfl ?_)
  refine TL_call rfl en67 (dirOf_c (hh.2.1.ext E2) (hh.2.2.ext E2) (kept_asc ((dok_iff d).1 hD).link) (by omega) (by omega) ft1 ft2) rfl rfl ?_
  rintro _ w3 ⟨e3, hq⟩
  rcases hq with ⟨_, b, kb, rfl, _, _, hM⟩ | ⟨hA, _⟩
  case inr => exact absurd ((dok_iff d).1 hD).turn hA
  rw [show runT d.kept d.turns = pDir d from rfl] at hM
  replace hb2 := hb2.ext e3
  replace hb3 := hb3.ext e3
  have E3 := E2.ext e3
  have hk7 : kind = 1 ∨ kind = 2 ∨ kind = 3 ∨ kind = 4 ∨ kind = 5 ∨ kind = 6 ∨ kind = 7 := by omega
  cases hhas : dHas (pDir d) name with
  | false =>
    clear hr hok hrt ft1 ft2 e1 e2 e3 E2
    rcases hk7 with rfl | rfl | rfl | rfl | rfl | rfl | rfl
    all_goals (repeat' (first | apply Jbq | apply Jbr | apply Jbs | apply Jbt | apply Jbu | apply Jbv | apply Jbw | apply Jby | (refine Jce rfl ?_) | (refine Jcf rfl ?_) | (apply Jcg; (first | exact Jaa rfl | exact Jab rfl | exact Jac Us.h rfl | exact Jae rfl rfl | exact Jah rfl rfl | exact Jai rfl rfl | exact Jak rfl rfl | exact Jal rfl rfl | exact Jao rfl rfl | exact Jau Us.h rfl rfl | (apply Jbl; exact Us.h; exact rfl; exact Sz.h; exact rfl)); exact rfl) | refine Jch rfl rfl rfl ?_ | refine Jci rfl rfl rfl rfl rfl ?_ | refine Jcj rfl rfl rfl rfl ?_ | refine Jcg (Pu_load Fl.h rfl (fun _ e => by rw [e]; exact hb2.ld rfl)) rfl ?_ | refine Jcg (Pu_load Fl.h rfl (fun _ e => by rw [e]; exact hb3.ld rfl)) rfl ?_ | refine Jcg (Pu_dirLookB rfl rfl hs hhas (fun w' e => ⟨kb, by rw [e]; exact hM⟩)) rfl ?_ | (refine Jcs rfl rfl (fun hb => ?_) (fun hb => ?_) <;> (try (exfalso; omega))) | (refine Jcx rfl (fun hb => ?_) (fun hb => ?_) <;> (try (exfalso; omega)))))
    all_goals first
      | (refine TR_of (res1 rfl rfl) ⟨congrArg I ?_, E3⟩; (first | rw [pCode_1 rfl] | rw [pCode_23 (.inl rfl)] | rw [pCode_23 (.inr rfl)] | rw [pCode_4 rfl] | rw [pCode_5 rfl] | rw [pCode_6 rfl] | rw [pCode_7 rfl]); (try simp only [hhas]); (repeat' split) <;> first | rfl | (exfalso; omega) | contradiction)
      | skip
    all_goals (refine TC_quietExt mixed (by kernel_rfl) ?_)
    all_goals (repeat' (first | (apply Jck; (first | exact Jaa rfl | exact Jab rfl | exact Jai rfl rfl | exact Jak rfl rfl | (apply Jbl; exact Us.h; exact rfl; exact Sz.h; exact rfl)); exact rfl) | refine Jcm rfl rfl rfl rfl rfl ?_ | refine Jck (Pu_load Fl.h rfl (fun _ e => Ext.cell e (hb3.ld rfl))) rfl ?_))
    all_goals (refine TQ_nil fun w5 e5 => ?_)
    all_goals (replace hb2 := hb2.ext e5; replace hb3 := hb3.ext e5)
    all_goals (repeat' (first | apply Jbq | apply Jbr | apply Jbs | apply Jbt | apply Jbu | apply Jbx | apply Jbz | (refine Jcf rfl ?_) | (apply Jcg; (first | exact Jaa rfl | exact Jab rfl | exact Jai rfl rfl | exact Jak rfl rfl | (apply Jbl; exact Us.h; exact rfl; exact Sz.h; exact rfl)); exact rfl) | refine Jci rfl rfl rfl rfl rfl ?_ | refine Jcg (Pu_load Fl.h rfl (fun _ e => by rw [e]; exact hb3.ld rfl)) rfl ?_))
    all_goals (refine TR_of (res1 rfl rfl) ⟨congrArg I ?_, E3.ext e5⟩; (first | rw [pCode_1 rfl] | rw [pCode_23 (.inl rfl)] | rw [pCode_23 (.inr rfl)] | rw [pCode_4 rfl] | rw [pCode_5 rfl] | rw [pCode_6 rfl] | rw [pCode_7 rfl]); (try simp only [hhas]); (repeat' split) <;> first | rfl | (exfalso; omega) | contradiction)
  | true =>
    obtain ⟨i, hi, hat, _⟩ := hD.dirAt hhas
    have hne7 : kind ≠ 7 := fun e => by rw [p2 e, hD.noName] at hhas; cases hhas
    have hbat : bodyAt d (opAt d ⟨kind, name, to, size, data⟩) = d.nodes[i].2.1 := by unfold opAt; simp only; rw [hat]; exact bodyAt_nat hi
    obtain ⟨ad, rfl, hcell⟩ := Rd.elem NdC_len (hr.ext E3) (k := i) (by omega)
    have hni : d.nodes[i] = NdP ds[i] := by simp only [← hm, List.getElem_map]
    have hbody : d.nodes[i].2.1 = ds[i].body := by rw [hni]; rfl
    have hrb := (hok _ (List.getElem_mem (show i < ds.length by omega))).1
    have hcv : w3.cell? ((ad.add (i * 3)).add 1) = some (ds[i]'(by omega)).vb := hcell 1 _ rfl
    obtain ⟨x, hx⟩ : ∃ x, x = ds[i]'(by omega) := ⟨_, rfl⟩
    rw [← hx] at hcv hrb hbody
    rw [hbody] at hbat
    obtain ⟨Ab, cb, hvb, hcb, hrdb⟩ := hrb
    rw [hvb] at hcv
    obtain ⟨B, hBq⟩ : ∃ B, B = x.body := ⟨_, rfl⟩
    rw [← hBq] at hcv hbat
    clear hr hok hrt ft1 ft2 e1 e2 e3 hcell hrdb
    have hk6 : kind = 1 ∨ kind = 2 ∨ kind = 3 ∨ kind = 4 ∨ kind = 5 ∨ kind = 6 := by omega
    have hnd : ∀ w', Ext w3 w' → Ret Tryz.prog 94 #[.agg (dskC d (.slice (some ad) ds.length c) sk (.slice At d.turns.length ct)).toArray, I (dFind (pDir d) name)] w' fun v w'' => v = I (i : Int) ∧ Ext w3 w'' := fun w' e =>
      (implnodeAt_c (hh.ext (E3.ext e)) (by omega)).mono fun v w'' ⟨hv, e2⟩ => ⟨by rw [hv, hat], e.ext e2⟩
    rcases hk6 with rfl | rfl | rfl | rfl | rfl | rfl
    all_goals (repeat' (first | apply Jbq | apply Jbr | apply Jbs | apply Jbt | apply Jbu | apply Jbv | apply Jbw | apply Jby | (refine Jce rfl ?_) | (refine Jcf rfl ?_) | (apply Jcg; (first | exact Jaa rfl | exact Jab rfl | exact Jac Us.h rfl | exact Jae rfl rfl | exact Jah rfl rfl | exact Jai rfl rfl | exact Jak rfl rfl | exact Jal rfl rfl | exact Jao rfl rfl | exact Jau Us.h rfl rfl | (apply Jbl; exact Us.h; exact rfl; exact Sz.h; exact rfl)); exact rfl) | refine Jch rfl rfl rfl ?_ | refine Jci rfl rfl rfl rfl rfl ?_ | refine Jcj rfl rfl rfl rfl ?_ | refine Jcg (Pu_load Fl.h rfl (fun _ e => by rw [e]; exact hb2.ld rfl)) rfl ?_ | refine Jcg (Pu_load Fl.h rfl (fun _ e => by rw [e]; exact hb3.ld rfl)) rfl ?_ | refine Jcg (Pu_dirLookB rfl rfl hs hhas (fun w' e => ⟨kb, by rw [e]; exact hM⟩)) rfl ?_ | (refine Jcx rfl (fun hb => ?_) (fun hb => ?_) <;> (try (exfalso; omega)))))
    all_goals first
      | (refine TR_of (res1 rfl rfl) ⟨congrArg I ?_, E3⟩; (first | rw [pCode_1 rfl] | rw [pCode_23 (.inl rfl)] | rw [pCode_23 (.inr rfl)] | rw [pCode_4 rfl] | rw [pCode_5 rfl] | rw [pCode_6 rfl] | rw [pCode_7 rfl]); (try simp only [hhas]); (repeat' split) <;> first | rfl | (exfalso; omega) | contradiction)
      | skip
    all_goals (refine TC_quietExt mixed (by kernel_rfl) ?_)
    all_goals (repeat' (first | (apply Jck; (first | exact Jaa rfl | exact Jab rfl | exact Jac Us.h rfl | exact Jah rfl rfl | exact Jai rfl rfl | exact Jak rfl rfl | exact Jam rfl rfl | exact Jar Us.h Sz.h rfl rfl (by omega) | (apply Jbl; exact Us.h; exact rfl; exact Sz.h; exact rfl)); exact rfl) | refine Jcl rfl rfl rfl ?_ | refine Jcm rfl rfl rfl rfl rfl ?_ | refine Jck (Pu_load Fl.h rfl (fun _ e => Ext.cell e (hb2.ld rfl))) rfl ?_ | refine Jck (Pu_load Fl.h rfl (fun _ e => Ext.cell e (hb3.ld rfl))) rfl ?_ | refine Jck (Pu_load Fl.h rfl (fun _ e => Ext.cell e hcv)) rfl ?_ | refine Jck (Pu_loadAgg (cs := dskC d (.slice (some ad) ds.length c) sk (.slice At d.turns.length ct)) Us.h rfl Sz.h rfl (fun _ e j u hu => Ext.cell e (by rw [add0, hb2.cell]; exact hu))) rfl ?_ | refine TQ_call rfl en94 hnd rfl ?_))
    all_goals (refine TQ_nil fun w5 e5 => ?_)
    all_goals (replace hb2 := hb2.ext e5; replace hb3 := hb3.ext e5)
    all_goals (repeat' (first | apply Jbq | apply Jbr | apply Jbs | apply Jbt | apply Jbu | apply Jbv | apply Jbw | apply Jbx | apply Jbz | (refine Jcf rfl ?_) | (apply Jcg; (first | exact Jaa rfl | exact Jab rfl | exact Jah rfl rfl | exact Jai rfl rfl | exact Jak rfl rfl | exact Jas rfl rfl | (apply Jbl; exact Us.h; exact rfl; exact Sz.h; exact rfl)); exact rfl) | refine Jch rfl rfl rfl ?_ | refine Jci rfl rfl rfl rfl rfl ?_ | refine Jcg (Pu_load Fl.h rfl (fun _ e => by rw [e]; exact hb3.ld rfl)) rfl ?_ | (refine Jcx rfl (fun hb => ?_) (fun hb => ?_) <;> (try (exfalso; omega)))))
    all_goals (refine TR_of (res1 rfl rfl) ⟨congrArg I ?_, E3.ext e5⟩; (first | rw [pCode_1 rfl] | rw [pCode_23 (.inl rfl)] | rw [pCode_23 (.inr rfl)] | rw [pCode_4 rfl, hbat] | rw [pCode_5 rfl] | rw [pCode_6 rfl] | rw [pCode_7 rfl]); (try simp only [hhas]); (repeat' split) <;> first | rfl | (exfalso; omega) | contradiction)
end Go.Proofs.YtggaghghclomkaaGreat
