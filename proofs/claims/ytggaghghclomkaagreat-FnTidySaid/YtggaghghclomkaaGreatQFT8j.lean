/- Texts of this proof laid together, in the order in which they build; what each proves stands ahead of it. No condition but those told there. -/
import Derived.Test.YtggaghghclomkaaGreatQFT8i
import Derived.Laws.StructEq

/- Contracts: whether a store is right; the entries of a disk. -/
namespace Go.Proofs.YtggaghghclomkaaGreat
open Go.RowKit
/-- What is asked of a store beside its parts. -/
def sTail (s : StoreP) : Prop := (pRead s.disk histT).2 = true ∧ (pLog s.list).2 = true ∧ (pRead s.disk histT).1 = (pLog s.list).1 ∧ s.len = ((pLog s.list).1.length : Int) ∧ (pRead s.disk tempT).2 = false
structure SOk (s : StoreP) : Prop where
  disk : DOk s.disk
  range : 1 ≤ s.keep ∧ s.keep ≤ 100 ∧ 0 ≤ s.size ∧ s.size ≤ 60000
  list : pEntries s.list = true
  tail : s.disk.fuse = 0 ∨ sTail s
open Classical in
noncomputable def pSOk (s : StoreP) : Bool := decide (SOk s)
open Classical in
theorem pSOk_yes {s : StoreP} (h : SOk s) : pSOk s = true := by unfold pSOk; exact decide_eq_true h
open Classical in
theorem pSOk_no {s : StoreP} (h : ¬ SOk s) : pSOk s = false := by unfold pSOk; exact decide_eq_false h
theorem pDOk_not {d : DiskP} (h : pDOk d = false) : ¬ DOk d := fun h2 => by rw [pDOk_yes h2] at h; cases h
attribute [local irreducible] TL TC TN TX TR TQ TA Pu Ret
theorem l06Range_c (k z : Int) (w : World) : Ret Tryz.prog 104 #[I k, I z] w fun v w' => v = .bool (decide (1 ≤ k ∧ k ≤ 100 ∧ 0 ≤ z ∧ z ≤ 60000)) ∧ w = w' := by
  refine Ret_enter Tryz.func104 rfl rfl rfl ?_
  repeat' (first | apply Jbq | apply Jbr | apply Jbs | apply Jbt | apply Jbu | (apply Jcg; (first | exact Jaa rfl | exact Jab rfl | exact Jah rfl rfl | exact Jai rfl rfl | exact Jan rfl rfl | exact Jao rfl rfl); exact rfl) | refine Jch rfl rfl rfl ?_ | refine Jci rfl rfl rfl rfl rfl ?_ | (refine Jcs rfl rfl (fun hb => ?_) (fun hb => ?_) <;> (try (exfalso; omega))))
  all_goals exact TR_of (res1 rfl rfl) ⟨by first | exact congrArg Value.bool (decide_eq_decide.2 (by omega)) | exact congrArg Value.bool (decide_eq_false (by omega)).symm | exact congrArg Value.bool (decide_eq_true (by omega)).symm, rfl⟩
set_option maxRecDepth 100000 in
set_option maxHeartbeats 8000000 in
theorem specStoreOk_c {w : World} {lo hi : Nat} {s : StoreP} {sn sk st sl : Value} (h : RSt w lo hi s sn sk st sl) (hf : s.fits) (hl : totS s ≤ 1048576) :
    Ret Tryz.prog 112 #[.agg (stoC s sn sk st sl).toArray] w fun v' w' => v' = .bool (pSOk s) ∧ Ext w w' := by
  obtain ⟨l1, l2⟩ := totS_parts hl
  refine Ret_enter Tryz.func112 rfl rfl rfl ?_
  repeat' (first | apply Jbs | apply Jbt)
  refine TL_box (cs := stoC s sn sk st sl) rfl rfl ?_
  intro w1 g E hg hz hbk
  clear hg hz
  repeat' (first | apply Jbq | apply Jbr | apply Jbs | apply Jbt | (apply Jcg; (first | exact Jab rfl | (apply Jbl; exact Us.h; exact rfl; exact Sz.h; exact rfl)); exact rfl) | refine Jcg (Pu_loadAgg (cs := dskC s.disk sn sk st) Us.h rfl Sz.h rfl (fun _ e j u hu => blk_disk hbk e j u hu)) rfl ?_)
  refine TL_call rfl en57 (specDiskOk_c (h.1.ext E) hf.1 l1) rfl rfl ?_
  rintro _ w2 ⟨rfl, e2⟩
  replace hbk := hbk.ext e2
  replace E := E.ext e2
  cases hp : pDOk s.disk with
  | false =>
    repeat' (first | apply Jbq | apply Jbr | apply Jbs | apply Jbt | apply Jbu | apply Jbv | (refine Jce rfl ?_) | (apply Jcg; (first | exact Jaa rfl | exact Jab rfl | exact Jah rfl rfl | exact Jaj rfl); exact rfl) | refine Jci rfl rfl rfl rfl rfl ?_)
    exact TR_of (res1 rfl rfl) ⟨by rw [pSOk_no (fun q => pDOk_not hp q.disk)], E⟩
  | true =>
    repeat' (first | (apply Jcg; (first | exact Jaa rfl | exact Jaj rfl | (apply Jbl; exact Us.h; exact rfl; exact Sz.h; exact rfl)); exact rfl) | refine Jch rfl rfl rfl ?_ | refine Jcg (Pu_load Fl.h rfl (fun _ e => by rw [e]; exact hbk.ld rfl)) rfl ?_)
    refine TL_call rfl en104 (l06Range_c _ _ _) rfl rfl ?_
    rintro _ _ ⟨rfl, rfl⟩
    by_cases hr : 1 ≤ s.keep ∧ s.keep ≤ 100 ∧ 0 ≤ s.size ∧ s.size ≤ 60000
    · rw [decide_eq_true hr]
      repeat' (first | (apply Jcg; (first | exact Jaa rfl | exact Jai rfl rfl | exact Jaj rfl | (apply Jbl; exact Us.h; exact rfl; exact Sz.h; exact rfl)); exact rfl) | refine Jch rfl rfl rfl ?_ | refine Jcg (Pu_load Fl.h rfl (fun _ e => by rw [e]; exact hbk.ld rfl)) rfl ?_)
      refine TL_call rfl en160 (specEntriesOk_k (h.2.ext E) l2) rfl rfl ?_
      rintro _ w3 ⟨rfl, e3⟩
      replace hbk := hbk.ext e3
      replace E := E.ext e3
      cases he : pEntries s.list with
      | false =>
        repeat' (first | apply Jbq | apply Jbr | apply Jbs | apply Jbt | apply Jbu | apply Jbv | (refine Jce rfl ?_) | (apply Jcg; (first | exact Jab rfl | exact Jai rfl rfl | exact Jaj rfl); exact rfl) | refine Jch rfl rfl rfl ?_)
        exact TR_of (res1 rfl rfl) ⟨by rw [pSOk_no (fun q => by rw [q.list] at he; cases he)], E⟩
      | true =>
        repeat' (first | apply Jbq | apply Jbr | apply Jbs | apply Jbt | apply Jbz | (refine Jcf rfl ?_) | (apply Jcg; (first | exact Jai rfl rfl | exact Jaj rfl | exact Jak rfl rfl | (apply Jbl; exact Us.h; exact rfl; exact Sz.h; exact rfl)); exact rfl) | refine Jch rfl rfl rfl ?_ | refine Jcg (Pu_load Fl.h rfl (fun _ e => by rw [e]; exact hbk.ld rfl)) rfl ?_)
        refine Jcx rfl (fun hz => ?_) (fun hz => ?_)
        · repeat' (first | apply Jbq | apply Jbr | apply Jbs | apply Jbt | apply Jbu | apply Jbv | (apply Jcg; exact Jab rfl; exact rfl))
          exact TR_of (res1 rfl rfl) ⟨by rw [pSOk_yes ⟨pDOk_of hp, hr, he, .inl hz⟩], E⟩
        have hno : ¬ sTail s → pSOk s = false := fun hn => pSOk_no (fun q => q.tail.elim hz hn)
        have hyes : sTail s → pSOk s = true := fun ht => pSOk_yes ⟨pDOk_of hp, hr, he, .inr ht⟩
        repeat' (first | apply Jbr | apply Jbs | apply Jbt | apply Jbz | (apply Jcg; (apply Jbl; exact Us.h; exact rfl; exact Sz.h; exact rfl); exact rfl) | refine Jcg (Pu_loadAgg (cs := dskC s.disk sn sk st) Us.h rfl Sz.h rfl (fun _ e j u hu => blk_disk hbk e j u hu)) rfl ?_)
        refine TL_call rfl en106 (specDiskRead_c (s := histT) (h.1.ext E) hf.1 l1) rfl rfl ?_
        rintro _ w4 ⟨v4, rfl, e4, r4⟩
        replace hbk := hbk.ext e4
        replace E := E.ext e4
        repeat' (first | apply Jbq | apply Jbr | apply Jbs | apply Jbt | (apply Jcg; (first | exact Jaa rfl | exact Jab rfl | exact Jae rfl rfl | (apply Jbl; exact Us.h; exact rfl; exact Sz.h; exact rfl)); exact rfl) | refine Jcg (Pu_load Fl.h rfl (fun _ e => by rw [e]; exact hbk.ld rfl)) rfl ?_)
        refine TL_call rfl en124 (specLogBytes_k (h.2.ext E) l2) rfl rfl ?_
        rintro _ w5 ⟨v5, rfl, e5, r5⟩
        replace hbk := hbk.ext e5
        replace E := E.ext e5
        replace r4 := r4.ext e5
        repeat' (first | apply Jbq | apply Jbr | apply Jbs | apply Jbt | (apply Jcg; (first | exact Jaa rfl | exact Jab rfl | exact Jae rfl rfl | (apply Jbl; exact Us.h; exact rfl; exact Sz.h; exact rfl)); exact rfl) | refine Jcg (Pu_loadAgg (cs := dskC s.disk sn sk st) Us.h rfl Sz.h rfl (fun _ e j u hu => blk_disk hbk e j u hu)) rfl ?_)
        refine TL_call rfl en106 (specDiskRead_c (s := tempT) (h.1.ext E) hf.1 l1) rfl rfl ?_
        rintro _ w6 ⟨v6, rfl, e6, r6⟩
        replace hbk := hbk.ext e6
        replace E := E.ext e6
        replace r4 := r4.ext e6
        replace r5 := r5.rd.ext e6
        obtain ⟨A4, c4, rfl, hc4, q4⟩ := r4
        obtain ⟨A5, c5, rfl, hc5, q5⟩ := r5
        have hpl := pRead_len s.disk histT l1
        clear r6
        unfold sTail at hno hyes
        cases h4 : (pRead s.disk histT).2 with
        | false =>
          have hno := hno (fun q => by rw [q.1] at h4; cases h4)
          repeat' (first | apply Jbq | apply Jbr | apply Jbs | apply Jbt | apply Jbu | (apply Jcg; (first | exact Jaa rfl | exact Jab rfl | exact Jae rfl rfl | exact Jai rfl rfl); exact rfl) | refine Jci rfl rfl rfl rfl rfl ?_)
          exact TR_of (res1 rfl rfl) ⟨by rw [hno], E⟩
        | true =>
          cases h5 : (pLog s.list).2 with
          | false =>
            have hno := hno (fun q => by rw [q.2.1] at h5; cases h5)
            repeat' (first | apply Jbq | apply Jbr | apply Jbs | apply Jbt | apply Jbu | (apply Jcg; (first | exact Jaa rfl | exact Jab rfl | exact Jae rfl rfl | exact Jah rfl rfl | exact Jai rfl rfl); exact rfl) | refine Jch rfl rfl rfl ?_ | refine Jci rfl rfl rfl rfl rfl ?_)
            exact TR_of (res1 rfl rfl) ⟨by rw [hno], E⟩
          | true =>
            by_cases hq : (pRead s.disk histT).1 = (pLog s.list).1
            · by_cases hn : s.len = ((pLog s.list).1.length : Int)
              · have hn2 : s.len = ((pRead s.disk histT).1.length : Int) := by rw [hn, hq]
                cases h6 : (pRead s.disk tempT).2 with
                | false =>
                  have hyes := hyes ⟨h4, h5, hq, hn, h6⟩
                  repeat' (first | apply Jbq | apply Jbr | apply Jbs | apply Jbt | apply Jbu | (apply Jcg; (first | exact Jaa rfl | exact Jab rfl | exact Jac Us.h rfl | exact Jae rfl rfl | exact Jah rfl rfl | exact Jai rfl rfl | exact Jaj rfl | exact Jak rfl rfl | exact Jas rfl rfl | (apply Jbl; exact Us.h; exact rfl; exact Sz.h; exact rfl)); exact rfl) | refine Jch rfl rfl rfl ?_ | refine Jci rfl rfl rfl rfl rfl ?_ | refine Jcg (Pu_load Fl.h rfl (fun _ e => by rw [e]; exact hbk.ld rfl)) rfl ?_ | refine Jcg (Pu_string Us.h Us.h Us.h rfl (fun w' e => by rw [e]; exact ⟨_, _, q4⟩)) rfl ?_ | refine Jcg (Pu_string Us.h Us.h Us.h rfl (fun w' e => by rw [e]; exact ⟨_, _, q5⟩)) rfl ?_ | (refine Jcs rfl rfl (fun hb => ?_) (fun hb => ?_) <;> (try (exfalso; omega))))
                  all_goals first | exact absurd hq (by assumption) | exact TR_of (res1 rfl rfl) ⟨by rw [hyes]; rfl, E⟩
                | true =>
                  have hno := hno (fun q => by rw [q.2.2.2.2] at h6; cases h6)
                  repeat' (first | apply Jbq | apply Jbr | apply Jbs | apply Jbt | apply Jbu | (apply Jcg; (first | exact Jaa rfl | exact Jab rfl | exact Jac Us.h rfl | exact Jae rfl rfl | exact Jah rfl rfl | exact Jai rfl rfl | exact Jaj rfl | exact Jak rfl rfl | exact Jas rfl rfl | (apply Jbl; exact Us.h; exact rfl; exact Sz.h; exact rfl)); exact rfl) | refine Jch rfl rfl rfl ?_ | refine Jci rfl rfl rfl rfl rfl ?_ | refine Jcg (Pu_load Fl.h rfl (fun _ e => by rw [e]; exact hbk.ld rfl)) rfl ?_ | refine Jcg (Pu_string Us.h Us.h Us.h rfl (fun w' e => by rw [e]; exact ⟨_, _, q4⟩)) rfl ?_ | refine Jcg (Pu_string Us.h Us.h Us.h rfl (fun w' e => by rw [e]; exact ⟨_, _, q5⟩)) rfl ?_ | (refine Jcs rfl rfl (fun hb => ?_) (fun hb => ?_) <;> (try (exfalso; omega))))
                  all_goals first | exact absurd hq (by assumption) | exact TR_of (res1 rfl rfl) ⟨by rw [hno]; rfl, E⟩
              · have hno := hno (fun q => hn q.2.2.2.1)
                have hn2 : ¬ s.len = ((pRead s.disk histT).1.length : Int) := by rw [hq]; exact hn
                repeat' (first | apply Jbq | apply Jbr | apply Jbs | apply Jbt | apply Jbu | (apply Jcg; (first | exact Jaa rfl | exact Jab rfl | exact Jac Us.h rfl | exact Jae rfl rfl | exact Jah rfl rfl | exact Jai rfl rfl | exact Jak rfl rfl | exact Jas rfl rfl | (apply Jbl; exact Us.h; exact rfl; exact Sz.h; exact rfl)); exact rfl) | refine Jch rfl rfl rfl ?_ | refine Jci rfl rfl rfl rfl rfl ?_ | refine Jcg (Pu_load Fl.h rfl (fun _ e => by rw [e]; exact hbk.ld rfl)) rfl ?_ | refine Jcg (Pu_string Us.h Us.h Us.h rfl (fun w' e => by rw [e]; exact ⟨_, _, q4⟩)) rfl ?_ | refine Jcg (Pu_string Us.h Us.h Us.h rfl (fun w' e => by rw [e]; exact ⟨_, _, q5⟩)) rfl ?_ | (refine Jcs rfl rfl (fun hb => ?_) (fun hb => ?_) <;> (try (exfalso; omega))))
                all_goals first | exact absurd hq (by assumption) | exact TR_of (res1 rfl rfl) ⟨by rw [hno], E⟩
            · have hno := hno (fun q => hq q.2.2.1)
              repeat' (first | apply Jbq | apply Jbr | apply Jbs | apply Jbt | apply Jbu | (apply Jcg; (first | exact Jaa rfl | exact Jab rfl | exact Jac Us.h rfl | exact Jae rfl rfl | exact Jah rfl rfl | exact Jai rfl rfl | exact Jaj rfl | exact Jak rfl rfl | exact Jas rfl rfl | (apply Jbl; exact Us.h; exact rfl; exact Sz.h; exact rfl)); exact rfl) | refine Jch rfl rfl rfl ?_ | refine Jci rfl rfl rfl rfl rfl ?_ | refine Jcg (Pu_load Fl.h rfl (fun _ e => by rw [e]; exact hbk.ld rfl)) rfl ?_ | refine Jcg (Pu_string Us.h Us.h Us.h rfl (fun w' e => by rw [e]; exact ⟨_, _, q4⟩)) rfl ?_ | refine Jcg (Pu_string Us.h Us.h Us.h rfl (fun w' e => by rw [e]; exact ⟨_, _, q5⟩)) rfl ?_ | (refine Jcs rfl rfl (fun hb => ?_) (fun hb => ?_) <;> (try (exfalso; omega))))
              all_goals first | exact absurd (show (pRead s.disk histT).1 = (pLog s.list).1 by assumption) hq | exact TR_of (res1 rfl rfl) ⟨by rw [hno], E⟩
    · rw [decide_eq_false hr]
      repeat' (first | apply Jbq | apply Jbr | apply Jbs | apply Jbt | apply Jbu | apply Jbv | (refine Jce rfl ?_) | (apply Jcg; (first | exact Jaa rfl | exact Jab rfl | exact Jah rfl rfl | exact Jai rfl rfl | exact Jaj rfl); exact rfl) | refine Jch rfl rfl rfl ?_ | refine Jci rfl rfl rfl rfl rfl ?_)
      exact TR_of (res1 rfl rfl) ⟨by rw [pSOk_no (fun q => hr q.range)], E⟩
set_option maxRecDepth 100000 in
set_option maxHeartbeats 8000000 in
theorem implStoreOk_c {w : World} {lo hi : Nat} {s : StoreP} {sn sk st sl : Value} (h : RSt w lo hi s sn sk st sl) (hf : s.fits) (hl : totS s ≤ 1048576) :
    Ret Tryz.prog 39 #[.agg (stoC s sn sk st sl).toArray] w fun v' w' => v' = .bool (pSOk s) ∧ Ext w w' := by
  obtain ⟨l1, l2⟩ := totS_parts hl
  refine Ret_enter Tryz.func39 rfl rfl rfl ?_
  repeat' (first | apply Jbs | apply Jbt)
  refine TL_box (cs := stoC s sn sk st sl) rfl rfl ?_
  intro w1 g E hg hz hbk
  clear hg hz
  repeat' (first | apply Jbq | apply Jbr | apply Jbs | apply Jbt | (apply Jcg; (first | exact Jab rfl | (apply Jbl; exact Us.h; exact rfl; exact Sz.h; exact rfl)); exact rfl) | refine Jcg (Pu_loadAgg (cs := dskC s.disk sn sk st) Us.h rfl Sz.h rfl (fun _ e j u hu => blk_disk hbk e j u hu)) rfl ?_)
  refine TL_call rfl en65 (implDiskOk_c (h.1.ext E) hf.1 l1) rfl rfl ?_
  rintro _ w2 ⟨rfl, e2⟩
  replace hbk := hbk.ext e2
  replace E := E.ext e2
  cases hp : pDOk s.disk with
  | false =>
    repeat' (first | apply Jbq | apply Jbr | apply Jbs | apply Jbt | apply Jbu | apply Jbv | (refine Jce rfl ?_) | (apply Jcg; (first | exact Jaa rfl | exact Jab rfl | exact Jah rfl rfl | exact Jaj rfl); exact rfl) | refine Jci rfl rfl rfl rfl rfl ?_)
    exact TR_of (res1 rfl rfl) ⟨by rw [pSOk_no (fun q => pDOk_not hp q.disk)], E⟩
  | true =>
    repeat' (first | apply Jbq | apply Jbr | apply Jbs | apply Jbt | apply Jbu | apply Jbv | (refine Jce rfl ?_) | (apply Jcg; (first | exact Jaa rfl | exact Jab rfl | exact Jah rfl rfl | exact Jai rfl rfl | exact Jaj rfl | (apply Jbl; exact Us.h; exact rfl; exact Sz.h; exact rfl)); exact rfl) | refine Jch rfl rfl rfl ?_ | refine Jci rfl rfl rfl rfl rfl ?_ | refine Jcg (Pu_load Fl.h rfl (fun _ e => by rw [e]; exact hbk.ld rfl)) rfl ?_ | (refine TL_call rfl en101 (in_d _ _ _ _) rfl rfl ?_; rintro _ _ ⟨rfl, rfl⟩) | (refine Jct rfl rfl (fun hb => ?_) (fun hb => ?_) <;> (try (exfalso; omega))))
    · exact TR_of (res1 rfl rfl) ⟨by rw [pSOk_no (fun q => by have := q.range; omega)], E⟩
    · exact TR_of (res1 rfl rfl) ⟨by rw [pSOk_no (fun q => by have := q.range; omega)], E⟩
    have hr : 1 ≤ s.keep ∧ s.keep ≤ 100 ∧ 0 ≤ s.size ∧ s.size ≤ 60000 := by omega
    refine TL_call rfl en109 (implEntriesOk_k (h.2.ext E) l2) rfl rfl ?_
    rintro _ w3 ⟨rfl, e3⟩
    replace hbk := hbk.ext e3
    replace E := E.ext e3
    cases he : pEntries s.list with
    | false =>
      repeat' (first | apply Jbq | apply Jbr | apply Jbs | apply Jbt | apply Jbu | apply Jbv | (refine Jce rfl ?_) | (apply Jcg; (first | exact Jab rfl | exact Jai rfl rfl | exact Jaj rfl); exact rfl) | refine Jch rfl rfl rfl ?_)
      exact TR_of (res1 rfl rfl) ⟨by rw [pSOk_no (fun q => by rw [q.list] at he; cases he)], E⟩
    | true =>
      repeat' (first | apply Jbq | apply Jbr | apply Jbs | apply Jbt | apply Jbz | (refine Jcf rfl ?_) | (apply Jcg; (first | exact Jai rfl rfl | exact Jaj rfl | exact Jak rfl rfl | (apply Jbl; exact Us.h; exact rfl; exact Sz.h; exact rfl)); exact rfl) | refine Jch rfl rfl rfl ?_ | refine Jcg (Pu_load Fl.h rfl (fun _ e => by rw [e]; exact hbk.ld rfl)) rfl ?_)
      refine Jcx rfl (fun hz => ?_) (fun hz => ?_)
      · repeat' (first | apply Jbq | apply Jbr | apply Jbs | apply Jbt | apply Jbu | apply Jbv | (apply Jcg; exact Jab rfl; exact rfl))
        exact TR_of (res1 rfl rfl) ⟨by rw [pSOk_yes ⟨pDOk_of hp, hr, he, .inl hz⟩], E⟩
      have hno : ¬ sTail s → pSOk s = false := fun hn => pSOk_no (fun q => q.tail.elim hz hn)
      have hyes : sTail s → pSOk s = true := fun ht => pSOk_yes ⟨pDOk_of hp, hr, he, .inr ht⟩
      repeat' (first | apply Jbr | apply Jbs | apply Jbt | apply Jbz | (apply Jcg; (apply Jbl; exact Us.h; exact rfl; exact Sz.h; exact rfl); exact rfl) | refine Jcg (Pu_loadAgg (cs := dskC s.disk sn sk st) Us.h rfl Sz.h rfl (fun _ e j u hu => blk_disk hbk e j u hu)) rfl ?_)
      refine TL_call rfl en37 (implDiskRead_c (s := histT) (h.1.ext E) hf.1 l1 (by decide)) rfl rfl ?_
      rintro _ w4 ⟨v4, rfl, e4, r4⟩
      replace hbk := hbk.ext e4
      replace E := E.ext e4
      repeat' (first | apply Jbq | apply Jbr | apply Jbs | apply Jbt | (apply Jcg; (first | exact Jaa rfl | exact Jab rfl | exact Jae rfl rfl | (apply Jbl; exact Us.h; exact rfl; exact Sz.h; exact rfl)); exact rfl) | refine Jcg (Pu_load Fl.h rfl (fun _ e => by rw [e]; exact hbk.ld rfl)) rfl ?_)
      refine TL_call rfl en110 (implLogBytes_k (h.2.ext E) l2) rfl rfl ?_
      rintro _ w5 ⟨v5, rfl, e5, r5⟩
      replace hbk := hbk.ext e5
      replace E := E.ext e5
      replace r4 := r4.ext e5
      repeat' (first | apply Jbq | apply Jbr | apply Jbs | apply Jbt | (apply Jcg; (first | exact Jaa rfl | exact Jab rfl | exact Jae rfl rfl | (apply Jbl; exact Us.h; exact rfl; exact Sz.h; exact rfl)); exact rfl) | refine Jcg (Pu_loadAgg (cs := dskC s.disk sn sk st) Us.h rfl Sz.h rfl (fun _ e j u hu => blk_disk hbk e j u hu)) rfl ?_)
      refine TL_call rfl en37 (implDiskRead_c (s := tempT) (h.1.ext E) hf.1 l1 (by decide)) rfl rfl ?_
      rintro _ w6 ⟨v6, rfl, e6, r6⟩
      replace hbk := hbk.ext e6
      replace E := E.ext e6
      replace r4 := r4.rd.ext e6
      replace r5 := r5.rd.ext e6
      obtain ⟨A4, c4, rfl, hc4, q4⟩ := r4
      obtain ⟨A5, c5, rfl, hc5, q5⟩ := r5
      have hpl := pRead_len s.disk histT l1
      clear r6
      unfold sTail at hno hyes
      cases h4 : (pRead s.disk histT).2 with
      | false =>
        have hno := hno (fun q => by rw [q.1] at h4; cases h4)
        repeat' (first | apply Jbq | apply Jbr | apply Jbs | apply Jbt | apply Jbu | (apply Jcg; (first | exact Jaa rfl | exact Jab rfl | exact Jae rfl rfl | exact Jai rfl rfl); exact rfl) | refine Jci rfl rfl rfl rfl rfl ?_)
        exact TR_of (res1 rfl rfl) ⟨by rw [hno], E⟩
      | true =>
        cases h5 : (pLog s.list).2 with
        | false =>
          have hno := hno (fun q => by rw [q.2.1] at h5; cases h5)
          repeat' (first | apply Jbq | apply Jbr | apply Jbs | apply Jbt | apply Jbu | (apply Jcg; (first | exact Jaa rfl | exact Jab rfl | exact Jae rfl rfl | exact Jah rfl rfl | exact Jai rfl rfl); exact rfl) | refine Jch rfl rfl rfl ?_ | refine Jci rfl rfl rfl rfl rfl ?_)
          exact TR_of (res1 rfl rfl) ⟨by rw [hno], E⟩
        | true =>
          by_cases hq : (pRead s.disk histT).1 = (pLog s.list).1
          · by_cases hn : s.len = ((pLog s.list).1.length : Int)
            · cases h6 : (pRead s.disk tempT).2 with
              | false =>
                have hyes := hyes ⟨h4, h5, hq, hn, h6⟩
                repeat' (first | apply Jbq | apply Jbr | apply Jbs | apply Jbt | apply Jbu | (apply Jcg; (first | exact Jaa rfl | exact Jab rfl | exact Jac Us.h rfl | exact Jae rfl rfl | exact Jah rfl rfl | exact Jai rfl rfl | exact Jaj rfl | exact Jak rfl rfl | exact Jas rfl rfl | (apply Jbl; exact Us.h; exact rfl; exact Sz.h; exact rfl)); exact rfl) | refine Jch rfl rfl rfl ?_ | refine Jci rfl rfl rfl rfl rfl ?_ | refine Jcg (Pu_load Fl.h rfl (fun _ e => by rw [e]; exact hbk.ld rfl)) rfl ?_ | refine Jcg (Pu_string Us.h Us.h Us.h rfl (fun w' e => by rw [e]; exact ⟨_, _, q4⟩)) rfl ?_ | refine Jcg (Pu_string Us.h Us.h Us.h rfl (fun w' e => by rw [e]; exact ⟨_, _, q5⟩)) rfl ?_ | (refine Jcs rfl rfl (fun hb => ?_) (fun hb => ?_) <;> (try (exfalso; omega))))
                all_goals first | exact absurd hq (by assumption) | exact TR_of (res1 rfl rfl) ⟨by rw [hyes]; rfl, E⟩
              | true =>
                have hno := hno (fun q => by rw [q.2.2.2.2] at h6; cases h6)
                repeat' (first | apply Jbq | apply Jbr | apply Jbs | apply Jbt | apply Jbu | (apply Jcg; (first | exact Jaa rfl | exact Jab rfl | exact Jac Us.h rfl | exact Jae rfl rfl | exact Jah rfl rfl | exact Jai rfl rfl | exact Jaj rfl | exact Jak rfl rfl | exact Jas rfl rfl | (apply Jbl; exact Us.h; exact rfl; exact Sz.h; exact rfl)); exact rfl) | refine Jch rfl rfl rfl ?_ | refine Jci rfl rfl rfl rfl rfl ?_ | refine Jcg (Pu_load Fl.h rfl (fun _ e => by rw [e]; exact hbk.ld rfl)) rfl ?_ | refine Jcg (Pu_string Us.h Us.h Us.h rfl (fun w' e => by rw [e]; exact ⟨_, _, q4⟩)) rfl ?_ | refine Jcg (Pu_string Us.h Us.h Us.h rfl (fun w' e => by rw [e]; exact ⟨_, _, q5⟩)) rfl ?_ | (refine Jcs rfl rfl (fun hb => ?_) (fun hb => ?_) <;> (try (exfalso; omega))))
                all_goals first | exact absurd hq (by assumption) | exact TR_of (res1 rfl rfl) ⟨by rw [hno]; rfl, E⟩
            · have hno := hno (fun q => hn q.2.2.2.1)
              repeat' (first | apply Jbq | apply Jbr | apply Jbs | apply Jbt | apply Jbu | (apply Jcg; (first | exact Jaa rfl | exact Jab rfl | exact Jac Us.h rfl | exact Jae rfl rfl | exact Jah rfl rfl | exact Jai rfl rfl | exact Jak rfl rfl | exact Jas rfl rfl | (apply Jbl; exact Us.h; exact rfl; exact Sz.h; exact rfl)); exact rfl) | refine Jch rfl rfl rfl ?_ | refine Jci rfl rfl rfl rfl rfl ?_ | refine Jcg (Pu_load Fl.h rfl (fun _ e => by rw [e]; exact hbk.ld rfl)) rfl ?_ | refine Jcg (Pu_string Us.h Us.h Us.h rfl (fun w' e => by rw [e]; exact ⟨_, _, q4⟩)) rfl ?_ | refine Jcg (Pu_string Us.h Us.h Us.h rfl (fun w' e => by rw [e]; exact ⟨_, _, q5⟩)) rfl ?_ | (refine Jcs rfl rfl (fun hb => ?_) (fun hb => ?_) <;> (try (exfalso; omega))))
              all_goals first | exact absurd hq (by assumption) | exact TR_of (res1 rfl rfl) ⟨by rw [hno], E⟩
          · have hno := hno (fun q => hq q.2.2.1)
            repeat' (first | apply Jbq | apply Jbr | apply Jbs | apply Jbt | apply Jbu | (apply Jcg; (first | exact Jaa rfl | exact Jab rfl | exact Jac Us.h rfl | exact Jae rfl rfl | exact Jah rfl rfl | exact Jai rfl rfl | exact Jaj rfl | exact Jak rfl rfl | exact Jas rfl rfl | (apply Jbl; exact Us.h; exact rfl; exact Sz.h; exact rfl)); exact rfl) | refine Jch rfl rfl rfl ?_ | refine Jci rfl rfl rfl rfl rfl ?_ | refine Jcg (Pu_load Fl.h rfl (fun _ e => by rw [e]; exact hbk.ld rfl)) rfl ?_ | refine Jcg (Pu_string Us.h Us.h Us.h rfl (fun w' e => by rw [e]; exact ⟨_, _, q4⟩)) rfl ?_ | refine Jcg (Pu_string Us.h Us.h Us.h rfl (fun w' e => by rw [e]; exact ⟨_, _, q5⟩)) rfl ?_ | (refine Jcs rfl rfl (fun hb => ?_) (fun hb => ?_) <;> (try (exfalso; omega))))
            all_goals first | exact absurd (show (pRead s.disk histT).1 = (pLog s.list).1 by assumption) hq | exact TR_of (res1 rfl rfl) ⟨by rw [hno], E⟩
end Go.Proofs.YtggaghghclomkaaGreat

/- Entries held against each other; entries that are drawn, weakly said. -/
namespace Go.Proofs.YtggaghghclomkaaGreat
open Go.RowKit
attribute [local irreducible] TL TC TN TX TR TQ TA Pu Ret

section
variable {P : Program} {t : TypeId}
theorem fieldsOf_of {fs : Array Field} (h : P.underlying t = some (.struct fs)) : P.fieldsOf t = fs := by unfold Program.fieldsOf; rw [h]
theorem run_part {f : TypeId} {xs : Array Value} {off : Nat} {v : Value} (hfl : flat P f = true) (hv : xs[off]? = some v) (w : World) : (part f xs off).run P w = .ok v w := by
  simp [part, run_isAgg_flat hfl, hv]
theorem equalIn_int {k : IntKind} {a : Int} (ht : P.underlying t = some (.int k)) (d : Nat) (w : World) : (Op.equalIn (d + 1) t (.int k a) (.int k a)).run P w = .ok true w := by
  rw [Op.equalIn, Sem.run_bind, run_underlying ht w]; simp
theorem equalIn_str {a : ByteArray} (ht : P.underlying t = some .string) (d : Nat) (w : World) : (Op.equalIn (d + 1) t (.string a) (.string a)).run P w = .ok true w := by
  rw [Op.equalIn, Sem.run_bind, run_underlying ht w]; simp [beq_toListBytes]
end
theorem run_eqE (e : Ent) (w : World) : (Op.equal 82 (.agg (entC e).toArray) (.agg (entC e).toArray)).run Tryz.prog w = .ok true w := by
  have hu := Tryz.underlying82
  have hf := fieldsOf_of hu
  have h := run_equalIn_struct (P := Tryz.prog) w 9999 82 (entC e).toArray (entC e).toArray (by rw [hf]; exact hu) (by kernel_rfl)
  show (Op.equalIn (9999 + 1) 82 (.agg (entC e).toArray) (.agg (entC e).toArray)).run Tryz.prog w = .ok true w
  have p0 := run_part (P := Tryz.prog) (f := 3) (xs := (entC e).toArray) (off := 0) (v := I e.1) fl3 rfl w
  have p1 := run_part (P := Tryz.prog) (f := 9) (xs := (entC e).toArray) (off := 1) (v := S e.2) fl9 rfl w
  have q0 := equalIn_int (P := Tryz.prog) (a := e.1) Tryz.underlying3 9998 w
  have q1 := equalIn_str (P := Tryz.prog) (a := ⟨e.2.toArray⟩) Tryz.underlying9 9998 w
  rw [h, hf]
  simp [Op.eqFields, Sem.run_bind, p0, p1, q0, q1]
section
variable {C : World → Prop} {n : Nat} {l : Env} {dd : Option Nat} {ty : TypeId} {pos : String} {af : Array Edge} {x y : Operand} {t' : TypeId}
theorem Pu_neqE {e : Ent} (hx : ev l x = some (.agg (entC e).toArray)) (hy : ev l y = some (.agg (entC e).toArray)) : Pu Tryz.prog C n l ⟨dd, .binOp .neq 82 x y t', ty, pos, af, none⟩ (.bool false) := by
  unfold Pu
  intro s hs w _
  have g : (eqGuard .neq 82 x y (.agg (entC e).toArray) (.agg (entC e).toArray)).run Tryz.prog w = .ok () w := by
    have h0 : Tryz.prog.eqGuardType Tryz.prog.depth 82 = false := by kernel_rfl
    simp [eqGuard, h0]
  have b : (binOp .neq 82 (.agg (entC e).toArray) (.agg (entC e).toArray)).run Tryz.prog w = .ok (.bool false) w := by
    show (do pure (.bool (!(← Op.equal 82 (.agg (entC e).toArray) (.agg (entC e).toArray)))) : Sem Value).run Tryz.prog w = _
    rw [Sem.run_bind, run_eqE]; rfl
  simp only [execOp, hs.eval hx, hs.eval hy, Sem.run_bind, Sem.run_pure, Result.andThen_ok, g, b]
end
set_option maxHeartbeats 1000000 in
theorem sameEntries_c {w : World} {lo hi lo2 hi2 : Nat} {v v2 : Value} {t : List Ent} (h : RE w lo hi v t) (h2 : RE w lo2 hi2 v2 t) (hl : t.length ≤ 1048576) :
    Ret Tryz.prog 38 #[v, v2] w fun v' w' => v' = .bool true ∧ Ext w w' := by
  obtain ⟨A, c, rfl, _, hr⟩ := h
  obtain ⟨A2, c2, rfl, _, hr2⟩ := h2
  refine Ret_enter Tryz.func38 rfl rfl rfl ?_
  repeat' (first | apply Jbq | apply Jbr | apply Jbs | apply Jbt | apply Jby | apply Jbz | (refine Jcf rfl ?_) | (apply Jcg; (first | exact Jbm rfl rfl | exact Jaa rfl | exact Jab rfl | exact Jac Us.h rfl); exact rfl))
  refine TC_loop (ι := Nat) (fun k => [(0, .slice A t.length c), (1, .slice A2 t.length c2), (12, I t.length), (13, I k)]) (fun k w' => k ≤ t.length ∧ Ext w w') (fun k => t.length - k) 0 (subEnv_cons rfl (subEnv_cons rfl (subEnv_cons rfl (subEnv_cons rfl (subEnv_nil _))))) ⟨Nat.zero_le _, Ch.refl _ _⟩ ?_
  intro k w3 ⟨hk, e3⟩
  repeat' (first | apply Jbq | apply Jbr | apply Jbs | apply Jbt | (apply Jcg; exact Jad rfl rfl; exact rfl))
  refine Jcx rfl (fun hb => ?_) (fun hb => ?_)
  · have hlt : k < t.length := by omega
    obtain ⟨ad, rfl, hc⟩ := Rd.elem entC_len (hr.ext e3) hlt
    obtain ⟨ad2, rfl, hc2⟩ := Rd.elem entC_len (hr2.ext e3) hlt
    repeat' (first | apply Jbq | apply Jbr | apply Jbs | apply Jbt | apply Jby | apply Jbz | (apply Jcg; (first | exact Jaa rfl | exact Jab rfl); exact rfl))
    refine TC_quietExt mixed (by kernel_rfl) ?_
    repeat' (first | (apply Jck; (first | exact Jaa rfl | exact Jar Us.h Sz.h rfl rfl (by omega)); exact rfl) | refine Jck (Pu_loadAgg (cs := entC t[k]) Us.h rfl Sz.h rfl (agg_at hc)) rfl ?_ | refine Jck (Pu_loadAgg (cs := entC t[k]) Us.h rfl Sz.h rfl (agg_at hc2)) rfl ?_ | refine Jck (Pu_neqE rfl rfl) rfl ?_)
    refine TQ_nil fun w4 e4 => ?_
    repeat' (first | apply Jbq | apply Jbr | apply Jbt | apply Jbx | apply Jbz | (refine Jcf rfl ?_) | (apply Jcg; (first | exact Jaa rfl | exact Jaf rfl rfl (by omega)); exact rfl))
    exact TN_round (k + 1) (subEnv_cons rfl (subEnv_cons rfl (subEnv_cons rfl (subEnv_cons rfl (subEnv_nil _))))) ⟨hlt, e3.ext e4⟩ (by omega)
  · repeat' (first | apply Jbq | apply Jbr | apply Jbs | apply Jbt | apply Jbu | apply Jca | apply Jcb | apply Jcc | (apply Jcg; exact Jab rfl; exact rfl))
    exact TR_of (res1 rfl rfl) ⟨rfl, e3⟩
def textL : List (List UInt8) := [[108, 115], [101, 99, 104, 111, 32, 97], [99, 97, 116, 32, 98], [97, 32, 124, 32, 98], [120, 61, 49], [105, 102, 32, 97, 59, 32, 116, 104, 101, 110, 32, 98, 59, 32, 102, 105], [101, 99, 104, 111, 32, 39, 97, 10, 98, 39], [109, 97, 107, 101], [108, 115, 32, 45, 108], [101, 99, 104, 111, 32, 195, 169], [103, 105, 116, 32, 108, 111, 103], [119]]
theorem textL_ok : ∀ s ∈ textL, 1 ≤ s.length ∧ s.length ≤ 16 := by decide
set_option maxHeartbeats 2000000 in
theorem l05Text_c {w : World} {g : Nat} (hcur : Cur w g) :
    Ret Tryz.prog 114 #[pt g] w fun v w' => ∃ s : List UInt8, v = S s ∧ (1 ≤ s.length ∧ s.length ≤ 16) ∧ Ch (Iv g (g + 1)) w w' ∧ Cur w' g := by
  refine Ret_enter Tryz.func114 rfl rfl rfl ?_
  have hg1 := hcur.lt
  repeat' (first | apply Jbq | apply Jbr | apply Jbs | apply Jbt | (apply Jcg; (first | exact Jaa rfl | exact Jab rfl); exact rfl) | (refine TL_buildSlice (us := textL.map S) Us.h Zi.h rfl rfl rfl rfl (by kernel_rfl) rfl rfl ?_; intro w2 g2 e2 hg2 hz2 hown2))
  refine TL_call rfl en115 (l01Below_c (hcur.ext e2) (by omega)) rfl rfl ?_
  rintro _ w3 ⟨x, rfl, hx0, hx1, _, c3, hcur3⟩
  have hx1 := hx1 (by omega)
  obtain ⟨x, rfl⟩ := Int.eq_ofNat_of_zero_le hx0
  have hx : x < textL.length := by simp only [textL, List.length_cons, List.length_nil]; omega
  obtain ⟨ad, had, hcell⟩ := (hown2.rd.ch c3 (by intro j _ _; simp only [Iv]; omega)).get (show x < 12 by omega)
  injection had with had
  subst had
  have hgv : (textL.map S).getD x undef = S (textL.getD x []) := by
    rw [List.getD_eq_getElem?_getD, List.getElem?_map, List.getElem?_eq_getElem hx, List.getD_eq_getElem?_getD, List.getElem?_eq_getElem hx]; rfl
  rw [hgv] at hcell
  repeat' (first | apply Jbq | apply Jbr | apply Jbu | (apply Jcg; (first | exact Jab rfl | exact Jag Us.h Sz.h rfl rfl (by omega)); exact rfl) | refine Jcg (Pu_load Fl.h rfl (fun _ e => by rw [e]; exact hcell)) rfl ?_)
  refine TR_of (res1 rfl rfl) ⟨textL.getD x [], rfl, textL_ok _ ?_, ((Ch.refl _ _).ext e2).then c3, hcur3⟩
  rw [List.getD_eq_getElem?_getD, List.getElem?_eq_getElem hx]; exact List.getElem_mem hx
/-- Right entries, of short texts, whose numbers follow one another from n on. -/
def rowE (n : Int) : List Ent → Prop
  | [] => True
  | e :: l => e.1 = n ∧ (1 ≤ e.2.length ∧ e.2.length ≤ 16) ∧ rowE (n + 1) l
theorem rowE_snoc {e : Ent} : ∀ {l : List Ent} {n : Int}, rowE n l → e.1 = n + l.length → (1 ≤ e.2.length ∧ e.2.length ≤ 16) → rowE n (l ++ [e])
  | [], n, _, h, ht => ⟨by simpa using h, ht, trivial⟩
  | x :: l, n, h, h2, ht => ⟨h.1, h.2.1, rowE_snoc h.2.2 (by simp only [List.length_cons] at h2; omega) ht⟩
set_option maxHeartbeats 2000000 in
theorem l05Entries_c {w : World} {g : Nat} {most : Nat} (hcur : Cur w g) (hm : most ≤ 65536) :
    Ret Tryz.prog 201 #[pt g, I most] w fun v w' => ∃ (l : List Ent) (n : Int), l.length ≤ most ∧ (1 ≤ n ∧ n ≤ 9) ∧ rowE n l ∧ Ch (Iv g (g + 1)) w w' ∧ OE w' w.heap.size w'.heap.size v l ∧ Cur w' g := by
  refine Ret_enter Tryz.func201 rfl rfl rfl ?_
  have hg := hcur.lt
  repeat' (first | apply Jbq | apply Jbr | apply Jbs | apply Jbt | (apply Jcg; (first | exact Jaa rfl | exact Jab rfl); exact rfl) | (refine TL_buildSlice0 Us.h Sz.h rfl ?_; intro w1 g1 e1 hg1 hz1 hown1))
  refine TL_call rfl en115 (l01Below_c (hcur.ext e1) (by omega)) rfl rfl ?_
  rintro _ w2 ⟨n0, rfl, hn00, hn01, _, c2, hcur2⟩
  have hn01 := hn01 (by omega)
  repeat' (first | apply Jbq | apply Jbr | apply Jbs | apply Jbt | (apply Jcg; (first | exact Jaa rfl | exact Jab rfl | exact Jaf rfl rfl (by omega)); exact rfl))
  refine TL_call rfl en115 (l01Below_c hcur2 (by omega)) rfl rfl ?_
  rintro _ w3 ⟨n, rfl, hn0, hn1, _, c3, hcur3⟩
  have hn1 := hn1 (by omega)
  have cc := c2.then c3
  have hs3 := cc.size
  have hnew : OE w3 w.heap.size w3.heap.size (.slice (some ⟨g1, 0, none⟩) 0 0) [] := by
    have := (OE_new (s := []) rfl hown1 hg1 hz1).ch cc (by intro k _ _; simp only [Iv]; omega)
    exact ⟨_, _, rfl, (hown1.ch cc (by intro k _ _; simp only [Iv]; omega)).wide (by omega) (by omega) (Nat.le_refl _)⟩
  obtain ⟨n, rfl⟩ := Int.eq_ofNat_of_zero_le hn0
  repeat' (first | apply Jbq | apply Jbr | apply Jby | (apply Jcg; exact Jab rfl; exact rfl))
  refine TC_loop (ι := Nat × Nat × List Ent × Value) (fun x => [(0, pt g), (5, x.2.2.2), (6, I (1 + n0 + (x.2.1 : Int))), (7, I x.1)]) (fun x w' => x.2.2.1.length = x.2.1 ∧ x.2.1 + x.1 = n ∧ rowE (1 + n0) x.2.2.1 ∧ Ch (Iv g (g + 1)) w w' ∧ OE w' w.heap.size w'.heap.size x.2.2.2 x.2.2.1 ∧ Cur w' g) (fun x => x.1) (n, 0, [], _)
    (subEnv_cons rfl (subEnv_cons rfl (subEnv_cons (congrArg (fun z => some (I z)) (by simp)) (subEnv_cons rfl (subEnv_nil _))))) ⟨rfl, by simp, trivial, ((Ch.refl _ _).ext e1).then cc, hnew, hcur3⟩ ?_
  rintro ⟨m, j, t, va⟩ w4 ⟨htl, hs, hrow, c4, ho4, hcur4⟩
  simp only at htl hs hrow ho4
  show TC _ _ _ _ [(0, pt g), (5, va), (6, I (1 + n0 + (j : Int))), (7, I m)] w4
  repeat' (first | apply Jbq | apply Jbr | apply Jbs | apply Jbt | (apply Jcg; (first | exact Jaa rfl | exact Jam rfl rfl); exact rfl))
  refine Jcx rfl (fun hb => ?_) (fun hb => ?_)
  · repeat' (first | apply Jbr | apply Jbs | apply Jbt | apply Jby | apply Jbz | (apply Jcg; exact Jaa rfl; exact rfl))
    refine TL_call rfl en114 (l05Text_c hcur4) rfl rfl ?_
    rintro _ w5 ⟨tx, rfl, htx, c5, hcur5⟩
    repeat' (refine Jcg (Pu_build (cs := entC (1 + n0 + (j : Int), tx)) rfl (by kernel_rfl)) rfl ?_)
    refine TL_buildSlice (us := ents [(1 + n0 + (j : Int), tx)]) Us.h Zi.h rfl rfl rfl rfl (fillE _) rfl rfl ?_
    intro w6 g6 e6 hg6 hz6 hown6
    have ho6 := (ho4.ch c5 (by intro k _ _; simp only [Iv]; omega)).ext e6
    have hs4 := c4.size
    have hs5 := c5.size
    have hs6 := e6.size
    refine TL_appendE Us.h rfl rfl ho6 (OE_new (s := [_]) rfl hown6 hg6 hz6).rd (by omega) (by simp only [List.length_cons, List.length_nil]; omega) rfl ?_
    intro w7 v7 c7 ho7
    repeat' (first | apply Jbq | apply Jbr | apply Jbt | apply Jbx | (apply Jcg; (first | exact Jaa rfl | exact Jab rfl | exact Jaf rfl rfl (by omega) | exact Jap rfl rfl (by omega)); exact rfl))
    exact TN_round (m - 1, j + 1, t ++ [(1 + n0 + (j : Int), tx)], v7) (subEnv_cons rfl (subEnv_cons rfl (subEnv_cons (congrArg (fun z => some (I z)) (by simp only; omega)) (subEnv_cons (congrArg (fun z => some (I z)) (by simp only; omega)) (subEnv_nil _))))) ⟨by simp only [List.length_append, List.length_cons, List.length_nil]; omega, by simp only; omega, rowE_snoc hrow (by simp only; omega) htx, Own.step ((c4.then c5).ext e6) c7 (Nat.le_refl _), ho7, (hcur5.ext e6).ch c7 (by intro k _; simp only [Iv]; omega)⟩ (by simp only; omega)
  · repeat' (first | apply Jbq | apply Jbr | apply Jbs | apply Jbt | apply Jbu | apply Jca | apply Jcb | apply Jcc | (apply Jcg; (first | exact Jaa rfl | exact Jab rfl); exact rfl))
    exact TR_of (res1 rfl rfl) ⟨t, 1 + n0, by omega, by omega, hrow, c4, ho4, hcur4⟩
end Go.Proofs.YtggaghghclomkaaGreat

/- Lists of records: what the laws ask of them. No condition. -/
namespace Go.Proofs.YtggaghghclomkaaGreat
open Go.RowKit

theorem textAt_drop (b : List UInt8) (a n : Nat) : textAt (b.drop a) 0 n = textAt b a n := by unfold textAt; rw [List.drop_drop]
/-- What is read at a place is what is read at the beginning of the bytes behind it. -/
theorem readF_shift {b : List UInt8} {a : Nat} (h : a ≤ b.length) : pReadF b a = ((pReadF (b.drop a) 0).1, (if (pReadF (b.drop a) 0).2.2 = 0 then a + (pReadF (b.drop a) 0).2.1 else 0), (pReadF (b.drop a) 0).2.2) := by
  have h0 := readF_nat (b := b.drop a) (a := 0) (Nat.zero_le _)
  simp only [Int.ofNat_zero, Nat.zero_add, List.drop_zero, textAt_drop] at h0
  have g2 : getF (b.drop a) 0 2 = getF b a 2 := getF_drop b a 0 2
  have g4 : getF (b.drop a) 2 4 = getF b (a + 2) 4 := getF_drop b a 2 4
  have g6 : getF (b.drop a) 6 4 = getF b (a + 6) 4 := getF_drop b a 6 4
  have hl : (b.drop a).length = b.length - a := List.length_drop
  have e1 : ((b.drop a).length < 10) = (b.length < a + 10) := propext ⟨fun _ => by omega, fun _ => by omega⟩
  have e2 : (((b.drop a).length : Int) < 0 + 10 + getF b a 2) = ((b.length : Int) < a + 10 + getF b a 2) := propext ⟨fun _ => by omega, fun _ => by omega⟩
  rw [g2, g4, g6] at h0
  simp only [e1, e2] at h0
  rw [readF_nat h, show pReadF (b.drop a) 0 = pReadF (b.drop a) ((0 : Nat) : Int) from rfl]
  simp only [Int.ofNat_zero]
  rw [h0]
  by_cases c1 : b.length < a + 10
  · simp only [if_pos c1]; simp
  simp only [if_neg c1]
  by_cases c2 : getF b a 2 < 1 ∨ 1000 < getF b a 2
  · simp only [if_pos c2]; simp
  simp only [if_neg c2]
  by_cases c3 : (b.length : Int) < a + 10 + getF b a 2
  · simp only [if_pos c3]; simp
  simp only [if_neg c3]
  by_cases c4 : getF b (a + 2) 4 < 1 ∨ 1000000000 < getF b (a + 2) 4
  · simp only [if_pos c4]; simp
  simp only [if_neg c4]
  by_cases c5 : getF b (a + 6) 4 ≠ crc ((b.drop a).take 6 ++ textAt b a (getF b a 2).toNat)
  · simp only [if_pos c5]; simp
  simp only [if_neg c5]
  simp; omega
theorem read_short {b : List UInt8} (h : b.length < 10) : (pReadF b 0).2.2 = 2 := by
  have h0 := readF_nat (b := b) (a := 0) (Nat.zero_le _)
  rw [show pReadF b 0 = pReadF b ((0 : Nat) : Int) from rfl, h0, if_pos (by omega)]
theorem frame_parts (e : Ent) (post : List UInt8) : frame e ++ post = putR e.2.length 2 ++ (putR e.1 4 ++ (putR (crc (headF e ++ e.2)) 4 ++ (e.2 ++ post))) := by
  unfold frame headF; simp only [List.append_assoc]
theorem take_len {x y : List UInt8} {n : Nat} (h : x.length = n) : (x ++ y).take n = x := by subst h; exact List.take_left
theorem drop_len {x y : List UInt8} {n : Nat} (h : x.length = n) : (x ++ y).drop n = y := by subst h; exact List.drop_left
/-- A right record's parts as they are read. -/
theorem frame_get {e : Ent} (hp : pEntry e.1 e.2 = true) (post : List UInt8) :
    getF (frame e ++ post) 0 2 = e.2.length ∧ getF (frame e ++ post) 2 4 = e.1 ∧ getF (frame e ++ post) 6 4 = crc (headF e ++ e.2) ∧ (frame e ++ post).take 6 = headF e ∧ textAt (frame e ++ post) 0 e.2.length = e.2 := by
  have hb := pEntry_iff.1 hp
  have hl := frame_length e
  have hc := crc_lt (headF e ++ e.2)
  have hp := frame_parts e post
  have d2 : (frame e ++ post).drop 2 = putR e.1 4 ++ (putR (crc (headF e ++ e.2)) 4 ++ (e.2 ++ post)) := by rw [hp, drop_len (putR_length _ 2)]
  have d6 : (frame e ++ post).drop 6 = putR (crc (headF e ++ e.2)) 4 ++ (e.2 ++ post) := by
    rw [show 6 = 2 + 4 from rfl, ← List.drop_drop, d2, drop_len (putR_length _ 4)]
  have d10 : (frame e ++ post).drop 10 = e.2 ++ post := by
    rw [show 10 = 6 + 4 from rfl, ← List.drop_drop, d6, drop_len (putR_length _ 4)]
  refine ⟨?_, ?_, ?_, ?_, ?_⟩
  · rw [getF_val _ 0 2 (by rw [List.length_append]; omega), List.drop_zero, hp, take_len (putR_length _ 2), val_putR 2 (by omega) (by omega)]
  · rw [getF_val _ 2 4 (by rw [List.length_append]; omega), d2, take_len (putR_length _ 4), val_putR 4 (by omega) (by omega)]
  · rw [getF_val _ 6 4 (by rw [List.length_append]; omega), d6, take_len (putR_length _ 4), val_putR 4 (by omega) (by omega)]
  · unfold frame
    rw [List.append_assoc, List.append_assoc, take_len (headF_length e)]
  · unfold textAt
    rw [Nat.zero_add, d10, take_len rfl]
theorem read_frame {e : Ent} (hp : pEntry e.1 e.2 = true) (post : List UInt8) : pReadF (frame e ++ post) 0 = (e, 10 + (e.2.length : Int), 0) := by
  obtain ⟨g1, g2, g3, g4, g5⟩ := frame_get hp post
  have hb := pEntry_iff.1 hp
  have hl := frame_length e
  have h0 := readF_nat (b := frame e ++ post) (a := 0) (Nat.zero_le _)
  rw [show pReadF (frame e ++ post) 0 = pReadF (frame e ++ post) ((0 : Nat) : Int) from rfl, h0]
  rw [g1]
  simp only [Nat.zero_add]
  rw [g2, g3, List.drop_zero, g4, Int.toNat_natCast, g5]
  rw [if_neg (by rw [List.length_append]; omega), if_neg (by omega), if_neg (by rw [List.length_append]; omega), if_neg (by omega), if_neg (by simp)]
  simp
/-- How many records are all there within m bytes. -/
def cnt : List Ent → Nat → Nat
  | [], _ => 0
  | e :: l, m => if (frame e).length ≤ m then cnt l (m - (frame e).length) + 1 else 0
theorem ents_take (l : List Ent) (k : Nat) : (ents l).take (k * 2) = ents (l.take k) := cellsL_take entC_len l k
theorem RE.to {w : World} {lo hi c : Nat} {A : Option Addr} {l : List Ent} {b : Int} (h : Rd w lo hi 2 A l.length (ents l)) (hb : 0 ≤ b ∧ b ≤ l.length) (hc : l.length ≤ c) :
    RE w lo hi (.slice (cutA A c 0 2) b.toNat c) (l.take b.toNat) := by
  have hl : (l.take b.toNat).length = b.toNat := by rw [List.length_take]; omega
  have h2 := h.cut (a := 0) (b := b.toNat) (c := c) (Nat.zero_le _) (by omega) hc
  rw [Nat.zero_mul, List.drop_zero, Nat.sub_zero, ents_take] at h2
  exact ⟨_, _, by rw [hl], by rw [hl]; omega, by rw [hl]; exact h2⟩
end Go.Proofs.YtggaghghclomkaaGreat

/- Reading a log of any bytes: what is read is what stands there, and a log is read as it was written. No condition. -/
namespace Go.Proofs.YtggaghghclomkaaGreat
open Go.RowKit
def chainE (p : Option Int) : List Ent → Prop
  | [] => True
  | e :: l => pEntry e.1 e.2 = true ∧ follows p e.1 = true ∧ chainE (some e.1) l
theorem chain_iff : ∀ (l : List Ent) (p : Option Int), chainE p l ↔ ((∀ i, (h : i < l.length) → pEntry l[i].1 l[i].2 = true) ∧ (∀ i, (h : i + 1 < l.length) → l[i].1 + 1 = l[i + 1].1) ∧ ∀ h : 0 < l.length, follows p l[0].1 = true)
  | [], p => by simp [chainE]
  | e :: l, p => by
    rw [chainE, chain_iff l (some e.1)]
    constructor
    · rintro ⟨h1, h2, h3, h4, h5⟩
      refine ⟨fun i hi => ?_, fun i hi => ?_, fun _ => h2⟩
      · cases i with
        | zero => exact h1
        | succ i => exact h3 i (by simpa using hi)
      · cases i with
        | zero => have := h5 (by simpa using hi); simpa [follows] using this
        | succ i => exact h4 i (by simpa using hi)
    · rintro ⟨h1, h2, h3⟩
      refine ⟨h1 0 (by simp), h3 (by simp), fun i hi => ?_, fun i hi => ?_, fun h => ?_⟩
      · exact h1 (i + 1) (by simpa using hi)
      · exact h2 (i + 1) (by simpa using hi)
      · have := h2 0 (by simpa using h); simpa [follows] using this
theorem entries_chain {l : List Ent} : pEntries l = true ↔ chainE none l := by
  rw [pEntries_iff, chain_iff]
  unfold entsOkTo
  constructor
  · rintro ⟨h1, h2⟩; exact ⟨fun i hi => h1 i hi hi, fun i hi => h2 i hi hi, fun _ => rfl⟩
  · rintro ⟨h1, h2, _⟩; exact ⟨fun i hi _ => h1 i hi, fun i hi _ => h2 i hi⟩
theorem chain_ok : ∀ {l : List Ent} {p : Option Int}, chainE p l → ∀ e ∈ l, pEntry e.1 e.2 = true
  | [], _, _, _, h => by cases h
  | x :: l, _, h, e, he => by
    rcases List.mem_cons.1 he with rfl | he
    · exact h.1
    · exact chain_ok h.2.2 e he
theorem entries_drop {l : List Ent} (h : pEntries l = true) (k : Nat) : pEntries (l.drop k) = true := by
  rw [entries_chain, chain_iff] at *
  refine ⟨fun i hi => ?_, fun i hi => ?_, fun _ => rfl⟩
  · rw [List.getElem_drop]; exact h.1 _ _
  · rw [List.getElem_drop, List.getElem_drop]; exact h.2.1 (k + i) (by rw [List.length_drop] at hi; omega)
theorem entries_last {l : List Ent} (h : pEntries l = true) (n : Int) : pEntries (pLast l n) = true := entries_drop h _
/-- The record that is read stands there. -/
theorem readF_frame {b : List UInt8} {a : Nat} (h : (pReadF b a).2.2 = 0) : frame (pReadF b a).1 = (b.drop a).take (10 + (pReadF b a).1.2.length) ∧ (pReadF b a).2.1 = ((a + (10 + (pReadF b a).1.2.length) : Nat) : Int) ∧ a + (10 + (pReadF b a).1.2.length) ≤ b.length ∧ pEntry (pReadF b a).1.1 (pReadF b a).1.2 = true := by
  obtain ⟨h1, h2, h3, h4, h5⟩ := readF_next h
  refine ⟨?_, by rw [h5]; omega, by omega, h4⟩
  unfold pReadF at h h3 h5 ⊢
  by_cases g1 : (a : Int) < 0 ∨ (b.length : Int) < a
  · rw [if_pos g1] at h; simp at h
  rw [if_neg g1] at h h3 h5 ⊢
  simp only [Int.toNat_natCast] at h h3 h5 ⊢
  by_cases g2 : b.length < a + 10
  · rw [if_pos g2] at h; simp at h
  rw [if_neg g2] at h h3 h5 ⊢
  by_cases g3 : getF b a 2 < 1 ∨ 1000 < getF b a 2
  · rw [if_pos g3] at h; simp at h
  rw [if_neg g3] at h h3 h5 ⊢
  by_cases g4 : (b.length : Int) < a + 10 + getF b a 2
  · rw [if_pos g4] at h; simp at h
  rw [if_neg g4] at h h3 h5 ⊢
  by_cases g5 : getF b (a + 2) 4 < 1 ∨ 1000000000 < getF b (a + 2) 4
  · rw [if_pos g5] at h; simp at h
  rw [if_neg g5] at h h3 h5 ⊢
  by_cases g6 : getF b (a + 6) 4 ≠ crc ((b.drop a).take 6 ++ textAt b a (getF b a 2).toNat)
  · rw [if_pos g6] at h; simp at h
  rw [if_neg g6] at h h3 h5 ⊢
  simp only at h3 h5 ⊢
  have hl : (textAt b a (getF b a 2).toNat).length = (getF b a 2).toNat := by unfold textAt; rw [List.length_take, List.length_drop]; omega
  rw [hl]
  exact (frame_is (n := (getF b a 2).toNat) (by omega) (by omega)).2 (Decidable.not_not.1 g6)
theorem scan_frames (b : List UInt8) : ∀ (n a : Nat) (p : Option Int), b.length - a ≤ n → a ≤ b.length → (scanFrom b p a).1.flatMap frame = (b.drop a).take ((scanFrom b p a).2 - a) ∧ chainE p (scanFrom b p a).1
  | 0, a, p, hn, ha => by
    rw [scanFrom_end (fun h => by have := readF_next h.1; omega)]
    simp [chainE]
  | n + 1, a, p, hn, ha => by
    by_cases h : (pReadF b a).2.2 = 0 ∧ follows p (pReadF b a).1.1 = true
    · have h0 := readF_next h.1
      obtain ⟨h1, h2, h3, h4⟩ := readF_frame h.1
      obtain ⟨i1, i2⟩ := scan_frames b n (pReadF b a).2.1.toNat (some (pReadF b a).1.1) (by omega) (by omega)
      have hsl := scanFrom_len b (b.length - (pReadF b a).2.1.toNat) (pReadF b a).2.1.toNat (some (pReadF b a).1.1) (Nat.le_refl _) (by omega)
      rw [scanFrom_step h.1 h.2]
      refine ⟨?_, h4, h.2, i2⟩
      rw [List.flatMap_cons, i1, h1]
      rw [h2, Int.toNat_natCast] at hsl ⊢
      generalize (scanFrom b (some (pReadF b a).1.1) (a + (10 + (pReadF b a).1.2.length))).2 = z at hsl ⊢
      rw [← List.drop_drop, show z - a = (10 + (pReadF b a).1.2.length) + (z - (a + (10 + (pReadF b a).1.2.length))) by omega]
      exact (List.take_add ..).symm
    · rw [scanFrom_end h]; simp [chainE]
/-- What is read of any bytes: right entries, just the bytes before the place. -/
theorem pScan_is (b : List UInt8) : (pScan b).1.flatMap frame = b.take (pScan b).2 ∧ pEntries (pScan b).1 = true ∧ (pScan b).2 ≤ b.length := by
  have h := scan_frames b b.length 0 none (by omega) (Nat.zero_le _)
  have h2 := scanFrom_len b b.length 0 none (by omega) (Nat.zero_le _)
  unfold pScan
  exact ⟨by simpa using h.1, entries_chain.2 h.2, h2.2.2⟩
theorem scan_chain : ∀ (l : List Ent) (p : Option Int) (pre rest : List UInt8), chainE p l → (pReadF rest 0).2.2 ≠ 0 →
    scanFrom (pre ++ (l.flatMap frame ++ rest)) p pre.length = (l, pre.length + (l.flatMap frame).length)
  | [], p, pre, rest, _, hr => by
    rw [scanFrom_end (fun h => by
      have h1 := h.1
      rw [readF_shift (by simp)] at h1
      simp only [List.flatMap_nil, List.nil_append, drop_len rfl] at h1
      exact hr h1)]
    simp
  | e :: l, p, pre, rest, hc, hr => by
    have hp := hc.1
    have hl := frame_length e
    have hsh := readF_shift (b := pre ++ ((e :: l).flatMap frame ++ rest)) (a := pre.length) (by simp)
    rw [drop_len rfl, List.flatMap_cons, List.append_assoc, read_frame hp] at hsh
    simp only at hsh
    have ih := scan_chain l (some e.1) (pre ++ frame e) rest hc.2.2 hr
    rw [List.flatMap_cons, List.append_assoc]
    rw [scanFrom_step (by rw [hsh]) (by rw [hsh]; exact hc.2.1), hsh]
    simp only [if_pos]
    rw [List.append_assoc] at ih
    rw [show ((pre.length : Int) + (10 + (e.2.length : Int))).toNat = (pre ++ frame e).length by rw [List.length_append, hl]; omega, ih]
    simp only [List.length_append, Prod.mk.injEq, true_and]
    omega
theorem scan_rest {l : List Ent} (h : pEntries l = true) {rest : List UInt8} (hr : (pReadF rest 0).2.2 ≠ 0) : pScan (l.flatMap frame ++ rest) = (l, (l.flatMap frame).length) := by
  have := scan_chain l none [] rest (entries_chain.1 h) hr
  rw [List.nil_append, List.length_nil, Nat.zero_add] at this
  exact this
theorem scan_whole {l : List Ent} (h : pEntries l = true) : pScan (l.flatMap frame) = (l, (l.flatMap frame).length) := by
  have := scan_rest h (rest := []) (by rw [read_short (by simp)]; decide)
  rwa [List.append_nil] at this
theorem entries_snoc {l : List Ent} {e : Ent} (h : pEntries l = true) (he : pEntry e.1 e.2 = true) (hn : ∀ hl : 0 < l.length, (l[l.length - 1]'(by omega)).1 + 1 = e.1) : pEntries (l ++ [e]) = true := by
  rw [entries_chain, chain_iff] at *
  refine ⟨fun i hi => ?_, fun i hi => ?_, fun _ => rfl⟩
  · simp only [List.length_append, List.length_cons, List.length_nil] at hi
    by_cases e1 : i < l.length
    · rw [List.getElem_append_left e1]; exact h.1 i e1
    · obtain rfl : i = l.length := by omega
      simpa using he
  · simp only [List.length_append, List.length_cons, List.length_nil] at hi
    by_cases e1 : i + 1 < l.length
    · rw [List.getElem_append_left (by omega), List.getElem_append_left e1]; exact h.2.1 i e1
    · have e3 : (l ++ [e])[i + 1] = e := by rw [List.getElem_append_right (by omega)]; simp [show i + 1 - l.length = 0 by omega]
      have e4 : (l ++ [e])[i]'(by simp only [List.length_append, List.length_cons, List.length_nil]; omega) = l[i]'(by omega) := List.getElem_append_left _
      have h3 := hn (by omega)
      rw [e3, e4, ← h3]
      obtain rfl : i = l.length - 1 := by omega
      rfl
end Go.Proofs.YtggaghghclomkaaGreat

/- Opening a history: what it makes of a disk, and that it finds what is there. The plain law. No condition. -/
namespace Go.Proofs.YtggaghghclomkaaGreat
open Go.RowKit
def noSt : StoreP := ⟨noDk, 0, 0, [], 0⟩
/-- An operation, unless one has failed. -/
noncomputable def stepD (x : DiskP × Int) (o : OpD) : DiskP × Int := if x.2 = 0 then pDo x.1 o else x
def rangeK (k z : Int) : Prop := 1 ≤ k ∧ k ≤ 100 ∧ 0 ≤ z ∧ z ≤ 60000
noncomputable def opA (d : DiskP) : DiskP × Int := pDo d oDir
noncomputable def opB (x : DiskP × Int) : DiskP × Int := if (pRead x.1 tempT).2 = true then stepD x (oRm tempT) else x
noncomputable def opC' (x : DiskP × Int) : DiskP × Int := if (pRead x.1 histT).2 = true then x else stepD x (oMk histT)
noncomputable def opCutx (x : DiskP × Int) : DiskP × Int := if (pScan (pRead x.1 histT).1).2 < (pRead x.1 histT).1.length then stepD x (oCut histT ((pScan (pRead x.1 histT).1).2 : Int)) else x
noncomputable def opEnd (x : DiskP × Int) : DiskP × Int := stepD (stepD x (oSync histT)) oDir
open Classical in
noncomputable def pOpen (d : DiskP) (k z : Int) : StoreP × Int :=
  if DOk d ∧ rangeK k z then
    let x := opC' (opB (opA d))
    let y := opEnd (opCutx x)
    (⟨y.1, k, z, if y.2 = 0 then (pScan (pRead x.1 histT).1).1 else [], if y.2 = 0 then ((pScan (pRead x.1 histT).1).2 : Int) else 0⟩, y.2)
  else (noSt, 1)
theorem pOpen_no {d : DiskP} {k z : Int} (h : ¬ (DOk d ∧ rangeK k z)) : pOpen d k z = (noSt, 1) := by unfold pOpen; exact if_neg h
theorem hist_name : pName histT = true := by decide
theorem temp_name : pName tempT = true := by decide
theorem hist_temp : histT ≠ tempT := by decide
theorem DOk.bodyLe {d : DiskP} (h : DOk d) {p : NodeP} (hp : p ∈ d.nodes) : p.2.1.length ≤ 60000 ∧ p.2.2.length ≤ 60000 := by
  have hB := h.base
  unfold dBase at hB
  have hu := h.used
  have h1 : NdM p ≤ pUsed d.nodes := by
    clear hB hu
    generalize d.nodes = l at hp
    induction l with
    | nil => cases hp
    | cons a r ih =>
      have h0 := (pUsed_le r).1
      have h0' : 0 ≤ NdM a := by unfold NdM; omega
      simp only [pUsed, List.map_cons, List.sum_cons] at *
      rcases List.mem_cons.1 hp with rfl | hp
      · omega
      · have := ih hp; omega
  unfold NdM at h1
  omega
/-! the disks that operations make are right -/
section
variable {d : DiskP} {s t : List UInt8} {p q : NodeP} {b : List UInt8}
theorem DOk.app (h : DOk d) (h0 : d.fuse ≠ 0) (H : Has d s p) (hs : pName s = true) (hb : b.length ≤ 60000) : DOk (putN d s (p.1, p.2.1 ++ b.take (roomN d p b).toNat, p.2.2)) := by
  have := h.pDo (o := oApp s b) (by unfold pOp; simp [hs, hb]); rwa [pDo_app h h0 H hs hb] at this
theorem DOk.sync (h : DOk d) (h0 : d.fuse ≠ 0) (H : Has d s p) (hs : pName s = true) : DOk (putN d s (p.1, p.2.1, p.2.1)) := by
  have := h.pDo (o := oSync s) (by unfold pOp; simp [hs]); rwa [pDo_sync h h0 H hs] at this
theorem DOk.cut (h : DOk d) (h0 : d.fuse ≠ 0) (H : Has d s p) (hs : pName s = true) {n : Nat} (hn1 : n ≤ p.2.1.length) (hn2 : n ≤ 60000) : DOk (putN d s (p.1, p.2.1.take n, p.2.2)) := by
  have := h.pDo (o := oCut s n) (by unfold pOp; simp [hs]; omega); rwa [pDo_cut h h0 H hs hn1 hn2] at this
theorem DOk.rmD (h : DOk d) (h0 : d.fuse ≠ 0) (H : Has d s p) (hs : pName s = true) (hl : d.turns.length < 40) : DOk (turnD d ⟨6, s, [], 0⟩) := by
  have := h.pDo (o := oRm s) (by unfold pOp; simp [hs]); rwa [pDo_rm h h0 H hs hl] at this
theorem DOk.renD (h : DOk d) (h0 : d.fuse ≠ 0) (H : Has d s p) (hs : pName s = true) (ht : pName t = true) (hne : t ≠ s) (hl : d.turns.length < 40) : DOk (turnD d ⟨5, s, t, 0⟩) := by
  have := h.pDo (o := oRen s t) (by unfold pOp; simp [hs, ht]); rwa [pDo_ren h h0 H hs ht hne hl] at this
theorem DOk.dirOk (h : DOk d) (h0 : d.fuse ≠ 0) : DOk (dirD d) := by
  have := h.pDo (o := oDir) (by unfold pOp; simp); rwa [pDo_dir h h0] at this
theorem DOk.newD (h : DOk d) (h0 : d.fuse ≠ 0) (hh : dHas (pDir d) s = false) (hs : pName s = true) (hl : d.turns.length < 40) (hx : ¬ (8 ≤ d.nodes.length ∨ 1000000 ≤ d.next)) : DOk (newD d s) := by
  have := h.pDo (o := oMk s) (by unfold pOp; simp [hs])
  rcases pDo_mk h h0 hh hs hl with ⟨h1, _⟩ | ⟨_, h2⟩
  · exact absurd h1 hx
  · rwa [h2] at this
theorem dirD_len (h : DOk d) (h0 : d.fuse ≠ 0) : (dirD d).nodes.length = (pDir d).length := by
  have h1 := h.dirOk h0
  have h2 := h1.len
  unfold pIds at h2
  unfold dirD at h2 ⊢
  simpa using h2.symm
end
/-- A store that is up, all of it durable, with power. -/
structure Live (s : StoreP) : Prop where
  ok : SOk s
  fuse : s.disk.fuse = -1
  turns : s.disk.turns = []
  hist : ∃ p, Has s.disk histT p ∧ p.2.1 = s.list.flatMap frame ∧ p.2.2 = p.2.1
  len : s.len = ((s.list.flatMap frame).length : Int)
  temp : dHas (pDir s.disk) tempT = false
theorem live_of {d : DiskP} {k z : Int} {l : List Ent} {n : Int} {p : NodeP} (h : DOk d) (hr : rangeK k z) (hl : pEntries l = true) (hf : d.fuse = -1) (ht : d.turns = []) (H : Has d histT p) (h1 : p.2.1 = l.flatMap frame) (h2 : p.2.2 = p.2.1) (hn : n = ((l.flatMap frame).length : Int)) (hT : dHas (pDir d) tempT = false) : Live ⟨d, k, z, l, n⟩ := by
  have hb := h.bodyLe H.mem
  have hlog : pLog l = (l.flatMap frame, true) := by unfold pLog; rw [if_pos ⟨hl, by rw [← h1]; omega⟩]
  refine ⟨⟨h, hr, hl, .inr ?_⟩, hf, ht, ⟨p, H, h1, h2⟩, hn, hT⟩
  refine ⟨?_, ?_, ?_, ?_, ?_⟩
  · simp only; rw [H.read h]
  · simp only; rw [hlog]
  · simp only; rw [H.read h, hlog]; exact h1
  · simp only; rw [hlog]; exact hn
  · simp only; rw [read_none hT]
/-- The file is there: what opening makes of it. -/
theorem open_mid {d : DiskP} {p : NodeP} (h : DOk d) (hf : d.fuse = -1) (H : Has d histT p) : ∃ e q, opEnd (opCutx (d, 0)) = (e, 0) ∧ DOk e ∧ e.fuse = -1 ∧ e.turns = [] ∧ Has e histT q ∧ q.2.1 = p.2.1.take (pScan p.2.1).2 ∧ q.2.2 = q.2.1 ∧ pDir e = pDir d := by
  have hb := (h.bodyLe H.mem).1
  have hn := (pScan_is p.2.1).2.2
  have hd : ∃ d1 p1, opCutx (d, 0) = (d1, 0) ∧ DOk d1 ∧ d1.fuse = -1 ∧ Has d1 histT p1 ∧ p1.2.1 = p.2.1.take (pScan p.2.1).2 ∧ pDir d1 = pDir d := by
    unfold opCutx
    simp only [H.read h]
    by_cases hc : (pScan p.2.1).2 < p.2.1.length
    · rw [if_pos hc]
      refine ⟨putN d histT (p.1, p.2.1.take (pScan p.2.1).2, p.2.2), _, ?_, h.cut (by omega) H hist_name hn (by omega), ?_, H.put h rfl, rfl, rfl⟩
      · unfold stepD; rw [if_pos rfl]; exact pDo_cut h (by omega) H hist_name hn (by omega)
      · exact (fuseOf_step h (by omega)).2 hf
    · rw [if_neg hc]
      exact ⟨d, p, rfl, h, hf, H, by rw [List.take_of_length_le (by omega)], rfl⟩
  obtain ⟨d1, p1, e1, h1, hf1, H1, hp1, hd1⟩ := hd
  rw [e1]
  unfold opEnd stepD
  simp only [if_true]
  rw [pDo_sync h1 (by omega) H1 hist_name]
  have h2 := h1.sync (by omega) H1 hist_name
  have H2 := H1.put h1 (p' := (p1.1, p1.2.1, p1.2.1)) rfl
  have hf2 : (putN d1 histT (p1.1, p1.2.1, p1.2.1)).fuse = -1 := (fuseOf_step h1 (by omega)).2 hf1
  simp only [if_true]
  rw [pDo_dir h2 (by omega)]
  exact ⟨_, _, rfl, h2.dirOk (by omega), (fuseOf_step h2 (by omega)).2 hf2, rfl, H2.dir, hp1, rfl, hd1⟩
theorem opC_there {x : DiskP × Int} (h : (pRead x.1 histT).2 = true) : opC' x = x := by unfold opC'; rw [if_pos h]
/-- What is made before the file is read: the directory is settled, no half made file is there. -/
theorem open_pre {d : DiskP} (h : DOk d) (hf : d.fuse = -1) : ∃ e, opB (opA d) = (e, 0) ∧ DOk e ∧ e.fuse = -1 ∧ e.turns.length ≤ 1 ∧ dHas (pDir e) tempT = false ∧ dHas (pDir e) histT = dHas (pDir d) histT ∧ (∀ p, Has d histT p → Has e histT p) ∧ e.nodes.length = (pDir d).length ∧ e.next = d.next ∧ ∀ s, s ≠ tempT → dHas (pDir e) s = dHas (pDir d) s := by
  unfold opA
  rw [pDo_dir h (by omega)]
  have h1 := h.dirOk (by omega)
  have hf1 : (dirD d).fuse = -1 := (fuseOf_step h (by omega)).2 hf
  unfold opB
  simp only [read_iff h1]
  cases hT : dHas (pDir (dirD d)) tempT with
  | true =>
    obtain ⟨t, HT⟩ := h1.has hT
    rw [if_pos rfl]
    unfold stepD
    rw [if_pos rfl, pDo_rm h1 (by omega) HT temp_name (by unfold dirD; simp)]
    refine ⟨_, rfl, h1.rmD (by omega) HT temp_name (by unfold dirD; simp), (fuseOf_step h1 (by omega)).2 hf1, ?_, ?_, ?_, ?_, dirD_len h (by omega), rfl, ?_⟩
    · unfold turnD dirD; simp
    · rw [rm_dir]; exact dHas_dLess _ _
    · rw [rm_dir, less_has, dirD_dir]; simp [hist_temp]
    · exact fun p H => H.dir.rm h1 hist_temp
    · intro s hs; rw [rm_dir, less_has, dirD_dir]; simp [hs]
  | false =>
    rw [if_neg (by decide)]
    exact ⟨_, rfl, h1, hf1, by unfold dirD; simp, hT, rfl, fun p H => H.dir, dirD_len h (by omega), rfl, fun s _ => rfl⟩
theorem opEnd_dead {x : DiskP × Int} (h : x.2 ≠ 0) : opEnd (opCutx x) = x := by
  have h1 : opCutx x = x := by
    unfold opCutx stepD
    rw [if_neg h]
    split <;> rfl
  rw [h1]
  unfold opEnd stepD
  rw [if_neg h, if_neg h]
/-- Opening with power: the file is there behind it, and what is in it is found; or there is no room for a file. -/
theorem open_law {d : DiskP} {k z : Int} (h : DOk d) (hf : d.fuse = -1) (hr : rangeK k z) :
    ((pOpen d k z).2 = 0 ∧ Live (pOpen d k z).1 ∧ (pOpen d k z).1.keep = k ∧ (pOpen d k z).1.size = z ∧ (pOpen d k z).1.list = (pScan (pRead d histT).1).1 ∧ (pRead (pOpen d k z).1.disk histT).1 = (pRead d histT).1.take (pScan (pRead d histT).1).2) ∨
    ((pOpen d k z).2 = 4 ∧ (pOpen d k z).1.list = [] ∧ dHas (pDir d) histT = false ∧ (8 ≤ (pDir d).length ∨ 1000000 ≤ d.next)) := by
  obtain ⟨e, he, h1, hf1, ht1, hT1, hh1, hH1, hl1, hn1, _⟩ := open_pre h hf
  have hop : pOpen d k z = (let x := opC' (e, 0); let y := opEnd (opCutx x); (⟨y.1, k, z, if y.2 = 0 then (pScan (pRead x.1 histT).1).1 else [], if y.2 = 0 then ((pScan (pRead x.1 histT).1).2 : Int) else 0⟩, y.2)) := by
    unfold pOpen; rw [if_pos ⟨h, hr⟩, he]
  have fin : ∀ (g : DiskP) (p : NodeP), opC' (e, 0) = (g, 0) → DOk g → g.fuse = -1 → dHas (pDir g) tempT = false → Has g histT p → p.2.1 = (pRead d histT).1 →
      (pOpen d k z).2 = 0 ∧ Live (pOpen d k z).1 ∧ (pOpen d k z).1.keep = k ∧ (pOpen d k z).1.size = z ∧ (pOpen d k z).1.list = (pScan (pRead d histT).1).1 ∧ (pRead (pOpen d k z).1.disk histT).1 = (pRead d histT).1.take (pScan (pRead d histT).1).2 := by
    intro g p hg h2 hf2 hT2 H hb
    obtain ⟨f, q, hq, h3, hf3, ht3, Hq, hq1, hq2, hd3⟩ := open_mid h2 hf2 H
    rw [hop, hg]
    simp only [hq, if_true, H.read h2]
    rw [hb] at hq1 ⊢
    obtain ⟨s1, s2, s3⟩ := pScan_is (pRead d histT).1
    refine ⟨by first | trivial | rfl, ?_, by first | trivial | rfl, by first | trivial | rfl, by first | trivial | rfl, ?_⟩
    · refine live_of h3 hr s2 hf3 ht3 Hq (by rw [hq1, s1]) hq2 ?_ (by rw [hd3]; exact hT2)
      rw [s1, List.length_take]; omega
    · rw [Hq.read h3]; exact hq1
  cases hh : dHas (pDir d) histT with
  | true =>
    left
    obtain ⟨p, H⟩ := h.has hh
    exact fin e p (opC_there (by rw [(hH1 p H).read h1])) h1 hf1 hT1 (hH1 p H) (by rw [H.read h])
  | false =>
    have hh2 : dHas (pDir e) histT = false := hh1.trans hh
    have hC : opC' (e, 0) = pDo e (oMk histT) := by unfold opC' stepD; simp only [read_none hh2]; rfl
    rcases pDo_mk h1 (by omega) hh2 hist_name (by omega) with ⟨hx, h4⟩ | ⟨hx, h4⟩
    · right
      rw [hop, hC, h4]
      simp only [opEnd_dead (x := (e, 4)) (by simp)]
      exact ⟨by first | trivial | rfl, by simp, by first | trivial | rfl, by omega⟩
    · left
      have h5 := h1.newD (by omega) hh2 hist_name (by omega) hx
      refine fin (newD e histT) (e.next, [], []) (hC.trans h4) h5 ((fuseOf_step h1 (by omega)).2 hf1) ?_ (Has.newNew h1 hh2) (by rw [read_none hh])
      rw [newD_dir, ins_has, hT1]; simp [hist_temp]
/-- A live store behind a loss of power and a start. -/
theorem Live.again {s : StoreP} (h : Live s) (tn : Int) (cuts : List Int) : DOk (crashD s.disk tn cuts) ∧ (pRead (crashD s.disk tn cuts) histT).1 = s.list.flatMap frame := by
  obtain ⟨p, H, h1, h2⟩ := h.hist
  have hd := h.ok.disk
  have hk : runT s.disk.kept (s.disk.turns.take (tnN s.disk tn)) = pDir s.disk := by unfold pDir; rw [h.turns, List.take_nil]
  obtain ⟨i, K⟩ := HasL.crash hd (tn := tn) (cuts := cuts) (s := histT) (p := p) (by rw [hk]; exact H)
  refine ⟨hd.crash tn cuts, ?_⟩
  rw [K.read (hd.crash tn cuts)]
  unfold crashP
  simp only
  rw [h2, tear_self, h1]
theorem Live.open {s : StoreP} (h : Live s) : (pScan (s.list.flatMap frame)).1 = s.list := by rw [scan_whole h.ok.list]
end Go.Proofs.YtggaghghclomkaaGreat

/- Contracts: an operation on a disk, by the program. -/
namespace Go.Proofs.YtggaghghclomkaaGreat
open Go.RowKit
attribute [local irreducible] TL TC TN TX TR TQ TA Pu Ret
set_option maxRecDepth 100000 in
set_option maxHeartbeats 16000000 in
theorem opCode_c {w : World} {lo hi : Nat} {d : DiskP} {sn sk st vo : Value} {o : OpD} (h : RDk w lo hi d sn sk st) (hf : d.fits) (_hl : totD d ≤ 1048576) (hD : DOk d) (hO : pOp o = true) :
    Ret Tryz.prog 93 #[.agg (dskC d sn sk st).toArray, .agg (opC o vo).toArray] w fun v' w' => v' = I (pCode d o) ∧ Ext w w' := by
  have hh := h
  obtain ⟨ft1, ft2⟩ := fits_tk hf
  obtain ⟨ds, A, c, hm, rfl, hc, hr, hok⟩ := h.1
  obtain ⟨At, ct, rfl, hct, hrt⟩ := h.2.2.row
  have hln : d.nodes.length = ds.length := by rw [← hm, List.length_map]
  have hB := hD.base
  unfold dBase at hB
  obtain ⟨p1, p2, p3, p4, p5, p6, p7, p8, p9⟩ := pOp_parts hO
  obtain ⟨kind, name, to, size, data⟩ := o
  simp only at p1 p2 p3 p4 p5 p6 p7 p8 p9
  have hs : name.length ≤ 9223372036854775807 := by
    by_cases h7 : kind = 7
    · rw [p2 h7]; simp
    · have := pName_len (p3 h7); omega
  refine Ret_enter Tryz.func93 rfl rfl rfl ?_
  repeat' (first | apply Jbs | apply Jbt)
  refine TL_box (cs := dskC d (.slice A ds.length c) sk (.slice At d.turns.length ct)) rfl rfl ?_
  intro w1 g2 e1 hg2 hz1 hb2
  skip
  refine TL_box (cs := opC ⟨kind, name, to, size, data⟩ vo) rfl rfl ?_
  intro w2 g3 e2 hg3 hz2 hb3
  replace hb2 := hb2.ext e2
  have E2 : Ext w w2 := e1.ext e2
  repeat' (first | apply Jbq | apply Jbr | apply Jbs | apply Jbt | (apply Jcg; (first | exact Jab rfl | (apply Jbl; exact Us.h; exact rfl; exact Sz.h; exact rfl)); exact rfl) | refine Jcg (Pu_load Fl.h rfl (fun _ e => by rw [e]; exact hb2.ld rfl)) rfl ?_)
  refine TL_call rfl en67 (dirOf_c (hh.2.1.ext E2) (hh.2.2.ext E2) (kept_asc ((dok_iff d).1 hD).link) (by omega) (by omega) ft1 ft2) rfl rfl ?_
  rintro _ w3 ⟨e3, hq⟩
  rcases hq with ⟨_, b, kb, rfl, _, _, hM⟩ | ⟨hA, _⟩
  case inr => exact absurd ((dok_iff d).1 hD).turn hA
  rw [show runT d.kept d.turns = pDir d from rfl] at hM
  replace hb2 := hb2.ext e3
  replace hb3 := hb3.ext e3
  have E3 := E2.ext e3
  have hk7 : kind = 1 ∨ kind = 2 ∨ kind = 3 ∨ kind = 4 ∨ kind = 5 ∨ kind = 6 ∨ kind = 7 := by omega
  cases hhas : dHas (pDir d) name with
  | false =>
    clear hr hok hrt ft1 ft2 e1 e2 e3 E2
    rcases hk7 with rfl | rfl | rfl | rfl | rfl | rfl | rfl
    all_goals (repeat' (first | apply Jbq | apply Jbr | apply Jbs | apply Jbt | apply Jbu | apply Jbv | apply Jbw | apply Jby | (refine Jce rfl ?_) | (refine Jcf rfl ?_) | (apply Jcg; (first | exact Jaa rfl | exact Jab rfl | exact Jac Us.h rfl | exact Jae rfl rfl | exact Jah rfl rfl | exact Jai rfl rfl | exact Jak rfl rfl | exact Jal rfl rfl | exact Jao rfl rfl | exact Jau Us.h rfl rfl | (apply Jbl; exact Us.h; exact rfl; exact Sz.h; exact rfl)); exact rfl) | refine Jch rfl rfl rfl ?_ | refine Jci rfl rfl rfl rfl rfl ?_ | refine Jcj rfl rfl rfl rfl ?_ | refine Jcg (Pu_load Fl.h rfl (fun _ e => by rw [e]; exact hb2.ld rfl)) rfl ?_ | refine Jcg (Pu_load Fl.h rfl (fun _ e => by rw [e]; exact hb3.ld rfl)) rfl ?_ | refine Jcg (Pu_dirLookB rfl rfl hs hhas (fun w' e => ⟨kb, by rw [e]; exact hM⟩)) rfl ?_ | (refine Jcs rfl rfl (fun hb => ?_) (fun hb => ?_) <;> (try (exfalso; omega))) | (refine Jcx rfl (fun hb => ?_) (fun hb => ?_) <;> (try (exfalso; omega)))))
    all_goals first
      | (refine TR_of (res1 rfl rfl) ⟨congrArg I ?_, E3⟩; (first | rw [pCode_1 rfl] | rw [pCode_23 (.inl rfl)] | rw [pCode_23 (.inr rfl)] | rw [pCode_4 rfl] | rw [pCode_5 rfl] | rw [pCode_6 rfl] | rw [pCode_7 rfl]); (try simp only [hhas]); (repeat' split) <;> first | rfl | (exfalso; omega) | contradiction)
      | skip
    all_goals (refine TC_quietExt mixed (by kernel_rfl) ?_)
    all_goals (repeat' (first | (apply Jck; (first | exact Jaa rfl | exact Jab rfl | exact Jai rfl rfl | exact Jak rfl rfl | (apply Jbl; exact Us.h; exact rfl; exact Sz.h; exact rfl)); exact rfl) | refine Jcm rfl rfl rfl rfl rfl ?_ | refine Jck (Pu_load Fl.h rfl (fun _ e => Ext.cell e (hb3.ld rfl))) rfl ?_))
    all_goals (refine TQ_nil fun w5 e5 => ?_)
    all_goals (replace hb2 := hb2.ext e5; replace hb3 := hb3.ext e5)
    all_goals (repeat' (first | apply Jbq | apply Jbr | apply Jbs | apply Jbt | apply Jbu | apply Jbx | apply Jbz | (refine Jcf rfl ?_) | (apply Jcg; (first | exact Jaa rfl | exact Jab rfl | exact Jai rfl rfl | exact Jak rfl rfl | (apply Jbl; exact Us.h; exact rfl; exact Sz.h; exact rfl)); exact rfl) | refine Jci rfl rfl rfl rfl rfl ?_ | refine Jcg (Pu_load Fl.h rfl (fun _ e => by rw [e]; exact hb3.ld rfl)) rfl ?_))
    all_goals (refine TR_of (res1 rfl rfl) ⟨congrArg I ?_, E3.ext e5⟩; (first | rw [pCode_1 rfl] | rw [pCode_23 (.inl rfl)] | rw [pCode_23 (.inr rfl)] | rw [pCode_4 rfl] | rw [pCode_5 rfl] | rw [pCode_6 rfl] | rw [pCode_7 rfl]); (try simp only [hhas]); (repeat' split) <;> first | rfl | (exfalso; omega) | contradiction)
  | true =>
    obtain ⟨i, hi, hat, _⟩ := hD.dirAt hhas
    have hne7 : kind ≠ 7 := fun e => by rw [p2 e, hD.noName] at hhas; cases hhas
    have hbat : bodyAt d (opAt d ⟨kind, name, to, size, data⟩) = d.nodes[i].2.1 := by unfold opAt; simp only; rw [hat]; exact bodyAt_nat hi
    obtain ⟨ad, rfl, hcell⟩ := Rd.elem NdC_len (hr.ext E3) (k := i) (by omega)
    have hni : d.nodes[i] = NdP ds[i] := by simp only [← hm, List.getElem_map]
    have hbody : d.nodes[i].2.1 = ds[i].body := by rw [hni]; rfl
    have hrb := (hok _ (List.getElem_mem (show i < ds.length by omega))).1
    have hcv : w3.cell? ((ad.add (i * 3)).add 1) = some (ds[i]'(by omega)).vb := hcell 1 _ rfl
    obtain ⟨x, hx⟩ : ∃ x, x = ds[i]'(by omega) := ⟨_, rfl⟩
    rw [← hx] at hcv hrb hbody
    rw [hbody] at hbat
    obtain ⟨Ab, cb, hvb, hcb, hrdb⟩ := hrb
    rw [hvb] at hcv
    obtain ⟨B, hBq⟩ : ∃ B, B = x.body := ⟨_, rfl⟩
    rw [← hBq] at hcv hbat
    clear hr hok hrt ft1 ft2 e1 e2 e3 hcell hrdb
    have hk6 : kind = 1 ∨ kind = 2 ∨ kind = 3 ∨ kind = 4 ∨ kind = 5 ∨ kind = 6 := by omega
    have hnd : ∀ w', Ext w3 w' → Ret Tryz.prog 94 #[.agg (dskC d (.slice (some ad) ds.length c) sk (.slice At d.turns.length ct)).toArray, I (dFind (pDir d) name)] w' fun v w'' => v = I (i : Int) ∧ Ext w3 w'' := fun w' e =>
      (implnodeAt_c (hh.ext (E3.ext e)) (by omega)).mono fun v w'' ⟨hv, e2⟩ => ⟨by rw [hv, hat], e.ext e2⟩
    rcases hk6 with rfl | rfl | rfl | rfl | rfl | rfl
    all_goals (repeat' (first | apply Jbq | apply Jbr | apply Jbs | apply Jbt | apply Jbu | apply Jbv | apply Jbw | apply Jby | (refine Jce rfl ?_) | (refine Jcf rfl ?_) | (apply Jcg; (first | exact Jaa rfl | exact Jab rfl | exact Jac Us.h rfl | exact Jae rfl rfl | exact Jah rfl rfl | exact Jai rfl rfl | exact Jak rfl rfl | exact Jal rfl rfl | exact Jao rfl rfl | exact Jau Us.h rfl rfl | (apply Jbl; exact Us.h; exact rfl; exact Sz.h; exact rfl)); exact rfl) | refine Jch rfl rfl rfl ?_ | refine Jci rfl rfl rfl rfl rfl ?_ | refine Jcj rfl rfl rfl rfl ?_ | refine Jcg (Pu_load Fl.h rfl (fun _ e => by rw [e]; exact hb2.ld rfl)) rfl ?_ | refine Jcg (Pu_load Fl.h rfl (fun _ e => by rw [e]; exact hb3.ld rfl)) rfl ?_ | refine Jcg (Pu_dirLookB rfl rfl hs hhas (fun w' e => ⟨kb, by rw [e]; exact hM⟩)) rfl ?_ | (refine Jcx rfl (fun hb => ?_) (fun hb => ?_) <;> (try (exfalso; omega)))))
    all_goals first
      | (refine TR_of (res1 rfl rfl) ⟨congrArg I ?_, E3⟩; (first | rw [pCode_1 rfl] | rw [pCode_23 (.inl rfl)] | rw [pCode_23 (.inr rfl)] | rw [pCode_4 rfl] | rw [pCode_5 rfl] | rw [pCode_6 rfl] | rw [pCode_7 rfl]); (try simp only [hhas]); (repeat' split) <;> first | rfl | (exfalso; omega) | contradiction)
      | skip
    all_goals (refine TC_quietExt mixed (by kernel_rfl) ?_)
    all_goals (repeat' (first | (apply Jck; (first | exact Jaa rfl | exact Jab rfl | exact Jac Us.h rfl | exact Jah rfl rfl | exact Jai rfl rfl | exact Jak rfl rfl | exact Jam rfl rfl | exact Jar Us.h Sz.h rfl rfl (by omega) | (apply Jbl; exact Us.h; exact rfl; exact Sz.h; exact rfl)); exact rfl) | refine Jcl rfl rfl rfl ?_ | refine Jcm rfl rfl rfl rfl rfl ?_ | refine Jck (Pu_load Fl.h rfl (fun _ e => Ext.cell e (hb2.ld rfl))) rfl ?_ | refine Jck (Pu_load Fl.h rfl (fun _ e => Ext.cell e (hb3.ld rfl))) rfl ?_ | refine Jck (Pu_load Fl.h rfl (fun _ e => Ext.cell e hcv)) rfl ?_ | refine Jck (Pu_loadAgg (cs := dskC d (.slice (some ad) ds.length c) sk (.slice At d.turns.length ct)) Us.h rfl Sz.h rfl (fun _ e j u hu => Ext.cell e (by rw [add0, hb2.cell]; exact hu))) rfl ?_ | refine TQ_call rfl en94 hnd rfl ?_))
    all_goals (refine TQ_nil fun w5 e5 => ?_)
    all_goals (replace hb2 := hb2.ext e5; replace hb3 := hb3.ext e5)
    all_goals (repeat' (first | apply Jbq | apply Jbr | apply Jbs | apply Jbt | apply Jbu | apply Jbv | apply Jbw | apply Jbx | apply Jbz | (refine Jcf rfl ?_) | (apply Jcg; (first | exact Jaa rfl | exact Jab rfl | exact Jah rfl rfl | exact Jai rfl rfl | exact Jak rfl rfl | exact Jas rfl rfl | (apply Jbl; exact Us.h; exact rfl; exact Sz.h; exact rfl)); exact rfl) | refine Jch rfl rfl rfl ?_ | refine Jci rfl rfl rfl rfl rfl ?_ | refine Jcg (Pu_load Fl.h rfl (fun _ e => by rw [e]; exact hb3.ld rfl)) rfl ?_ | (refine Jcx rfl (fun hb => ?_) (fun hb => ?_) <;> (try (exfalso; omega)))))
    all_goals (refine TR_of (res1 rfl rfl) ⟨congrArg I ?_, E3.ext e5⟩; (first | rw [pCode_1 rfl] | rw [pCode_23 (.inl rfl)] | rw [pCode_23 (.inr rfl)] | rw [pCode_4 rfl, hbat] | rw [pCode_5 rfl] | rw [pCode_6 rfl] | rw [pCode_7 rfl]); (try simp only [hhas]); (repeat' split) <;> first | rfl | (exfalso; omega) | contradiction)
end Go.Proofs.YtggaghghclomkaaGreat
