/- Contracts: the entries of a disk. -/
import Derived.Test.YtmkmphdfpghjbaaReadE
import Derived.Test.YtmkmphdfpghjbaaKindE
import Derived.Test.YtmkmphdfpghjbaaLog
namespace Go.Proofs.Ytmkmphdfpghjbaa
open Go.RowKit
def histT : List UInt8 := [104, 105, 115, 116]
def tempT : List UInt8 := [116, 101, 109, 112]
noncomputable def pFound (d : DiskP) : List Ent := (pScan (pRead d histT).1).1
theorem pScan_nil : pScan [] = ([], 0) := by
  unfold pScan
  rw [scanFrom_end (fun h => by have := readF_next h.1; simp at this; omega)]
theorem pScan_len (b : List UInt8) : (pScan b).1.length ≤ b.length := by
  have := (scanFrom_len b b.length 0 none (by omega) (Nat.zero_le _)).1
  unfold pScan
  omega
theorem pFound_len (d : DiskP) (h : totD d ≤ 1048576) : (pFound d).length ≤ 1048576 := Nat.le_trans (pScan_len _) (pRead_len d histT h)
attribute [local irreducible] TL TC TN TX TR TQ TA Pu Ret
set_option maxHeartbeats 2000000 in
theorem specFound_c {w : World} {lo hi : Nat} {d : DiskP} {sn sk st : Value} (h : RDk w lo hi d sn sk st) (hf : d.fits) (hl : totD d ≤ 1048576) :
    Ret Try.prog 36 #[.agg (dskC d sn sk st).toArray] w fun v' w' => Ext w w' ∧ RE w' 0 w'.heap.size v' (pFound d) := by
  refine Ret_enter Try.func36 rfl rfl rfl ?_
  repeat' (first | apply Jbq | apply Jbr | apply Jbs | apply Jbt | apply Jbu | apply Jbv | apply Jbw | apply Jbx | apply Jby | apply Jbz | apply Jca | apply Jcb | apply Jcc | (refine Jcd rfl ?_) | (refine Jce rfl ?_) | (refine Jcf rfl ?_) | (apply Jcg; (first | exact Jaa rfl | exact Jab rfl | exact Jae rfl rfl | exact Jaj rfl); exact rfl) | refine Jch rfl rfl rfl ?_ | refine Jci rfl rfl rfl rfl rfl ?_ | refine Jcj rfl rfl rfl rfl ?_)
  refine TL_box (cs := dskC d sn sk st) rfl rfl ?_
  intro wb g E hg hz hb0
  clear hz
  repeat' (first | apply Jbq | apply Jbr | apply Jbs | apply Jbt | apply Jbu | apply Jbv | apply Jbw | apply Jbx | apply Jby | apply Jbz | apply Jca | apply Jcb | apply Jcc | (refine Jcd rfl ?_) | (refine Jce rfl ?_) | (refine Jcf rfl ?_) | (apply Jcg; (first | exact Jaa rfl | exact Jab rfl | exact Jae rfl rfl | exact Jaj rfl); exact rfl) | refine Jch rfl rfl rfl ?_ | refine Jci rfl rfl rfl rfl rfl ?_ | refine Jcj rfl rfl rfl rfl ?_ | refine Jcg (Pu_loadAgg (cs := dskC d sn sk st) Us.h rfl Sz.h rfl (fun _ e j u hu => by rw [e, add0, hb0.cell]; exact hu)) rfl ?_)
  refine TL_call rfl en20 (specDiskRead_c (s := histT) (h.ext E) hf hl) rfl rfl ?_
  rintro _ w1 ⟨v1, rfl, e1, r1⟩
  have hpl := pRead_len d histT hl
  have E1 := E.ext e1
  cases h2 : (pRead d histT).2 with
  | false =>
    have : (pRead d histT).1 = [] := by
      by_cases hq : DOk d ∧ dHas (pDir d) histT = true
      · rw [pRead_yes hq.1 hq.2] at h2; cases h2
      · rw [pRead_no hq]
    repeat' (first | apply Jbq | apply Jbr | apply Jbs | apply Jbt | apply Jbu | apply Jbv | apply Jbw | apply Jbx | apply Jby | apply Jbz | apply Jca | apply Jcb | apply Jcc | (refine Jcd rfl ?_) | (refine Jce rfl ?_) | (refine Jcf rfl ?_) | (apply Jcg; (first | exact Jaa rfl | exact Jab rfl | exact Jae rfl rfl | exact Jaj rfl); exact rfl) | refine Jch rfl rfl rfl ?_ | refine Jci rfl rfl rfl rfl rfl ?_ | refine Jcj rfl rfl rfl rfl ?_)
    refine TR_of (res1 rfl rfl) ⟨E1, ?_⟩
    unfold pFound
    rw [this, pScan_nil]
    exact ⟨none, 0, rfl, Nat.le_refl _, ⟨rfl, Nat.le_refl _, fun h => absurd h (by simp)⟩⟩
  | true =>
    repeat' (first | apply Jbq | apply Jbr | apply Jbs | apply Jbt | apply Jbu | apply Jbv | apply Jbw | apply Jbx | apply Jby | apply Jbz | apply Jca | apply Jcb | apply Jcc | (refine Jcd rfl ?_) | (refine Jce rfl ?_) | (refine Jcf rfl ?_) | (apply Jcg; (first | exact Jaa rfl | exact Jab rfl | exact Jae rfl rfl | exact Jaj rfl); exact rfl) | refine Jch rfl rfl rfl ?_ | refine Jci rfl rfl rfl rfl rfl ?_ | refine Jcj rfl rfl rfl rfl ?_)
    refine TL_call rfl en94 (specScan_k r1 hpl) rfl rfl ?_
    rintro _ w2 ⟨v2, rfl, e2, o2⟩
    repeat' (first | apply Jbq | apply Jbr | apply Jbs | apply Jbt | apply Jbu | apply Jbv | apply Jbw | apply Jbx | apply Jby | apply Jbz | apply Jca | apply Jcb | apply Jcc | (refine Jcd rfl ?_) | (refine Jce rfl ?_) | (refine Jcf rfl ?_) | (apply Jcg; (first | exact Jaa rfl | exact Jab rfl | exact Jae rfl rfl | exact Jaj rfl); exact rfl) | refine Jch rfl rfl rfl ?_ | refine Jci rfl rfl rfl rfl rfl ?_ | refine Jcj rfl rfl rfl rfl ?_)
    refine TR_of (res1 rfl rfl) ⟨E1.ext e2, ?_⟩
    obtain ⟨A', c', h1, h2, h3⟩ := o2.rd
    exact ⟨A', c', h1, h2, h3.wide (Nat.zero_le _) (Nat.le_refl _) (Nat.le_refl _)⟩
set_option maxHeartbeats 2000000 in
theorem implFound_c {w : World} {lo hi : Nat} {d : DiskP} {sn sk st : Value} (h : RDk w lo hi d sn sk st) (hf : d.fits) (hl : totD d ≤ 1048576) :
    Ret Try.prog 37 #[.agg (dskC d sn sk st).toArray] w fun v' w' => Ext w w' ∧ OE w' w.heap.size w'.heap.size v' (pFound d) := by
  refine Ret_enter Try.func37 rfl rfl rfl ?_
  repeat' (first | apply Jbq | apply Jbr | apply Jbs | apply Jbt | apply Jbu | apply Jbv | apply Jbw | apply Jbx | apply Jby | apply Jbz | apply Jca | apply Jcb | apply Jcc | (refine Jcd rfl ?_) | (refine Jce rfl ?_) | (refine Jcf rfl ?_) | (apply Jcg; (first | exact Jaa rfl | exact Jab rfl | exact Jae rfl rfl | exact Jaj rfl); exact rfl) | refine Jch rfl rfl rfl ?_ | refine Jci rfl rfl rfl rfl rfl ?_ | refine Jcj rfl rfl rfl rfl ?_)
  refine TL_box (cs := dskC d sn sk st) rfl rfl ?_
  intro wb g E hg hz hb0
  clear hz
  repeat' (first | apply Jbq | apply Jbr | apply Jbs | apply Jbt | apply Jbu | apply Jbv | apply Jbw | apply Jbx | apply Jby | apply Jbz | apply Jca | apply Jcb | apply Jcc | (refine Jcd rfl ?_) | (refine Jce rfl ?_) | (refine Jcf rfl ?_) | (apply Jcg; (first | exact Jaa rfl | exact Jab rfl | exact Jae rfl rfl | exact Jaj rfl); exact rfl) | refine Jch rfl rfl rfl ?_ | refine Jci rfl rfl rfl rfl rfl ?_ | refine Jcj rfl rfl rfl rfl ?_ | refine Jcg (Pu_loadAgg (cs := dskC d sn sk st) Us.h rfl Sz.h rfl (fun _ e j u hu => by rw [e, add0, hb0.cell]; exact hu)) rfl ?_)
  refine TL_call rfl en21 (implDiskRead_c (s := histT) (h.ext E) hf hl (by decide)) rfl rfl ?_
  rintro _ w1 ⟨v1, rfl, e1, r1⟩
  have hpl := pRead_len d histT hl
  have E1 := E.ext e1
  repeat' (first | apply Jbq | apply Jbr | apply Jbs | apply Jbt | apply Jbu | apply Jbv | apply Jbw | apply Jbx | apply Jby | apply Jbz | apply Jca | apply Jcb | apply Jcc | (refine Jcd rfl ?_) | (refine Jce rfl ?_) | (refine Jcf rfl ?_) | (apply Jcg; (first | exact Jaa rfl | exact Jab rfl | exact Jae rfl rfl | exact Jaj rfl); exact rfl) | refine Jch rfl rfl rfl ?_ | refine Jci rfl rfl rfl rfl rfl ?_ | refine Jcj rfl rfl rfl rfl ?_)
  refine TL_call rfl en95 (implScan_k r1.rd hpl) rfl rfl ?_
  rintro _ w2 ⟨v2, rfl, e2, o2⟩
  repeat' (first | apply Jbq | apply Jbr | apply Jbs | apply Jbt | apply Jbu | apply Jbv | apply Jbw | apply Jbx | apply Jby | apply Jbz | apply Jca | apply Jcb | apply Jcc | (refine Jcd rfl ?_) | (refine Jce rfl ?_) | (refine Jcf rfl ?_) | (apply Jcg; (first | exact Jaa rfl | exact Jab rfl | exact Jae rfl rfl | exact Jaj rfl); exact rfl) | refine Jch rfl rfl rfl ?_ | refine Jci rfl rfl rfl rfl rfl ?_ | refine Jcj rfl rfl rfl rfl ?_)
  obtain ⟨A', c', h1, h3⟩ := o2
  exact TR_of (res1 rfl rfl) ⟨E1.ext e2, A', c', h1, h3.wide E1.size (Nat.le_refl _) (Nat.le_refl _)⟩
end Go.Proofs.Ytmkmphdfpghjbaa
