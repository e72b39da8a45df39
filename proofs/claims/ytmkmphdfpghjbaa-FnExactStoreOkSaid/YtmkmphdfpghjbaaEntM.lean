/- Contracts of the laws' own helpers on lists of entries: marks. -/
import Derived.Test.YtmkmphdfpghjbaaEntS
import Derived.Test.YtmkmphdfpghjbaaMarkT
namespace Go.Proofs.Ytmkmphdfpghjbaa
open Go.RowKit
attribute [local irreducible] TL TC TN TX TR TQ TA Pu Ret

/-- The marks of entries. -/
def mkE (k : Int) (n : Nat) : List Ent := (List.range n).map fun (i : Nat) => (k + 2 * (i : Int), markT (k + 2 * (i : Int) + 1).toNat)
@[simp] theorem mkE_length (k : Int) (n : Nat) : (mkE k n).length = n := by simp [mkE]
theorem mkE_get (k : Int) (n i : Nat) (h : i < (mkE k n).length) : (mkE k n)[i] = (k + 2 * (i : Int), markT (k + 2 * (i : Int) + 1).toNat) := by simp [mkE]
def ME (w : World) (lo hi : Nat) (v : Value) (k : Int) (l : List Ent) : Prop := OE w lo hi v (mkE k l.length)
theorem ME.ch {w w' : World} {lo hi : Nat} {v : Value} {l : List Ent} {k : Int} {T : Nat → Prop} (h : ME w lo hi v k l) (c : Ch T w w') (hd : ∀ k, lo ≤ k → k < hi → ¬ T k) : ME w' lo hi v k l := OE.ch h c hd
theorem ME.ext {w w' : World} {lo hi : Nat} {v : Value} {l : List Ent} {k : Int} (h : ME w lo hi v k l) (c : Ext w w') : ME w' lo hi v k l := OE.ext h c
theorem add_lit2 (g a b : Nat) : ((⟨g, 0, none⟩ : Addr).add a).add b = ⟨g, a + b, none⟩ := by rw [add_of_add, add0]
set_option maxHeartbeats 1000000 in
theorem markEntryS_c {lo hi n c : Nat} {A : Option Addr} {xs : List Value} {k : Int} {w : World} (ho : Own w lo hi 121 2 A n c xs) (hl : n ≤ 1099511627776) (hk0 : 0 ≤ k) (hk1 : k ≤ 1099511627776) :
    Ret Try.prog 39 #[.slice A n c, I k] w fun v w' => v = I (k + 2 * n) ∧ Ch (fun j => Iv lo hi j) w w' ∧ w.heap.size ≤ w'.heap.size ∧ Own w' lo hi 121 2 A n c (ents (mkE k n)) := by
  have hlen := ho.len
  have hel : (ents (mkE k n)).length = n * 2 := by rw [ents_length, mkE_length]
  have hhi := ho.hi_le
  refine Ret_enter Try.func39 rfl rfl rfl ?_
  repeat' (first | apply Jbq | apply Jbr | apply Jbs | apply Jbt | apply Jbu | apply Jbv | apply Jbw | apply Jbx | apply Jby | apply Jbz | apply Jca | apply Jcb | apply Jcc | (refine Jcd rfl ?_) | (refine Jce rfl ?_) | (refine Jcf rfl ?_) | (apply Jcg; (first | exact Jaa rfl | exact Jab rfl | exact Jac Us.h rfl | exact Jad rfl rfl | exact Jaf rfl rfl (by omega) | exact Jag Us.h Sz.h rfl rfl (by omega) | exact Jal rfl rfl | exact Jaq Us.h rfl | exact Jar Us.h Sz.h rfl rfl (by omega) | exact Jat rfl rfl | exact Jav Us.h rfl rfl | (apply Jbl; exact Us.h; exact rfl; exact Sz.h; exact rfl)); exact rfl) | refine Jch rfl rfl rfl ?_ | refine Jci rfl rfl rfl rfl rfl ?_ | refine Jcj rfl rfl rfl rfl ?_)
  refine TC_loop (ι := Nat) (fun i => [(0, .slice A n c), (1, I (k + 2 * (i : Int))), (5, I i)]) (fun i w' => i ≤ n ∧ Ch (fun j => Iv lo hi j) w w' ∧ Own w' lo hi 121 2 A n c (overTo (ents (mkE k n)) xs (i * 2))) (fun i => n - i) 0
    (subEnv_cons rfl (subEnv_cons (congrArg (fun z => some (I z)) (by omega)) (subEnv_cons rfl (subEnv_nil _)))) ⟨Nat.zero_le _, Ch.refl _ _, by rw [Nat.zero_mul, overTo_zero]; exact ho⟩ ?_
  intro i w2 ⟨hi2, c2, ho2⟩
  repeat' (first | apply Jbq | apply Jbr | apply Jbs | apply Jbt | apply Jbu | apply Jbv | apply Jbw | apply Jbx | apply Jby | apply Jbz | apply Jca | apply Jcb | apply Jcc | (refine Jcd rfl ?_) | (refine Jce rfl ?_) | (refine Jcf rfl ?_) | (apply Jcg; (first | exact Jaa rfl | exact Jab rfl | exact Jac Us.h rfl | exact Jad rfl rfl | exact Jaf rfl rfl (by omega) | exact Jag Us.h Sz.h rfl rfl (by omega) | exact Jal rfl rfl | exact Jaq Us.h rfl | exact Jar Us.h Sz.h rfl rfl (by omega) | exact Jat rfl rfl | exact Jav Us.h rfl rfl | (apply Jbl; exact Us.h; exact rfl; exact Sz.h; exact rfl)); exact rfl) | refine Jch rfl rfl rfl ?_ | refine Jci rfl rfl rfl rfl rfl ?_ | refine Jcj rfl rfl rfl rfl ?_)
  refine Jcx rfl (fun hlt => ?_) (fun hge => ?_)
  · have hlt : i < n := by omega
    rcases ho2.head with rfl | ⟨g, rfl, hg1, hg2⟩
    · obtain ⟨ad, h, _⟩ := ho2.rd.at_ (by omega)
      cases h
    · have hcell0 : (ents (mkE k n))[i * 2 + 0]? = some (I (k + 2 * (i : Int))) := by unfold ents; rw [cellsL_at entC_len (mkE k n) i 0 (by simpa using hlt) (by omega), mkE_get]; rfl
      have hcell1 : (ents (mkE k n))[i * 2 + 1]? = some (S (markT (k + 2 * (i : Int) + 1).toNat)) := by unfold ents; rw [cellsL_at entC_len (mkE k n) i 1 (by simpa using hlt) (by omega), mkE_get]; rfl
      rw [Nat.add_zero] at hcell0
      repeat' (first | apply Jbq | apply Jbr | apply Jbs | apply Jbt | apply Jbu | apply Jbv | apply Jbw | apply Jbx | apply Jby | apply Jbz | apply Jca | apply Jcb | apply Jcc | (refine Jcd rfl ?_) | (refine Jce rfl ?_) | (refine Jcf rfl ?_) | (apply Jcg; (first | exact Jaa rfl | exact Jab rfl | exact Jac Us.h rfl | exact Jad rfl rfl | exact Jaf rfl rfl (by omega) | exact Jag Us.h Sz.h rfl rfl (by omega) | exact Jal rfl rfl | exact Jaq Us.h rfl | exact Jar Us.h Sz.h rfl rfl (by omega) | exact Jat rfl rfl | exact Jav Us.h rfl rfl | (apply Jbl; exact Us.h; exact rfl; exact Sz.h; exact rfl)); exact rfl) | refine Jch rfl rfl rfl ?_ | refine Jci rfl rfl rfl rfl rfl ?_ | refine Jcj rfl rfl rfl rfl ?_)
      refine TL_storeOwn rfl (add_lit2 g (i * 2) 0) rfl Sz.h rfl ho2 (by omega) ?_
      intro w3 c3 hz3 ho3
      rw [Nat.add_zero, show I (k + 2 * (i : Int)) = (ents (mkE k n)).getD (i * 2) undef from by rw [List.getD_eq_getElem?_getD, hcell0]; rfl, overTo_set _ _ _ (by omega) (by omega)] at ho3
      repeat' (first | apply Jbq | apply Jbr | apply Jbs | apply Jbt | apply Jbu | apply Jbv | apply Jbw | apply Jbx | apply Jby | apply Jbz | apply Jca | apply Jcb | apply Jcc | (refine Jcd rfl ?_) | (refine Jce rfl ?_) | (refine Jcf rfl ?_) | (apply Jcg; (first | exact Jaa rfl | exact Jab rfl | exact Jac Us.h rfl | exact Jad rfl rfl | exact Jaf rfl rfl (by omega) | exact Jag Us.h Sz.h rfl rfl (by omega) | exact Jal rfl rfl | exact Jaq Us.h rfl | exact Jar Us.h Sz.h rfl rfl (by omega) | exact Jat rfl rfl | exact Jav Us.h rfl rfl | (apply Jbl; exact Us.h; exact rfl; exact Sz.h; exact rfl)); exact rfl) | refine Jch rfl rfl rfl ?_ | refine Jci rfl rfl rfl rfl rfl ?_ | refine Jcj rfl rfl rfl rfl ?_)
      obtain ⟨m, hm⟩ : ∃ m : Nat, k + 2 * (i : Int) + 1 = (m : Int) := ⟨(k + 2 * (i : Int) + 1).toNat, by omega⟩
      rw [hm]
      refine TL_call rfl en97 (markText_c m _ (by omega) (by omega)) rfl rfl ?_
      rintro _ w4 ⟨rfl, e4⟩
      repeat' (first | apply Jbq | apply Jbr | apply Jbs | apply Jbt | apply Jbu | apply Jbv | apply Jbw | apply Jbx | apply Jby | apply Jbz | apply Jca | apply Jcb | apply Jcc | (refine Jcd rfl ?_) | (refine Jce rfl ?_) | (refine Jcf rfl ?_) | (apply Jcg; (first | exact Jaa rfl | exact Jab rfl | exact Jac Us.h rfl | exact Jad rfl rfl | exact Jaf rfl rfl (by omega) | exact Jag Us.h Sz.h rfl rfl (by omega) | exact Jal rfl rfl | exact Jaq Us.h rfl | exact Jar Us.h Sz.h rfl rfl (by omega) | exact Jat rfl rfl | exact Jav Us.h rfl rfl | (apply Jbl; exact Us.h; exact rfl; exact Sz.h; exact rfl)); exact rfl) | refine Jch rfl rfl rfl ?_ | refine Jci rfl rfl rfl rfl rfl ?_ | refine Jcj rfl rfl rfl rfl ?_)
      refine TL_storeOwn rfl (add_lit2 g (i * 2) 1) rfl Sz.h rfl (ho3.ext e4) (by omega) ?_
      intro w5 c5 hz5 ho5
      rw [show S (markT m) = (ents (mkE k n)).getD (i * 2 + 1) undef from by rw [List.getD_eq_getElem?_getD, hcell1, hm]; rfl, overTo_set _ _ _ (by omega) (by omega)] at ho5
      have c3' : Ch (fun j => Iv lo hi j) w2 w3 := c3.mono (fun j hj => by simp only [Iv] at *; omega)
      have c5' : Ch (fun j => Iv lo hi j) w4 w5 := c5.mono (fun j hj => by simp only [Iv] at *; omega)
      have e4' : Ch (fun j => Iv lo hi j) w3 w4 := e4.mono (fun j hj => by cases hj)
      repeat' (first | apply Jbq | apply Jbr | apply Jbs | apply Jbt | apply Jbu | apply Jbv | apply Jbw | apply Jbx | apply Jby | apply Jbz | apply Jca | apply Jcb | apply Jcc | (refine Jcd rfl ?_) | (refine Jce rfl ?_) | (refine Jcf rfl ?_) | (apply Jcg; (first | exact Jaa rfl | exact Jab rfl | exact Jac Us.h rfl | exact Jad rfl rfl | exact Jaf rfl rfl (by omega) | exact Jag Us.h Sz.h rfl rfl (by omega) | exact Jal rfl rfl | exact Jaq Us.h rfl | exact Jar Us.h Sz.h rfl rfl (by omega) | exact Jat rfl rfl | exact Jav Us.h rfl rfl | (apply Jbl; exact Us.h; exact rfl; exact Sz.h; exact rfl)); exact rfl) | refine Jch rfl rfl rfl ?_ | refine Jci rfl rfl rfl rfl rfl ?_ | refine Jcj rfl rfl rfl rfl ?_)
      exact TN_round (i + 1) (subEnv_cons rfl (subEnv_cons (congrArg (fun z => some (I z)) (by omega)) (subEnv_cons rfl (subEnv_nil _)))) ⟨hlt, ((c2.then c3').then e4').then c5', by rw [Nat.succ_mul]; exact ho5⟩ (by omega)
  · obtain rfl : i = n := by omega
    rw [show i * 2 = xs.length from hlen.symm, overTo_all _ _ (by omega)] at ho2
    repeat' (first | apply Jbq | apply Jbr | apply Jbs | apply Jbt | apply Jbu | apply Jbv | apply Jbw | apply Jbx | apply Jby | apply Jbz | apply Jca | apply Jcb | apply Jcc | (refine Jcd rfl ?_) | (refine Jce rfl ?_) | (refine Jcf rfl ?_) | (apply Jcg; (first | exact Jaa rfl | exact Jab rfl | exact Jac Us.h rfl | exact Jad rfl rfl | exact Jaf rfl rfl (by omega) | exact Jag Us.h Sz.h rfl rfl (by omega) | exact Jal rfl rfl | exact Jaq Us.h rfl | exact Jar Us.h Sz.h rfl rfl (by omega) | exact Jat rfl rfl | exact Jav Us.h rfl rfl | (apply Jbl; exact Us.h; exact rfl; exact Sz.h; exact rfl)); exact rfl) | refine Jch rfl rfl rfl ?_ | refine Jci rfl rfl rfl rfl rfl ?_ | refine Jcj rfl rfl rfl rfl ?_)
    exact TR_of (res1 rfl rfl) ⟨rfl, c2, c2.size, ho2⟩
set_option maxHeartbeats 1000000 in
theorem heldEntryS_c {lo hi n c : Nat} {A : Option Addr} {k : Int} {w : World} (hr : Rd w lo hi 2 A n (ents (mkE k n))) (hl : n ≤ 1099511627776) (hk0 : 0 ≤ k) (hk1 : k ≤ 1099511627776) :
    Ret Try.prog 40 #[.slice A n c, I k] w fun v w' => v = I (k + 2 * n) ∧ Ext w w' := by
  refine Ret_enter Try.func40 rfl rfl rfl ?_
  repeat' (first | apply Jbq | apply Jbr | apply Jbs | apply Jbt | apply Jbu | apply Jbv | apply Jbw | apply Jbx | apply Jby | apply Jbz | apply Jca | apply Jcb | apply Jcc | (refine Jcd rfl ?_) | (refine Jce rfl ?_) | (refine Jcf rfl ?_) | (apply Jcg; (first | exact Jaa rfl | exact Jab rfl | exact Jac Us.h rfl | exact Jad rfl rfl | exact Jaf rfl rfl (by omega) | exact Jag Us.h Sz.h rfl rfl (by omega) | exact Jal rfl rfl | exact Jaq Us.h rfl | exact Jar Us.h Sz.h rfl rfl (by omega) | exact Jat rfl rfl | exact Jav Us.h rfl rfl | (apply Jbl; exact Us.h; exact rfl; exact Sz.h; exact rfl)); exact rfl) | refine Jch rfl rfl rfl ?_ | refine Jci rfl rfl rfl rfl rfl ?_ | refine Jcj rfl rfl rfl rfl ?_)
  refine TC_loop (ι := Nat) (fun i => [(0, .slice A n c), (1, I (k + 2 * (i : Int))), (5, I i)]) (fun i w' => i ≤ n ∧ Ext w w') (fun i => n - i) 0
    (subEnv_cons rfl (subEnv_cons (congrArg (fun z => some (I z)) (by omega)) (subEnv_cons rfl (subEnv_nil _)))) ⟨Nat.zero_le _, Ch.refl _ _⟩ ?_
  intro i w2 ⟨hi2, e2⟩
  repeat' (first | apply Jbq | apply Jbr | apply Jbs | apply Jbt | apply Jbu | apply Jbv | apply Jbw | apply Jbx | apply Jby | apply Jbz | apply Jca | apply Jcb | apply Jcc | (refine Jcd rfl ?_) | (refine Jce rfl ?_) | (refine Jcf rfl ?_) | (apply Jcg; (first | exact Jaa rfl | exact Jab rfl | exact Jac Us.h rfl | exact Jad rfl rfl | exact Jaf rfl rfl (by omega) | exact Jag Us.h Sz.h rfl rfl (by omega) | exact Jal rfl rfl | exact Jaq Us.h rfl | exact Jar Us.h Sz.h rfl rfl (by omega) | exact Jat rfl rfl | exact Jav Us.h rfl rfl | (apply Jbl; exact Us.h; exact rfl; exact Sz.h; exact rfl)); exact rfl) | refine Jch rfl rfl rfl ?_ | refine Jci rfl rfl rfl rfl rfl ?_ | refine Jcj rfl rfl rfl rfl ?_)
  refine Jcx rfl (fun hlt => ?_) (fun hge => ?_)
  · have hlt : i < n := by omega
    have hr' : Rd w2 lo hi 2 A (mkE k n).length (ents (mkE k n)) := by rw [mkE_length]; exact hr.ext e2
    obtain ⟨ad, rfl, hc⟩ := Rd.elem entC_len hr' (k := i) (by simpa using hlt)
    rw [mkE_get] at hc
    have h0 := hc 0 _ rfl
    have h1 := hc 1 _ rfl
    obtain ⟨m, hm⟩ : ∃ m : Nat, k + 2 * (i : Int) + 1 = (m : Int) := ⟨(k + 2 * (i : Int) + 1).toNat, by omega⟩
    rw [hm, Int.toNat_natCast] at h1
    repeat' (first | apply Jbq | apply Jbr | apply Jbs | apply Jbt | apply Jbu | apply Jbv | apply Jbw | apply Jbx | apply Jby | apply Jbz | apply Jca | apply Jcb | apply Jcc | (refine Jcd rfl ?_) | (refine Jce rfl ?_) | (refine Jcf rfl ?_) | (apply Jcg; (first | exact Jaa rfl | exact Jab rfl | exact Jac Us.h rfl | exact Jad rfl rfl | exact Jaf rfl rfl (by omega) | exact Jag Us.h Sz.h rfl rfl (by omega) | exact Jal rfl rfl | exact Jaq Us.h rfl | exact Jar Us.h Sz.h rfl rfl (by omega) | exact Jat rfl rfl | exact Jav Us.h rfl rfl | (apply Jbl; exact Us.h; exact rfl; exact Sz.h; exact rfl)); exact rfl) | refine Jch rfl rfl rfl ?_ | refine Jci rfl rfl rfl rfl rfl ?_ | refine Jcj rfl rfl rfl rfl ?_ | refine Jcg (Pu_load Fl.h rfl (fun _ e => by rw [e]; exact h0)) rfl ?_)
    refine Jcf (by rw [show (!decide (k + 2 * (i : Int) = k + 2 * (i : Int))) = false from by simp]; rfl) ?_
    repeat' (first | apply Jbq | apply Jbr | apply Jbs | apply Jbt | apply Jbu | apply Jbv | apply Jbw | apply Jbx | apply Jby | apply Jbz | apply Jca | apply Jcb | apply Jcc | (refine Jcd rfl ?_) | (refine Jce rfl ?_) | (refine Jcf rfl ?_) | (apply Jcg; (first | exact Jaa rfl | exact Jab rfl | exact Jac Us.h rfl | exact Jad rfl rfl | exact Jaf rfl rfl (by omega) | exact Jag Us.h Sz.h rfl rfl (by omega) | exact Jal rfl rfl | exact Jaq Us.h rfl | exact Jar Us.h Sz.h rfl rfl (by omega) | exact Jat rfl rfl | exact Jav Us.h rfl rfl | (apply Jbl; exact Us.h; exact rfl; exact Sz.h; exact rfl)); exact rfl) | refine Jch rfl rfl rfl ?_ | refine Jci rfl rfl rfl rfl rfl ?_ | refine Jcj rfl rfl rfl rfl ?_)
    rw [hm]
    refine TC_any mixed rfl ?_
    intro w3 hE hz3
    (refine Jco 0 rfl (by kernel_rfl) (by kernel_rfl) (by kernel_rfl) (fun _ _ _ h => h) hE (by (first | exact Pu_load Fl.h rfl (fun _ e => Ext.cell e h1) | (first | exact Jaa rfl | exact Jab rfl | exact Jac Us.h rfl | exact Jad rfl rfl | exact Jaf rfl rfl (by omega) | exact Jag Us.h Sz.h rfl rfl (by omega) | exact Jal rfl rfl | exact Jaq Us.h rfl | exact Jar Us.h Sz.h rfl rfl (by omega) | exact Jat rfl rfl | exact Jav Us.h rfl rfl | (apply Jbl; exact Us.h; exact rfl; exact Sz.h; exact rfl)))) rfl ?_; refine Jco 1 rfl (by kernel_rfl) (by kernel_rfl) (by kernel_rfl) (fun _ _ _ h => h) hE (by (first | exact Pu_load Fl.h rfl (fun _ e => Ext.cell e h1) | (first | exact Jaa rfl | exact Jab rfl | exact Jac Us.h rfl | exact Jad rfl rfl | exact Jaf rfl rfl (by omega) | exact Jag Us.h Sz.h rfl rfl (by omega) | exact Jal rfl rfl | exact Jaq Us.h rfl | exact Jar Us.h Sz.h rfl rfl (by omega) | exact Jat rfl rfl | exact Jav Us.h rfl rfl | (apply Jbl; exact Us.h; exact rfl; exact Sz.h; exact rfl)))) rfl ?_; refine Jco 2 rfl (by kernel_rfl) (by kernel_rfl) (by kernel_rfl) (fun _ _ _ h => h) hE (by (first | exact Pu_load Fl.h rfl (fun _ e => Ext.cell e h1) | (first | exact Jaa rfl | exact Jab rfl | exact Jac Us.h rfl | exact Jad rfl rfl | exact Jaf rfl rfl (by omega) | exact Jag Us.h Sz.h rfl rfl (by omega) | exact Jal rfl rfl | exact Jaq Us.h rfl | exact Jar Us.h Sz.h rfl rfl (by omega) | exact Jat rfl rfl | exact Jav Us.h rfl rfl | (apply Jbl; exact Us.h; exact rfl; exact Sz.h; exact rfl)))) rfl ?_; refine Jco 3 rfl (by kernel_rfl) (by kernel_rfl) (by kernel_rfl) (fun _ _ _ h => h) hE (by (first | exact Pu_load Fl.h rfl (fun _ e => Ext.cell e h1) | (first | exact Jaa rfl | exact Jab rfl | exact Jac Us.h rfl | exact Jad rfl rfl | exact Jaf rfl rfl (by omega) | exact Jag Us.h Sz.h rfl rfl (by omega) | exact Jal rfl rfl | exact Jaq Us.h rfl | exact Jar Us.h Sz.h rfl rfl (by omega) | exact Jat rfl rfl | exact Jav Us.h rfl rfl | (apply Jbl; exact Us.h; exact rfl; exact Sz.h; exact rfl)))) rfl ?_; refine Jco 4 rfl (by kernel_rfl) (by kernel_rfl) (by kernel_rfl) (fun _ _ _ h => h) hE (by (first | exact Pu_load Fl.h rfl (fun _ e => Ext.cell e h1) | (first | exact Jaa rfl | exact Jab rfl | exact Jac Us.h rfl | exact Jad rfl rfl | exact Jaf rfl rfl (by omega) | exact Jag Us.h Sz.h rfl rfl (by omega) | exact Jal rfl rfl | exact Jaq Us.h rfl | exact Jar Us.h Sz.h rfl rfl (by omega) | exact Jat rfl rfl | exact Jav Us.h rfl rfl | (apply Jbl; exact Us.h; exact rfl; exact Sz.h; exact rfl)))) rfl ?_; refine Jco 5 rfl (by kernel_rfl) (by kernel_rfl) (by kernel_rfl) (fun _ _ _ h => h) hE (by (first | exact Pu_load Fl.h rfl (fun _ e => Ext.cell e h1) | (first | exact Jaa rfl | exact Jab rfl | exact Jac Us.h rfl | exact Jad rfl rfl | exact Jaf rfl rfl (by omega) | exact Jag Us.h Sz.h rfl rfl (by omega) | exact Jal rfl rfl | exact Jaq Us.h rfl | exact Jar Us.h Sz.h rfl rfl (by omega) | exact Jat rfl rfl | exact Jav Us.h rfl rfl | (apply Jbl; exact Us.h; exact rfl; exact Sz.h; exact rfl)))) rfl ?_)
    refine TA_one 6 (by kernel_rfl) rfl ?_
    refine TL_call rfl en97 (markText_c m _ (by omega) (by omega)) rfl rfl ?_
    rintro _ w4 ⟨rfl, e4⟩
    replace hE := hE.ext e4
    refine Jbq (TN_any hE ?_)
    refine Jco 7 rfl (by kernel_rfl) (by kernel_rfl) (by kernel_rfl) (fun _ _ _ h => h) hE (Jbo rfl rfl) rfl ?_
    refine TA_done (by kernel_rfl) ?_
    repeat' (first | apply Jbq | apply Jbr | apply Jbs | apply Jbt | apply Jbu | apply Jbv | apply Jbw | apply Jbx | apply Jby | apply Jbz | apply Jca | apply Jcb | apply Jcc | (refine Jcd rfl ?_) | (refine Jce rfl ?_) | (refine Jcf rfl ?_) | (apply Jcg; (first | exact Jaa rfl | exact Jab rfl | exact Jac Us.h rfl | exact Jad rfl rfl | exact Jaf rfl rfl (by omega) | exact Jag Us.h Sz.h rfl rfl (by omega) | exact Jal rfl rfl | exact Jaq Us.h rfl | exact Jar Us.h Sz.h rfl rfl (by omega) | exact Jat rfl rfl | exact Jav Us.h rfl rfl | (apply Jbl; exact Us.h; exact rfl; exact Sz.h; exact rfl)); exact rfl) | refine Jch rfl rfl rfl ?_ | refine Jci rfl rfl rfl rfl rfl ?_ | refine Jcj rfl rfl rfl rfl ?_)
    exact TN_round (i + 1) (subEnv_cons rfl (subEnv_cons (congrArg (fun z => some (I z)) (by omega)) (subEnv_cons rfl (subEnv_nil _)))) ⟨hlt, e2.ext hE⟩ (by omega)
  · obtain rfl : i = n := by omega
    repeat' (first | apply Jbq | apply Jbr | apply Jbs | apply Jbt | apply Jbu | apply Jbv | apply Jbw | apply Jbx | apply Jby | apply Jbz | apply Jca | apply Jcb | apply Jcc | (refine Jcd rfl ?_) | (refine Jce rfl ?_) | (refine Jcf rfl ?_) | (apply Jcg; (first | exact Jaa rfl | exact Jab rfl | exact Jac Us.h rfl | exact Jad rfl rfl | exact Jaf rfl rfl (by omega) | exact Jag Us.h Sz.h rfl rfl (by omega) | exact Jal rfl rfl | exact Jaq Us.h rfl | exact Jar Us.h Sz.h rfl rfl (by omega) | exact Jat rfl rfl | exact Jav Us.h rfl rfl | (apply Jbl; exact Us.h; exact rfl; exact Sz.h; exact rfl)); exact rfl) | refine Jch rfl rfl rfl ?_ | refine Jci rfl rfl rfl rfl rfl ?_ | refine Jcj rfl rfl rfl rfl ?_)
    exact TR_of (res1 rfl rfl) ⟨rfl, e2⟩
end Go.Proofs.Ytmkmphdfpghjbaa
