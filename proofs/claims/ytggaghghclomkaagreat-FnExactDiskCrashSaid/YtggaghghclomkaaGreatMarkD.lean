/- Contracts of the laws' own helpers on links, turns and nodes that a call owns: marks. -/
import Derived.Test.YtggaghghclomkaaGreatRowK
import Derived.Test.YtggaghghclomkaaGreatMarkT
namespace Go.Proofs.YtggaghghclomkaaGreat
open Go.RowKit
attribute [local irreducible] TL TC TN TX TR TQ TA Pu Ret
theorem add_lit3 (g a b : Nat) : ((⟨g, 0, none⟩ : Addr).add a).add b = ⟨g, a + b, none⟩ := by rw [add_of_add, add0]
def mkK (k : Int) (n : Nat) : List LkD := (List.range n).map fun (i : Nat) => ⟨markT (k + 2 * (i : Int)).toNat, k + 2 * (i : Int) + 1⟩
@[simp] theorem mkK_length (k : Int) (n : Nat) : (mkK k n).length = n := by simp [mkK]
theorem mkK_get (k : Int) (n i : Nat) (h : i < (mkK k n).length) : (mkK k n)[i] = ⟨markT (k + 2 * (i : Int)).toNat, k + 2 * (i : Int) + 1⟩ := by simp [mkK]
def mkTu (k : Int) (n : Nat) : List TnD := (List.range n).map fun (i : Nat) => ⟨k + 4 * (i : Int), markT (k + 4 * (i : Int) + 1).toNat, markT (k + 4 * (i : Int) + 2).toNat, k + 4 * (i : Int) + 3⟩
@[simp] theorem mkTu_length (k : Int) (n : Nat) : (mkTu k n).length = n := by simp [mkTu]
theorem mkTu_get (k : Int) (n i : Nat) (h : i < (mkTu k n).length) : (mkTu k n)[i] = ⟨k + 4 * (i : Int), markT (k + 4 * (i : Int) + 1).toNat, markT (k + 4 * (i : Int) + 2).toNat, k + 4 * (i : Int) + 3⟩ := by simp [mkTu]
theorem nat_of {x : Int} (h : 0 ≤ x) : ∃ m : Nat, x = (m : Int) := ⟨x.toNat, by omega⟩
set_option maxHeartbeats 1000000 in
theorem markLinkS_c {lo hi n c : Nat} {A : Option Addr} {xs : List Value} {k : Int} {w : World} (ho : Own w lo hi 162 2 A n c xs) (hl : n ≤ 1099511627776) (hk0 : 0 < k) (hk1 : k ≤ 1099511627776) :
    Ret Tryz.prog 76 #[.slice A n c, I k] w fun v w' => v = I (k + 2 * n) ∧ Ch (fun j => Iv lo hi j) w w' ∧ w.heap.size ≤ w'.heap.size ∧ Own w' lo hi 162 2 A n c (cellsL LkC (mkK k n)) := by
  have hlen := ho.len
  have hel : (cellsL LkC (mkK k n)).length = n * 2 := by rw [cellsL_length LkC_len, mkK_length]
  have hhi := ho.hi_le
  refine Ret_enter Tryz.func76 rfl rfl rfl ?_
  repeat' (first | apply Jbq | apply Jbr | apply Jbs | apply Jbt | apply Jby | (apply Jcg; exact Jab rfl; exact rfl))
  refine TC_loop (ι := Nat) (fun i => [(0, .slice A n c), (1, I (k + 2 * (i : Int))), (5, I i)]) (fun i w' => i ≤ n ∧ Ch (fun j => Iv lo hi j) w w' ∧ Own w' lo hi 162 2 A n c (overTo (cellsL LkC (mkK k n)) xs (i * 2))) (fun i => n - i) 0
    (subEnv_cons rfl (subEnv_cons (congrArg (fun z => some (I z)) (by omega)) (subEnv_cons rfl (subEnv_nil _)))) ⟨Nat.zero_le _, Ch.refl _ _, by rw [Nat.zero_mul, overTo_zero]; exact ho⟩ ?_
  intro i w2 ⟨hi2, c2, ho2⟩
  repeat' (first | apply Jbq | apply Jbr | apply Jbs | apply Jbt | (apply Jcg; (first | exact Jaa rfl | exact Jac Us.h rfl | exact Jad rfl rfl); exact rfl))
  refine Jcx rfl (fun hlt => ?_) (fun hge => ?_)
  · have hlt : i < n := by omega
    rcases ho2.head with rfl | ⟨g, rfl, hg1, hg2⟩
    · obtain ⟨ad, h, _⟩ := ho2.rd.at_ (by omega)
      cases h
    · have hcell0 : (cellsL LkC (mkK k n))[i * 2 + 0]? = some (S (markT (k + 2 * (i : Int)).toNat)) := by rw [cellsL_at LkC_len (mkK k n) i 0 (by simpa using hlt) (by omega), mkK_get]; rfl
      have hcell1 : (cellsL LkC (mkK k n))[i * 2 + 1]? = some (I (k + 2 * (i : Int) + 1)) := by rw [cellsL_at LkC_len (mkK k n) i 1 (by simpa using hlt) (by omega), mkK_get]; rfl
      rw [Nat.add_zero] at hcell0
      obtain ⟨m, hm⟩ := nat_of (x := k + 2 * (i : Int)) (by omega)
      repeat' (first | apply Jbr | apply Jbs | apply Jbt | apply Jby | apply Jbz | (apply Jcg; exact Jaa rfl; exact rfl))
      rw [hm]
      refine TL_call rfl en98 (markText_c m _ (by omega) (by omega)) rfl rfl ?_
      rintro _ w4 ⟨rfl, e4⟩
      repeat' ((apply Jcg; (first | exact Jar Us.h Sz.h rfl rfl (by omega) | (apply Jbl; exact Us.h; exact rfl; exact Sz.h; exact rfl)); exact rfl))
      refine TL_storeOwn rfl (add_lit3 g (i * 2) 0) rfl Sz.h rfl (ho2.ext e4) (by omega) ?_
      intro w3 c3 hz3 ho3
      rw [Nat.add_zero, show S (markT m) = (cellsL LkC (mkK k n)).getD (i * 2) undef from by rw [List.getD_eq_getElem?_getD, hcell0, hm]; rfl, overTo_set _ _ _ (by omega) (by omega)] at ho3
      repeat' (first | apply Jbq | apply Jbr | apply Jbs | apply Jbt | (apply Jcg; (first | exact Jaa rfl | exact Jab rfl | exact Jaf rfl rfl (by omega) | exact Jar Us.h Sz.h rfl rfl (by omega) | (apply Jbl; exact Us.h; exact rfl; exact Sz.h; exact rfl)); exact rfl))
      refine TL_storeOwn rfl (add_lit3 g (i * 2) 1) rfl Sz.h rfl ho3 (by omega) ?_
      intro w5 c5 hz5 ho5
      rw [show I ((m : Int) + 1) = (cellsL LkC (mkK k n)).getD (i * 2 + 1) undef from by rw [List.getD_eq_getElem?_getD, hcell1, hm]; rfl, overTo_set _ _ _ (by omega) (by omega)] at ho5
      have c3' : Ch (fun j => Iv lo hi j) w4 w3 := c3.mono (fun j hj => by simp only [Iv] at *; omega)
      have c5' : Ch (fun j => Iv lo hi j) w3 w5 := c5.mono (fun j hj => by simp only [Iv] at *; omega)
      have e4' : Ch (fun j => Iv lo hi j) w2 w4 := e4.mono (fun j hj => by cases hj)
      repeat' (first | apply Jbq | apply Jbr | apply Jbt | apply Jbx | (apply Jcg; (first | exact Jaa rfl | exact Jab rfl | exact Jaf rfl rfl (by omega)); exact rfl))
      exact TN_round (i + 1) (subEnv_cons rfl (subEnv_cons (congrArg (fun z => some (I z)) (by omega)) (subEnv_cons rfl (subEnv_nil _)))) ⟨hlt, ((c2.then e4').then c3').then c5', by rw [Nat.succ_mul]; exact ho5⟩ (by omega)
  · obtain rfl : i = n := by omega
    rw [show i * 2 = xs.length from hlen.symm, overTo_all _ _ (by omega)] at ho2
    repeat' (first | apply Jbq | apply Jbr | apply Jbs | apply Jbt | apply Jbu | apply Jca | apply Jcb | apply Jcc | (apply Jcg; (first | exact Jaa rfl | exact Jab rfl); exact rfl))
    exact TR_of (res1 rfl rfl) ⟨rfl, c2, c2.size, ho2⟩
set_option maxHeartbeats 1000000 in
theorem heldLinkS_c {lo hi n c : Nat} {A : Option Addr} {k : Int} {w : World} (hr : Rd w lo hi 2 A n (cellsL LkC (mkK k n))) (hl : n ≤ 1099511627776) (hk0 : 0 < k) (hk1 : k ≤ 1099511627776) :
    Ret Tryz.prog 79 #[.slice A n c, I k] w fun v w' => v = I (k + 2 * n) ∧ Ext w w' := by
  refine Ret_enter Tryz.func79 rfl rfl rfl ?_
  repeat' (first | apply Jbq | apply Jbr | apply Jbs | apply Jbt | apply Jby | (apply Jcg; exact Jab rfl; exact rfl))
  refine TC_loop (ι := Nat) (fun i => [(0, .slice A n c), (1, I (k + 2 * (i : Int))), (5, I i)]) (fun i w' => i ≤ n ∧ Ext w w') (fun i => n - i) 0
    (subEnv_cons rfl (subEnv_cons (congrArg (fun z => some (I z)) (by omega)) (subEnv_cons rfl (subEnv_nil _)))) ⟨Nat.zero_le _, Ch.refl _ _⟩ ?_
  intro i w2 ⟨hi2, e2⟩
  repeat' (first | apply Jbq | apply Jbr | apply Jbs | apply Jbt | (apply Jcg; (first | exact Jaa rfl | exact Jac Us.h rfl | exact Jad rfl rfl); exact rfl))
  refine Jcx rfl (fun hlt => ?_) (fun hge => ?_)
  · have hlt : i < n := by omega
    have hr' : Rd w2 lo hi 2 A (mkK k n).length (cellsL LkC (mkK k n)) := by rw [mkK_length]; exact hr.ext e2
    obtain ⟨ad, rfl, hc⟩ := Rd.elem LkC_len hr' (k := i) (by simpa using hlt)
    rw [mkK_get] at hc
    have h0 := hc 0 _ rfl
    have h1 := hc 1 _ rfl
    obtain ⟨m, hm⟩ := nat_of (x := k + 2 * (i : Int)) (by omega)
    rw [hm, Int.toNat_natCast] at h0
    repeat' (first | apply Jbr | apply Jbs | apply Jby | apply Jbz)
    rw [hm]
    rw [hm] at h1
    refine TC_any mixed rfl ?_
    intro w3 hE hz3
    (refine Jco 0 rfl (by kernel_rfl) (by kernel_rfl) (by kernel_rfl) (fun _ _ _ h => h) hE (by exact Jaa rfl) rfl ?_; refine Jco 1 rfl (by kernel_rfl) (by kernel_rfl) (by kernel_rfl) (fun _ _ _ h => h) hE (by exact Jaa rfl) rfl ?_; refine Jco 2 rfl (by kernel_rfl) (by kernel_rfl) (by kernel_rfl) (fun _ _ _ h => h) hE (by exact Jar Us.h Sz.h rfl rfl (by omega)) rfl ?_; refine Jco 3 rfl (by kernel_rfl) (by kernel_rfl) (by kernel_rfl) (fun _ _ _ h => h) hE (by (apply Jbl; exact Us.h; exact rfl; exact Sz.h; exact rfl)) rfl ?_; refine Jco 4 rfl (by kernel_rfl) (by kernel_rfl) (by kernel_rfl) (fun _ _ _ h => h) hE (by exact Pu_load Fl.h rfl (fun _ e => Ext.cell e h0)) rfl ?_; refine Jco 5 rfl (by kernel_rfl) (by kernel_rfl) (by kernel_rfl) (fun _ _ _ h => h) hE (by exact Jaa rfl) rfl ?_)
    refine TA_one 6 (by kernel_rfl) rfl ?_
    refine TL_call rfl en98 (markText_c m _ (by omega) (by omega)) rfl rfl ?_
    rintro _ w4 ⟨rfl, e4⟩
    replace hE := hE.ext e4
    refine Jbq (TN_any hE ?_)
    refine Jco 7 rfl (by kernel_rfl) (by kernel_rfl) (by kernel_rfl) (fun _ _ _ h => h) hE (Jbo rfl rfl) rfl ?_
    refine TA_done (by kernel_rfl) ?_
    have h1' : w4.cell? ((ad.add (i * 2)).add 1) = some (I ((m : Int) + 1)) := Ext.cell hE h1
    repeat' (first | apply Jbq | apply Jbr | apply Jbs | apply Jbt | apply Jbz | (refine Jcf rfl ?_) | (apply Jcg; (first | exact Jaa rfl | exact Jab rfl | exact Jaf rfl rfl (by omega) | exact Jal rfl rfl | exact Jar Us.h Sz.h rfl rfl (by omega) | (apply Jbl; exact Us.h; exact rfl; exact Sz.h; exact rfl)); exact rfl) | refine Jcg (Pu_load Fl.h rfl (fun _ e => by rw [e]; exact h1')) rfl ?_)
    refine Jcf (by rw [show (!decide ((m : Int) + 1 = (m : Int) + 1)) = false from by simp]; rfl) ?_
    repeat' (first | apply Jbq | apply Jbr | apply Jbt | apply Jbx | apply Jbz | (apply Jcg; (first | exact Jaa rfl | exact Jab rfl | exact Jaf rfl rfl (by omega)); exact rfl))
    exact TN_round (i + 1) (subEnv_cons rfl (subEnv_cons (congrArg (fun z => some (I z)) (by omega)) (subEnv_cons rfl (subEnv_nil _)))) ⟨hlt, e2.ext hE⟩ (by omega)
  · obtain rfl : i = n := by omega
    repeat' (first | apply Jbq | apply Jbr | apply Jbs | apply Jbt | apply Jbu | apply Jca | apply Jcb | apply Jcc | (apply Jcg; (first | exact Jaa rfl | exact Jab rfl); exact rfl))
    exact TR_of (res1 rfl rfl) ⟨rfl, e2⟩
set_option maxHeartbeats 2000000 in
theorem markTurnS_c {lo hi n c : Nat} {A : Option Addr} {xs : List Value} {k : Int} {w : World} (ho : Own w lo hi 121 4 A n c xs) (hl : n ≤ 1099511627776) (hk0 : 0 < k) (hk1 : k ≤ 1099511627776) :
    Ret Tryz.prog 77 #[.slice A n c, I k] w fun v w' => v = I (k + 4 * n) ∧ Ch (fun j => Iv lo hi j) w w' ∧ w.heap.size ≤ w'.heap.size ∧ Own w' lo hi 121 4 A n c (cellsL TnC (mkTu k n)) := by
  have hlen := ho.len
  have hel : (cellsL TnC (mkTu k n)).length = n * 4 := by rw [cellsL_length TnC_len, mkTu_length]
  have hhi := ho.hi_le
  refine Ret_enter Tryz.func77 rfl rfl rfl ?_
  repeat' (first | apply Jbq | apply Jbr | apply Jbs | apply Jbt | apply Jby | (apply Jcg; exact Jab rfl; exact rfl))
  refine TC_loop (ι := Nat) (fun i => [(0, .slice A n c), (1, I (k + 4 * (i : Int))), (5, I i)]) (fun i w' => i ≤ n ∧ Ch (fun j => Iv lo hi j) w w' ∧ Own w' lo hi 121 4 A n c (overTo (cellsL TnC (mkTu k n)) xs (i * 4))) (fun i => n - i) 0
    (subEnv_cons rfl (subEnv_cons (congrArg (fun z => some (I z)) (by omega)) (subEnv_cons rfl (subEnv_nil _)))) ⟨Nat.zero_le _, Ch.refl _ _, by rw [Nat.zero_mul, overTo_zero]; exact ho⟩ ?_
  intro i w2 ⟨hi2, c2, ho2⟩
  repeat' (first | apply Jbq | apply Jbr | apply Jbs | apply Jbt | (apply Jcg; (first | exact Jaa rfl | exact Jac Us.h rfl | exact Jad rfl rfl); exact rfl))
  refine Jcx rfl (fun hlt => ?_) (fun hge => ?_)
  · have hlt : i < n := by omega
    rcases ho2.head with rfl | ⟨g, rfl, hg1, hg2⟩
    · obtain ⟨ad, h, _⟩ := ho2.rd.at_ (by omega)
      cases h
    · have hcell : ∀ j u, j < 4 → (TnC ⟨k + 4 * (i : Int), markT (k + 4 * (i : Int) + 1).toNat, markT (k + 4 * (i : Int) + 2).toNat, k + 4 * (i : Int) + 3⟩)[j]? = some u → (cellsL TnC (mkTu k n)).getD (i * 4 + j) undef = u := fun j u hj hu => by
        rw [List.getD_eq_getElem?_getD, cellsL_at TnC_len (mkTu k n) i j (by simpa using hlt) hj, mkTu_get, hu]; rfl
      obtain ⟨m, hm⟩ := nat_of (x := k + 4 * (i : Int)) (by omega)
      rw [hm, show ((m : Int) + 1).toNat = m + 1 by omega, show ((m : Int) + 2).toNat = m + 2 by omega] at hcell
      repeat' (first | apply Jbr | apply Jbs | apply Jbt | apply Jby | apply Jbz | (apply Jcg; (first | exact Jaa rfl | exact Jar Us.h Sz.h rfl rfl (by omega) | (apply Jbl; exact Us.h; exact rfl; exact Sz.h; exact rfl)); exact rfl))
      rw [hm]
      refine TL_storeOwn rfl (add_lit3 g (i * 4) 0) rfl Sz.h rfl ho2 (by omega) ?_
      intro w3 c3 hz3 ho3
      have hc0 := hcell 0 _ (by omega) rfl
      rw [Nat.add_zero] at hc0 ho3
      rw [← hc0, overTo_set _ _ _ (by omega) (by omega)] at ho3
      repeat' (first | apply Jbq | apply Jbr | apply Jbs | apply Jbt | (apply Jcg; (first | exact Jaa rfl | exact Jab rfl | exact Jaf rfl rfl (by omega)); exact rfl))
      refine TL_call rfl en98 (markText_c (m + 1) _ (by omega) (by omega)) rfl rfl ?_
      rintro _ w4 ⟨rfl, e4⟩
      repeat' ((apply Jcg; (first | exact Jar Us.h Sz.h rfl rfl (by omega) | (apply Jbl; exact Us.h; exact rfl; exact Sz.h; exact rfl)); exact rfl))
      refine TL_storeOwn rfl (add_lit3 g (i * 4) 1) rfl Sz.h rfl (ho3.ext e4) (by omega) ?_
      intro w5 c5 hz5 ho5
      rw [← hcell 1 _ (by omega) rfl, overTo_set _ _ _ (by omega) (by omega)] at ho5
      repeat' (first | apply Jbq | apply Jbr | apply Jbs | apply Jbt | (apply Jcg; (first | exact Jaa rfl | exact Jab rfl | exact Jaf rfl rfl (by omega)); exact rfl))
      refine TL_call rfl en98 (markText_c (m + 2) _ (by omega) (by omega)) rfl rfl ?_
      rintro _ w6 ⟨rfl, e6⟩
      repeat' ((apply Jcg; (first | exact Jar Us.h Sz.h rfl rfl (by omega) | (apply Jbl; exact Us.h; exact rfl; exact Sz.h; exact rfl)); exact rfl))
      refine TL_storeOwn rfl (add_lit3 g (i * 4) 2) rfl Sz.h rfl (ho5.ext e6) (by omega) ?_
      intro w7 c7 hz7 ho7
      rw [← hcell 2 _ (by omega) rfl, overTo_set _ _ _ (by omega) (by omega)] at ho7
      repeat' (first | apply Jbq | apply Jbr | apply Jbs | apply Jbt | (apply Jcg; (first | exact Jaa rfl | exact Jab rfl | exact Jaf rfl rfl (by omega) | exact Jar Us.h Sz.h rfl rfl (by omega) | (apply Jbl; exact Us.h; exact rfl; exact Sz.h; exact rfl)); exact rfl))
      refine TL_storeOwn rfl (add_lit3 g (i * 4) 3) rfl Sz.h rfl ho7 (by omega) ?_
      intro w8 c8 hz8 ho8
      rw [show I ((m : Int) + 1 + 1 + 1) = I ((m : Int) + 3) from congrArg I (by omega), ← hcell 3 _ (by omega) rfl, overTo_set _ _ _ (by omega) (by omega)] at ho8
      have c3' : Ch (fun j => Iv lo hi j) w2 w3 := c3.mono (fun j hj => by simp only [Iv] at *; omega)
      have c5' : Ch (fun j => Iv lo hi j) w4 w5 := c5.mono (fun j hj => by simp only [Iv] at *; omega)
      have c7' : Ch (fun j => Iv lo hi j) w6 w7 := c7.mono (fun j hj => by simp only [Iv] at *; omega)
      have c8' : Ch (fun j => Iv lo hi j) w7 w8 := c8.mono (fun j hj => by simp only [Iv] at *; omega)
      have e4' : Ch (fun j => Iv lo hi j) w3 w4 := e4.mono (fun j hj => by cases hj)
      have e6' : Ch (fun j => Iv lo hi j) w5 w6 := e6.mono (fun j hj => by cases hj)
      repeat' (first | apply Jbq | apply Jbr | apply Jbt | apply Jbx | (apply Jcg; (first | exact Jaa rfl | exact Jab rfl | exact Jaf rfl rfl (by omega)); exact rfl))
      exact TN_round (i + 1) (subEnv_cons rfl (subEnv_cons (congrArg (fun z => some (I z)) (by omega)) (subEnv_cons rfl (subEnv_nil _)))) ⟨hlt, (((((c2.then c3').then e4').then c5').then e6').then c7').then c8', by rw [Nat.succ_mul]; exact ho8⟩ (by omega)
  · obtain rfl : i = n := by omega
    rw [show i * 4 = xs.length from hlen.symm, overTo_all _ _ (by omega)] at ho2
    repeat' (first | apply Jbq | apply Jbr | apply Jbs | apply Jbt | apply Jbu | apply Jca | apply Jcb | apply Jcc | (apply Jcg; (first | exact Jaa rfl | exact Jab rfl); exact rfl))
    exact TR_of (res1 rfl rfl) ⟨rfl, c2, c2.size, ho2⟩
set_option maxHeartbeats 2000000 in
theorem heldTurnS_c {lo hi n c : Nat} {A : Option Addr} {k : Int} {w : World} (hr : Rd w lo hi 4 A n (cellsL TnC (mkTu k n))) (hl : n ≤ 1099511627776) (hk0 : 0 < k) (hk1 : k ≤ 1099511627776) :
    Ret Tryz.prog 80 #[.slice A n c, I k] w fun v w' => v = I (k + 4 * n) ∧ Ext w w' := by
  refine Ret_enter Tryz.func80 rfl rfl rfl ?_
  repeat' (first | apply Jbq | apply Jbr | apply Jbs | apply Jbt | apply Jby | (apply Jcg; exact Jab rfl; exact rfl))
  refine TC_loop (ι := Nat) (fun i => [(0, .slice A n c), (1, I (k + 4 * (i : Int))), (5, I i)]) (fun i w' => i ≤ n ∧ Ext w w') (fun i => n - i) 0
    (subEnv_cons rfl (subEnv_cons (congrArg (fun z => some (I z)) (by omega)) (subEnv_cons rfl (subEnv_nil _)))) ⟨Nat.zero_le _, Ch.refl _ _⟩ ?_
  intro i w2 ⟨hi2, e2⟩
  repeat' (first | apply Jbq | apply Jbr | apply Jbs | apply Jbt | (apply Jcg; (first | exact Jaa rfl | exact Jac Us.h rfl | exact Jad rfl rfl); exact rfl))
  refine Jcx rfl (fun hlt => ?_) (fun hge => ?_)
  · have hlt : i < n := by omega
    have hr' : Rd w2 lo hi 4 A (mkTu k n).length (cellsL TnC (mkTu k n)) := by rw [mkTu_length]; exact hr.ext e2
    obtain ⟨ad, rfl, hc⟩ := Rd.elem TnC_len hr' (k := i) (by simpa using hlt)
    rw [mkTu_get] at hc
    obtain ⟨m, hm⟩ := nat_of (x := k + 4 * (i : Int)) (by omega)
    rw [hm, show ((m : Int) + 1).toNat = m + 1 by omega, show ((m : Int) + 2).toNat = m + 2 by omega] at hc
    have h0 := hc 0 _ rfl
    have h1 := hc 1 _ rfl
    have h2 := hc 2 _ rfl
    have h3 := hc 3 _ rfl
    repeat' (first | apply Jbq | apply Jbr | apply Jbs | apply Jbt | apply Jby | apply Jbz | (apply Jcg; (first | exact Jaa rfl | exact Jal rfl rfl | exact Jar Us.h Sz.h rfl rfl (by omega) | (apply Jbl; exact Us.h; exact rfl; exact Sz.h; exact rfl)); exact rfl) | refine Jcg (Pu_load Fl.h rfl (fun _ e => by rw [e]; exact h0)) rfl ?_)
    rw [hm]
    refine Jcf (by rw [show (!decide ((m : Int) = (m : Int))) = false from by simp]; rfl) ?_
    repeat' (first | apply Jbq | apply Jbr | apply Jbs | apply Jbt | apply Jbz | (apply Jcg; (first | exact Jaa rfl | exact Jab rfl | exact Jaf rfl rfl (by omega)); exact rfl))
    refine TC_any mixed rfl ?_
    intro w3 hE hz3
    (refine Jco 0 rfl (by kernel_rfl) (by kernel_rfl) (by kernel_rfl) (fun _ _ _ h => h) hE (by exact Jaa rfl) rfl ?_; refine Jco 1 rfl (by kernel_rfl) (by kernel_rfl) (by kernel_rfl) (fun _ _ _ h => h) hE (by exact Jaa rfl) rfl ?_; refine Jco 2 rfl (by kernel_rfl) (by kernel_rfl) (by kernel_rfl) (fun _ _ _ h => h) hE (by exact Jar Us.h Sz.h rfl rfl (by omega)) rfl ?_; refine Jco 3 rfl (by kernel_rfl) (by kernel_rfl) (by kernel_rfl) (fun _ _ _ h => h) hE (by (apply Jbl; exact Us.h; exact rfl; exact Sz.h; exact rfl)) rfl ?_; refine Jco 4 rfl (by kernel_rfl) (by kernel_rfl) (by kernel_rfl) (fun _ _ _ h => h) hE (by exact Pu_load Fl.h rfl (fun _ e => Ext.cell e h1)) rfl ?_; refine Jco 5 rfl (by kernel_rfl) (by kernel_rfl) (by kernel_rfl) (fun _ _ _ h => h) hE (by exact Jaa rfl) rfl ?_)
    refine TA_one 6 (by kernel_rfl) rfl ?_
    refine TL_call rfl en98 (markText_c (m + 1) _ (by omega) (by omega)) rfl rfl ?_
    rintro _ w4 ⟨rfl, e4⟩
    replace hE := hE.ext e4
    refine Jbq (TN_any hE ?_)
    refine Jco 7 rfl (by kernel_rfl) (by kernel_rfl) (by kernel_rfl) (fun _ _ _ h => h) hE (Jbo rfl rfl) rfl ?_
    refine TA_done (by kernel_rfl) ?_
    have h2' := Ext.cell hE h2
    have h3' := Ext.cell hE h3
    have E4 := e2.ext hE
    repeat' (first | apply Jbq | apply Jbr | apply Jbs | apply Jbt | apply Jbz | (refine Jcf rfl ?_) | (apply Jcg; (first | exact Jaa rfl | exact Jab rfl | exact Jaf rfl rfl (by omega)); exact rfl))
    refine TC_any mixed rfl ?_
    clear hE
    intro w5 hE hz5
    (refine Jco 0 rfl (by kernel_rfl) (by kernel_rfl) (by kernel_rfl) (fun _ _ _ h => h) hE (by exact Jaa rfl) rfl ?_; refine Jco 1 rfl (by kernel_rfl) (by kernel_rfl) (by kernel_rfl) (fun _ _ _ h => h) hE (by exact Jaa rfl) rfl ?_; refine Jco 2 rfl (by kernel_rfl) (by kernel_rfl) (by kernel_rfl) (fun _ _ _ h => h) hE (by exact Jar Us.h Sz.h rfl rfl (by omega)) rfl ?_; refine Jco 3 rfl (by kernel_rfl) (by kernel_rfl) (by kernel_rfl) (fun _ _ _ h => h) hE (by (apply Jbl; exact Us.h; exact rfl; exact Sz.h; exact rfl)) rfl ?_; refine Jco 4 rfl (by kernel_rfl) (by kernel_rfl) (by kernel_rfl) (fun _ _ _ h => h) hE (by exact Pu_load Fl.h rfl (fun _ e => Ext.cell e h2')) rfl ?_; refine Jco 5 rfl (by kernel_rfl) (by kernel_rfl) (by kernel_rfl) (fun _ _ _ h => h) hE (by exact Jaa rfl) rfl ?_)
    refine TA_one 6 (by kernel_rfl) rfl ?_
    refine TL_call rfl en98 (markText_c (m + 2) _ (by omega) (by omega)) rfl rfl ?_
    rintro _ w6 ⟨rfl, e6⟩
    replace hE := hE.ext e6
    refine Jbq (TN_any hE ?_)
    refine Jco 7 rfl (by kernel_rfl) (by kernel_rfl) (by kernel_rfl) (fun _ _ _ h => h) hE (Jbo rfl rfl) rfl ?_
    refine TA_done (by kernel_rfl) ?_
    have h3'' : w6.cell? ((ad.add (i * 4)).add 3) = some (I ((m : Int) + 3)) := Ext.cell hE h3'
    repeat' (first | apply Jbq | apply Jbr | apply Jbs | apply Jbt | apply Jbz | (refine Jcf rfl ?_) | (apply Jcg; (first | exact Jaa rfl | exact Jab rfl | exact Jaf rfl rfl (by omega) | exact Jal rfl rfl | exact Jar Us.h Sz.h rfl rfl (by omega) | (apply Jbl; exact Us.h; exact rfl; exact Sz.h; exact rfl)); exact rfl) | refine Jcg (Pu_load Fl.h rfl (fun _ e => by rw [e]; exact h3'')) rfl ?_)
    refine Jcf (by rw [show (!decide ((m : Int) + 3 = (m : Int) + 1 + 1 + 1)) = false from by simp; omega]; rfl) ?_
    repeat' (first | apply Jbq | apply Jbr | apply Jbt | apply Jbx | apply Jbz | (apply Jcg; (first | exact Jaa rfl | exact Jab rfl | exact Jaf rfl rfl (by omega)); exact rfl))
    exact TN_round (i + 1) (subEnv_cons rfl (subEnv_cons (congrArg (fun z => some (I z)) (by omega)) (subEnv_cons rfl (subEnv_nil _)))) ⟨hlt, E4.ext hE⟩ (by omega)
  · obtain rfl : i = n := by omega
    repeat' (first | apply Jbq | apply Jbr | apply Jbs | apply Jbt | apply Jbu | apply Jca | apply Jcb | apply Jcc | (apply Jcg; (first | exact Jaa rfl | exact Jab rfl); exact rfl))
    exact TR_of (res1 rfl rfl) ⟨rfl, e2⟩
end Go.Proofs.YtggaghghclomkaaGreat
