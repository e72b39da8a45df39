/- Contracts of the functions that only compute: ranges, runes, names, entries. -/
import Derived.Test.YtggaghghclomkaaGreatTy
namespace Go.Proofs.YtggaghghclomkaaGreat
open Go.RowKit
attribute [local irreducible] TL TC TN TX TR TQ Pu Ret

def inB (n lo hi : Int) : Bool := decide (lo ≤ n ∧ n ≤ hi)
def pRuneOk (r : Int) : Bool := decide (0 ≤ r ∧ r ≤ 1114111 ∧ (r < 55296 ∨ 57343 < r))
def pPrintable (r : Int) : Bool := decide (32 ≤ r ∧ r ≤ 1114111 ∧ (r < 55296 ∨ 57343 < r) ∧ (r < 127 ∨ 159 < r))
def pClass (r : Int) : Int := if r = 9 ∨ r = 10 ∨ r = 32 then 0 else if (97 ≤ r ∧ r ≤ 122) ∨ (65 ≤ r ∧ r ≤ 90) ∨ (48 ≤ r ∧ r ≤ 57) ∨ r = 95 ∨ (159 < r ∧ pPrintable r = true) then 1 else 2
def okByte (b : UInt8) : Bool := decide (97 ≤ (b.toNat : Int) ∧ (b.toNat : Int) ≤ 122)
def pName (s : List UInt8) : Bool := decide (1 ≤ s.length ∧ s.length ≤ 12) && s.all okByte
def pEntry (num : Int) (text : List UInt8) : Bool := decide (1 ≤ num ∧ num ≤ 1000000000 ∧ 1 ≤ text.length ∧ text.length ≤ 1000)
theorem boolv {a b : Bool} (h : a = true ↔ b = true) : Value.bool a = Value.bool b := by rw [Bool.eq_iff_iff.2 h]
theorem okTake {s : List UInt8} {k : Nat} (h : k < s.length) : (s.take (k + 1)).all okByte = ((s.take k).all okByte && okByte (at8 s k)) := by
  rw [List.take_succ_eq_append_getElem h, List.all_append]
  simp only [at8, Int.toNat_natCast, List.getD_eq_getElem?_getD, List.getElem?_eq_getElem h, Option.getD_some, List.all_cons, List.all_nil, Bool.and_true]
theorem okBad {s : List UInt8} {k : Nat} (h : k < s.length) (hb : okByte (at8 s k) = false) : s.all okByte = false := by
  rw [List.all_eq_false]
  refine ⟨s[k], List.getElem_mem h, ?_⟩
  simpa [at8, List.getD_eq_getElem?_getD, List.getElem?_eq_getElem h] using hb

theorem in_c (n lo hi : Int) (w : World) : Ret Tryz.prog 101 #[I n, I lo, I hi] w fun v w' => v = .bool (inB n lo hi) ∧ w = w' := by
  refine Ret_enter Tryz.func101 rfl rfl rfl ?_
  repeat' (first | apply Jbq | apply Jbr | apply Jbs | apply Jbt | apply Jbu | (apply Jcg; (first | exact Jaa rfl | exact Jab rfl | exact Jah rfl rfl | exact Jai rfl rfl | exact Jan rfl rfl | exact Jao rfl rfl); exact rfl) | refine Jch rfl rfl rfl ?_ | refine Jci rfl rfl rfl rfl rfl ?_ | (refine Jcs rfl rfl (fun hb => ?_) (fun hb => ?_) <;> (try (exfalso; omega))))
  all_goals exact TR_of (res1 rfl rfl) ⟨boolv (by simp [inB]; omega), rfl⟩
theorem isLower_c (r : Int) (w : World) : Ret Tryz.prog 171 #[I r] w fun v w' => v = .bool (inB r 97 122) ∧ w = w' := by
  refine Ret_enter Tryz.func171 rfl rfl rfl ?_
  repeat' (first | apply Jbq | apply Jbr | apply Jbs | apply Jbt | apply Jbu | (apply Jcg; (first | exact Jaa rfl | exact Jab rfl); exact rfl) | (refine TL_call rfl en101 (in_c _ _ _ _) rfl rfl ?_; rintro _ _ ⟨rfl, rfl⟩))
  exact TR_of (res1 rfl rfl) ⟨rfl, rfl⟩
theorem specNameOk_c (s : List UInt8) (w : World) (hl : s.length ≤ 9223372036854775807) : Ret Tryz.prog 131 #[S s] w fun v w' => v = .bool (pName s) ∧ w = w' := by
  refine Ret_enter Tryz.func131 rfl rfl rfl ?_
  by_cases h : 1 ≤ s.length ∧ s.length ≤ 12
  · repeat' (first | apply Jbq | apply Jbr | apply Jbs | apply Jbt | apply Jby | apply Jbz | (apply Jcg; (first | exact Jaa rfl | exact Jab rfl | exact Jad rfl rfl | exact Jai rfl rfl | exact Jam rfl rfl | exact Jaq Us.h rfl); exact rfl) | refine Jch rfl rfl rfl ?_ | (refine Jcs rfl rfl (fun hb => ?_) (fun hb => ?_) <;> (try (exfalso; omega))) | (refine Jcx rfl (fun hb => ?_) (fun hb => ?_) <;> (try (exfalso; omega))))
    refine TC_loop (ι := Nat) (fun k => [(0, S s), (3, I k)]) (fun k w' => k ≤ s.length ∧ (s.take k).all okByte = true ∧ w = w') (fun k => s.length - k) 0 (subEnv_cons rfl (subEnv_cons rfl (subEnv_nil _))) ⟨Nat.zero_le _, by simp, rfl⟩ ?_
    rintro k _ ⟨hk, hall, rfl⟩
    by_cases hlt : k < s.length
    · have ht := okTake hlt
      repeat' (first | apply Jbq | apply Jbr | apply Jbs | apply Jbt | apply Jbu | apply Jbv | apply Jbw | apply Jbx | apply Jby | apply Jbz | (refine Jce rfl ?_) | (apply Jcg; (first | exact Jaa rfl | exact Jab rfl | exact Jad rfl rfl | exact Jaf rfl rfl (by omega) | exact Jah rfl rfl | exact Jai rfl rfl | exact Jam rfl rfl | exact Jaq Us.h rfl | exact Jbb Us.h rfl rfl (by omega)); exact rfl) | refine Jch rfl rfl rfl ?_ | refine Jci rfl rfl rfl rfl rfl ?_ | (refine Jcs rfl rfl (fun hb => ?_) (fun hb => ?_) <;> (try (exfalso; omega))) | (refine Jcx rfl (fun hb => ?_) (fun hb => ?_) <;> (try (exfalso; omega))))
      · exact TR_of (res1 rfl rfl) ⟨boolv (by have := okBad hlt (by simp [okByte]; omega); simp [pName, this]), rfl⟩
      · exact TR_of (res1 rfl rfl) ⟨boolv (by have := okBad hlt (by simp [okByte]; omega); simp [pName, this]), rfl⟩
      · exact TN_round (k + 1) (subEnv_cons rfl (subEnv_cons rfl (subEnv_nil _))) ⟨hlt, by rw [ht, hall]; simp [okByte]; omega, rfl⟩ (by omega)
    · obtain rfl : k = s.length := by omega
      repeat' (first | apply Jbq | apply Jbr | apply Jbs | apply Jbt | apply Jbu | apply Jca | apply Jcb | apply Jcc | (apply Jcg; (first | exact Jaa rfl | exact Jab rfl | exact Jad rfl rfl | exact Jaq Us.h rfl); exact rfl) | (refine Jcx rfl (fun hb => ?_) (fun hb => ?_) <;> (try (exfalso; omega))))
      exact TR_of (res1 rfl rfl) ⟨boolv (by rw [List.take_length] at hall; simp [pName, hall, h]), rfl⟩
  · have hp : pName s = false := by simp [pName]; omega
    repeat' (first | apply Jbq | apply Jbr | apply Jbs | apply Jbt | apply Jbu | apply Jbv | (refine Jce rfl ?_) | (apply Jcg; (first | exact Jaa rfl | exact Jab rfl | exact Jad rfl rfl | exact Jah rfl rfl | exact Jai rfl rfl | exact Jam rfl rfl | exact Jaq Us.h rfl); exact rfl) | refine Jch rfl rfl rfl ?_ | refine Jci rfl rfl rfl rfl rfl ?_ | (refine Jcs rfl rfl (fun hb => ?_) (fun hb => ?_) <;> (try (exfalso; omega))) | (refine Jcx rfl (fun hb => ?_) (fun hb => ?_) <;> (try (exfalso; omega))))
    all_goals exact TR_of (res1 rfl rfl) ⟨by rw [hp], rfl⟩
theorem implNameOk_c (s : List UInt8) (w : World) (hl : s.length ≤ 9223372036854775807) : Ret Tryz.prog 139 #[S s] w fun v w' => v = .bool (pName s) ∧ w = w' := by
  refine Ret_enter Tryz.func139 rfl rfl rfl ?_
  repeat' (first | apply Jbq | apply Jbr | apply Jbs | apply Jbt | (apply Jcg; (first | exact Jaa rfl | exact Jab rfl | exact Jaj rfl | exact Jaq Us.h rfl); exact rfl) | (refine TL_call rfl en101 (in_c _ _ _ _) rfl rfl ?_; rintro _ _ ⟨rfl, rfl⟩))
  by_cases h : 1 ≤ s.length ∧ s.length ≤ 12
  · rw [show inB (s.length : Int) 1 12 = true from by simp [inB]; omega]
    repeat' (first | apply Jbq | apply Jbr | apply Jbs | apply Jbt | apply Jby | apply Jbz | (refine Jcf rfl ?_) | (apply Jcg; exact Jab rfl; exact rfl))
    refine TC_loop (ι := Nat) (fun k => [(0, S s), (3, I k)]) (fun k w' => k ≤ s.length ∧ (s.take k).all okByte = true ∧ w = w') (fun k => s.length - k) 0 (subEnv_cons rfl (subEnv_cons rfl (subEnv_nil _))) ⟨Nat.zero_le _, by simp, rfl⟩ ?_
    rintro k _ ⟨hk, hall, rfl⟩
    by_cases hlt : k < s.length
    · have ht := okTake hlt
      repeat' (first | apply Jbq | apply Jbr | apply Jbs | apply Jbt | (apply Jcg; (first | exact Jaa rfl | exact Jad rfl rfl | exact Jaq Us.h rfl); exact rfl))
      refine Jce (by rw [show decide ((k : Int) < (s.length : Int)) = true from by simpa using hlt]; rfl) ?_
      have hcb : (0 : Int) ≤ ((at8 s k).toNat : Int) ∧ ((at8 s k).toNat : Int) ≤ 255 := by have := (at8 s k).toNat_lt; omega
      repeat' (first | apply Jbq | apply Jbr | apply Jbs | apply Jbt | apply Jby | apply Jbz | (apply Jcg; (first | exact Jaa rfl | exact Jaj rfl | exact Jax Us.h Us.h rfl (by omega) | exact Jbb Us.h rfl rfl (by omega)); exact rfl) | (refine TL_call rfl en171 (isLower_c _ _) rfl rfl ?_; rintro _ _ ⟨rfl, rfl⟩))
      cases hb : inB ((at8 s k).toNat : Int) 97 122
      · repeat' (first | apply Jbq | apply Jbr | apply Jbs | apply Jbt | apply Jbu | apply Jbv | apply Jbw | (refine Jce rfl ?_) | (apply Jcg; exact Jab rfl; exact rfl))
        exact TR_of (res1 rfl rfl) ⟨boolv (by have := okBad hlt (by simpa [okByte, inB] using hb); simp [pName, this]), rfl⟩
      · repeat' (first | apply Jbq | apply Jbr | apply Jbt | apply Jbx | apply Jbz | (refine Jcf rfl ?_) | (apply Jcg; (first | exact Jaa rfl | exact Jab rfl | exact Jaf rfl rfl (by omega)); exact rfl))
        exact TN_round (k + 1) (subEnv_cons rfl (subEnv_cons rfl (subEnv_nil _))) ⟨hlt, by rw [ht, hall]; simpa [okByte, inB] using hb, rfl⟩ (by omega)
    · obtain rfl : k = s.length := by omega
      repeat' (first | apply Jbq | apply Jbr | apply Jbs | apply Jbt | (apply Jcg; (first | exact Jaa rfl | exact Jad rfl rfl | exact Jaq Us.h rfl); exact rfl))
      refine Jcf (by rw [show decide ((s.length : Int) < (s.length : Int)) = false from by simp]; rfl) ?_
      repeat' (first | apply Jbq | apply Jbr | apply Jbs | apply Jbt | apply Jbu | apply Jca | apply Jcb | apply Jcc | (apply Jcg; exact Jab rfl; exact rfl))
      exact TR_of (res1 rfl rfl) ⟨boolv (by rw [List.take_length] at hall; simp [pName, hall, h]), rfl⟩
  · have hp : pName s = false := by simp [pName]; omega
    rw [show inB (s.length : Int) 1 12 = false from by simp [inB]; omega]
    repeat' (first | apply Jbq | apply Jbr | apply Jbs | apply Jbt | apply Jbu | apply Jbv | (refine Jce rfl ?_) | (apply Jcg; exact Jab rfl; exact rfl))
    exact TR_of (res1 rfl rfl) ⟨by rw [hp], rfl⟩
theorem specEntryOk_c (num : Int) (s : List UInt8) (w : World) : Ret Tryz.prog 165 #[.agg #[I num, S s]] w fun v w' => v = .bool (pEntry num s) ∧ Ext w w' := by
  refine Ret_enter Tryz.func165 rfl rfl rfl ?_
  repeat' (first | apply Jbs | apply Jbt)
  refine TL_box (cs := [I num, S s]) rfl rfl ?_
  intro w1 g e1 hg hz hbk
  clear hg hz
  repeat' (first | apply Jbq | apply Jbr | apply Jbs | apply Jbt | apply Jbu | (apply Jcg; (first | exact Jaa rfl | exact Jab rfl | exact Jah rfl rfl | exact Jai rfl rfl | exact Jan rfl rfl | exact Jao rfl rfl | exact Jaq Us.h rfl | (apply Jbl; exact Us.h; exact rfl; exact Sz.h; exact rfl)); exact rfl) | refine Jch rfl rfl rfl ?_ | refine Jci rfl rfl rfl rfl rfl ?_ | refine Jcg (Pu_load Fl.h rfl (fun _ e => by rw [e]; exact hbk.ld rfl)) rfl ?_ | (refine Jcs rfl rfl (fun hb => ?_) (fun hb => ?_) <;> (try (exfalso; omega))))
  all_goals (refine TR_of (res1 rfl rfl) ⟨boolv ?_, e1⟩; clear hbk e1; simp [pEntry]; try omega)
theorem implEntryOk_c (num : Int) (s : List UInt8) (w : World) : Ret Tryz.prog 155 #[.agg #[I num, S s]] w fun v w' => v = .bool (pEntry num s) ∧ Ext w w' := by
  refine Ret_enter Tryz.func155 rfl rfl rfl ?_
  repeat' (first | apply Jbs | apply Jbt)
  refine TL_box (cs := [I num, S s]) rfl rfl ?_
  intro w1 g e1 hg hz hbk
  clear hg hz
  repeat' (first | apply Jbq | apply Jbr | apply Jbs | apply Jbt | apply Jbu | (apply Jcg; (first | exact Jaa rfl | exact Jab rfl | exact Jah rfl rfl | exact Jai rfl rfl | exact Jaq Us.h rfl | (apply Jbl; exact Us.h; exact rfl; exact Sz.h; exact rfl)); exact rfl) | refine Jch rfl rfl rfl ?_ | refine Jci rfl rfl rfl rfl rfl ?_ | refine Jcg (Pu_load Fl.h rfl (fun _ e => by rw [e]; exact hbk.ld rfl)) rfl ?_ | (refine TL_call rfl en101 (in_c _ _ _ _) rfl rfl ?_; rintro _ _ ⟨rfl, rfl⟩) | (refine Jcs rfl rfl (fun hb => ?_) (fun hb => ?_) <;> (try (exfalso; omega))))
  all_goals (refine TR_of (res1 rfl rfl) ⟨boolv ?_, e1⟩; clear hbk e1; simp_all [pEntry, inB])
  all_goals omega
end Go.Proofs.YtggaghghclomkaaGreat
