/- Texts of this proof laid together, in the order in which they build; what each proves stands ahead of it. No condition but those told there. -/
import Derived.Test.YtggaghghclomkaaGreatQFT8h

/- Lists of records: the plain law. No condition. -/
namespace Go.Proofs.YtggaghghclomkaaGreat
open Go.RowKit

theorem readF_next {b : List UInt8} {i : Int} (h : (pReadF b i).2.2 = 0) : 0 ≤ i ∧ i + 10 < (pReadF b i).2.1 ∧ (pReadF b i).2.1 ≤ b.length ∧ pEntry (pReadF b i).1.1 (pReadF b i).1.2 = true ∧ (pReadF b i).2.1 = i + 10 + (pReadF b i).1.2.length := by
  unfold pReadF at *
  by_cases h1 : i < 0 ∨ b.length < i
  · rw [if_pos h1] at h; simp at h
  rw [if_neg h1] at h ⊢
  simp only at h ⊢
  by_cases h2 : b.length < i.toNat + 10
  · rw [if_pos h2] at h; simp at h
  rw [if_neg h2] at h ⊢
  by_cases h3 : getF b i.toNat 2 < 1 ∨ 1000 < getF b i.toNat 2
  · rw [if_pos h3] at h; simp at h
  rw [if_neg h3] at h ⊢
  by_cases h4 : (b.length : Int) < i.toNat + 10 + getF b i.toNat 2
  · rw [if_pos h4] at h; simp at h
  rw [if_neg h4] at h ⊢
  by_cases h5 : getF b (i.toNat + 2) 4 < 1 ∨ 1000000000 < getF b (i.toNat + 2) 4
  · rw [if_pos h5] at h; simp at h
  rw [if_neg h5] at h ⊢
  by_cases h6 : getF b (i.toNat + 6) 4 ≠ crc ((b.drop i.toNat).take 6 ++ textAt b i.toNat (getF b i.toNat 2).toNat)
  · rw [if_pos h6] at h; simp at h
  rw [if_neg h6] at h ⊢
  have hl : (textAt b i.toNat (getF b i.toNat 2).toNat).length = (getF b i.toNat 2).toNat := by unfold textAt; rw [List.length_take, List.length_drop]; omega
  refine ⟨by omega, by simp only; omega, by simp only; omega, pEntry_iff.2 ?_, by simp only; omega⟩
  simp only [hl]; omega
/-- Does the number that is read stand behind the last one? -/
def follows (p : Option Int) (n : Int) : Bool := match p with
  | none => true
  | some q => decide (q + 1 = n)
def scanFrom (b : List UInt8) (p : Option Int) (a : Nat) : List (Int × List UInt8) × Nat :=
  if h : (pReadF b a).2.2 = 0 ∧ follows p (pReadF b a).1.1 = true then
    ((pReadF b a).1 :: (scanFrom b (some (pReadF b a).1.1) (pReadF b a).2.1.toNat).1, (scanFrom b (some (pReadF b a).1.1) (pReadF b a).2.1.toNat).2)
  else ([], a)
termination_by b.length - a
decreasing_by all_goals (have := readF_next h.1; omega)
theorem scanFrom_end {b : List UInt8} {p : Option Int} {a : Nat} (h : ¬ ((pReadF b a).2.2 = 0 ∧ follows p (pReadF b a).1.1 = true)) : scanFrom b p a = ([], a) := by rw [scanFrom, dif_neg h]
theorem scanFrom_step {b : List UInt8} {p : Option Int} {a : Nat} (h : (pReadF b a).2.2 = 0) (h2 : follows p (pReadF b a).1.1 = true) :
    scanFrom b p a = ((pReadF b a).1 :: (scanFrom b (some (pReadF b a).1.1) (pReadF b a).2.1.toNat).1, (scanFrom b (some (pReadF b a).1.1) (pReadF b a).2.1.toNat).2) := by rw [scanFrom, dif_pos ⟨h, h2⟩]
def pScan (b : List UInt8) : List (Int × List UInt8) × Nat := scanFrom b none 0
def lastNum (l : List (Int × List UInt8)) : Option Int := l.getLast?.map (·.1)
theorem lastNum_snoc (l : List (Int × List UInt8)) (e : Int × List UInt8) : lastNum (l ++ [e]) = some e.1 := by simp [lastNum]
theorem scanFrom_len (b : List UInt8) : ∀ (n a : Nat) (p : Option Int), b.length - a ≤ n → a ≤ b.length → 10 * (scanFrom b p a).1.length ≤ b.length - a ∧ a ≤ (scanFrom b p a).2 ∧ (scanFrom b p a).2 ≤ b.length
  | 0, a, p, hn, ha => by
    rw [scanFrom_end (fun h => by have := readF_next h.1; omega)]
    simp only [List.length_nil]; omega
  | n + 1, a, p, hn, ha => by
    by_cases h : (pReadF b a).2.2 = 0 ∧ follows p (pReadF b a).1.1 = true
    · have h1 := readF_next h.1
      have ih := scanFrom_len b n (pReadF b a).2.1.toNat (some (pReadF b a).1.1) (by omega) (by omega)
      rw [scanFrom_step h.1 h.2]
      simp only [List.length_cons]
      omega
    · rw [scanFrom_end h]; simp only [List.length_nil]; omega

noncomputable def pLog (l : List (Int × List UInt8)) : List UInt8 × Bool := if pEntries l = true ∧ (l.flatMap frame).length ≤ 65536 then (l.flatMap frame, true) else ([], false)
theorem pLog_len (l : List (Int × List UInt8)) : (pLog l).1.length ≤ 65536 := by
  unfold pLog
  split
  · rename_i h; exact h.2
  · simp
theorem frames_take {l : List (Int × List UInt8)} {k : Nat} (h : k < l.length) : (l.take (k + 1)).flatMap frame = (l.take k).flatMap frame ++ frame l[k] := by
  rw [List.take_succ_eq_append_getElem h, List.flatMap_append]; simp
theorem frames_le (l : List (Int × List UInt8)) (k : Nat) : ((l.take k).flatMap frame).length ≤ (l.flatMap frame).length := by
  conv => rhs; rw [← List.take_append_drop k l]
  rw [List.flatMap_append, List.length_append]; omega
end Go.Proofs.YtggaghghclomkaaGreat

/- Contracts: a record read. -/
namespace Go.Proofs.YtggaghghclomkaaGreat
open Go.RowKit
attribute [local irreducible] TL TC TN TX TR TQ TA Pu Ret

theorem readF_out {b : List UInt8} {i : Int} (h : i < 0 ∨ b.length < i) : pReadF b i = (noE, 0, 1) := by unfold pReadF; rw [if_pos h]
theorem readF_nat {b : List UInt8} {a : Nat} (h : a ≤ b.length) : pReadF b a = if b.length < a + 10 then (noE, 0, 2) else
    if getF b a 2 < 1 ∨ 1000 < getF b a 2 then (noE, 0, 3) else if (b.length : Int) < a + 10 + getF b a 2 then (noE, 0, 4) else
    if getF b (a + 2) 4 < 1 ∨ 1000000000 < getF b (a + 2) 4 then (noE, 0, 5) else
    if getF b (a + 6) 4 ≠ crc ((b.drop a).take 6 ++ textAt b a (getF b a 2).toNat) then (noE, 0, 6) else
    ((getF b (a + 2) 4, textAt b a (getF b a 2).toNat), (a : Int) + 10 + getF b a 2, 0) := by
  unfold pReadF
  rw [if_neg (by omega)]
  simp only [Int.toNat_natCast]
theorem pGet_at {b : List UInt8} {a k : Nat} {i sz : Int} (hi : i = a) (hs : sz = k) (h : 1 ≤ k ∧ k ≤ 4 ∧ a + k ≤ b.length) : pGet b i sz = (getF b a k, true) := by
  subst hi hs
  rw [pGet_yes (by omega), Int.toNat_natCast, Int.toNat_natCast]
theorem getF_drop (b : List UInt8) (a j : Nat) : ∀ k, getF (b.drop a) j k = getF b (a + j) k
  | 0 => rfl
  | k + 1 => by
    simp only [getF]
    rw [getF_drop b a j k]
    congr 3
    simp only [List.getD_eq_getElem?_getD, List.getElem?_drop, Nat.add_assoc]
theorem seg_at {b : List UInt8} {p q : Nat} {x y : Int} (hx : x.toNat = p) (hy : y.toNat = p + q) : (b.take y.toNat).drop x.toNat = (b.drop p).take q := by
  rw [hx, hy, List.drop_take, Nat.add_sub_cancel_left]
set_option maxHeartbeats 8000000 in
theorem specFrameRead_c {lo hi : Nat} {vb : Value} {b : List UInt8} {i : Int} {w : World} (hR : RB w lo hi vb b) (hl : b.length ≤ 1048576) (hi63 : -9223372036854775808 ≤ i ∧ i ≤ 9223372036854775807) :
    Ret Tryz.prog 154 #[vb, I i] w fun v w' => v = .tuple #[.agg (entC (pReadF b i).1).toArray, I (pReadF b i).2.1, I (pReadF b i).2.2] ∧ Ext w w' := by
  obtain ⟨A, c, rfl, hc, hr⟩ := hR
  refine Ret_enter Tryz.func154 rfl rfl rfl ?_
  repeat' (first | apply Jbs | apply Jbt)
  refine TL_alloc Zs.h rfl rfl ?_
  intro w1 g E hg hz hbk
  have hgw : w.heap.size ≤ g := by omega
  have hgl := hbk.lt
  clear hg hz
  have hr1 := hr.ext E
  by_cases h1 : i < 0 ∨ b.length < i
  · rw [readF_out h1]
    repeat' (first | apply Jbq | apply Jbr | apply Jbs | apply Jbt | apply Jbu | apply Jbv | (refine Jce rfl ?_) | (apply Jcg; (first | exact Jaa rfl | exact Jab rfl | exact Jac Us.h rfl | exact Jad rfl rfl | exact Jah rfl rfl | exact Jai rfl rfl | exact Jam rfl rfl); exact rfl) | refine Jch rfl rfl rfl ?_ | refine Jci rfl rfl rfl rfl rfl ?_ | (refine Jcg (Pu_build (cs := entC noE) rfl (by kernel_rfl)) rfl ?_) | (refine TL_storeAgg rfl rfl Sz.h rfl hbk rfl ?_; intro w2 c2 hz2 hb2) | (refine Jcs rfl rfl (fun hb => ?_) (fun hb => ?_) <;> (try (exfalso; omega))) | (refine Jcx rfl (fun hb => ?_) (fun hb => ?_) <;> (try (exfalso; omega))))
    all_goals exact TR_of (resA2 rfl rfl rfl rfl hb2 Us.h rfl Sz.h) ⟨rfl, Ext.then_iv E c2 hgw⟩
  · obtain ⟨a, rfl⟩ := Int.eq_ofNat_of_zero_le (show 0 ≤ i by omega)
    rw [readF_nat (by omega)]
    by_cases h2 : b.length < a + 10
    · rw [if_pos h2]
      repeat' (first | apply Jbq | apply Jbr | apply Jbs | apply Jbt | apply Jbu | apply Jbv | apply Jbz | (apply Jcg; (first | exact Jaa rfl | exact Jab rfl | exact Jac Us.h rfl | exact Jad rfl rfl | exact Jai rfl rfl | exact Jam rfl rfl | exact Jap rfl rfl (by omega)); exact rfl) | refine Jch rfl rfl rfl ?_ | (refine Jcg (Pu_build (cs := entC noE) rfl (by kernel_rfl)) rfl ?_) | (refine TL_storeAgg rfl rfl Sz.h rfl hbk rfl ?_; intro w2 c2 hz2 hb2) | (refine Jcx rfl (fun hb => ?_) (fun hb => ?_) <;> (try (exfalso; omega))))
      all_goals exact TR_of (resA2 rfl rfl rfl rfl hb2 Us.h rfl Sz.h) ⟨rfl, Ext.then_iv E c2 hgw⟩
    rw [if_neg h2]
    repeat' (first | apply Jbq | apply Jbr | apply Jbs | apply Jbt | apply Jbz | (apply Jcg; (first | exact Jaa rfl | exact Jab rfl | exact Jac Us.h rfl | exact Jad rfl rfl | exact Jai rfl rfl | exact Jam rfl rfl | exact Jap rfl rfl (by omega)); exact rfl) | refine Jch rfl rfl rfl ?_ | (refine Jcx rfl (fun hb => ?_) (fun hb => ?_) <;> (try (exfalso; omega))))
    refine TL_call rfl en179 (specGetNum_k ⟨_, _, rfl, hc, hr1⟩ hl) rfl rfl ?_
    rintro _ w2 ⟨rfl, e2⟩
    rw [pGet_at (b := b) (i := (a : Int)) (sz := 2) (a := a) (k := 2) rfl rfl (by omega)]
    repeat' (first | apply Jbq | apply Jbr | apply Jbs | apply Jbt | (apply Jcg; (first | exact Jaa rfl | exact Jab rfl | exact Jae rfl rfl | exact Jaf rfl rfl (by omega)); exact rfl))
    refine TL_call rfl en179 (specGetNum_k ⟨_, _, rfl, hc, hr1.ext e2⟩ hl) rfl rfl ?_
    rintro _ w3 ⟨rfl, e3⟩
    rw [pGet_at (b := b) (i := (a : Int) + 2) (sz := 4) (a := a + 2) (k := 4) (by omega) rfl (by omega)]
    replace E := (E.ext e2).ext e3
    replace hbk := (hbk.ext e2).ext e3
    replace hr1 := (hr1.ext e2).ext e3
    have hs3 := (e2.ext e3).size
    clear e2 e3
    obtain ⟨n, hn⟩ : ∃ n, n = getF b a 2 := ⟨_, rfl⟩
    have hn0 := getF_nn b a 2
    have hn1 := getF_le b a 2 (by omega)
    rw [← hn] at hn0 hn1 ⊢
    obtain ⟨num, hnum⟩ : ∃ num, num = getF b (a + 2) 4 := ⟨_, rfl⟩
    have hm0 := getF_nn b (a + 2) 4
    have hm1 := getF_le b (a + 2) 4 (by omega)
    rw [← hnum] at hm0 hm1 ⊢
    by_cases h3 : n < 1 ∨ 1000 < n
    · rw [if_pos h3]
      repeat' (first | apply Jbq | apply Jbr | apply Jbs | apply Jbt | apply Jbu | apply Jbv | (refine Jce rfl ?_) | (apply Jcg; (first | exact Jaa rfl | exact Jab rfl | exact Jae rfl rfl | exact Jah rfl rfl | exact Jai rfl rfl | exact Jak rfl rfl | exact Jam rfl rfl); exact rfl) | refine Jch rfl rfl rfl ?_ | refine Jci rfl rfl rfl rfl rfl ?_ | (refine Jcg (Pu_build (cs := entC noE) rfl (by kernel_rfl)) rfl ?_) | (refine TL_storeAgg rfl rfl Sz.h rfl hbk rfl ?_; intro w4 c4 hz4 hb4) | (refine Jcs rfl rfl (fun hb => ?_) (fun hb => ?_) <;> (try (exfalso; omega))) | (refine Jcx rfl (fun hb => ?_) (fun hb => ?_) <;> (try (exfalso; omega))))
      all_goals exact TR_of (resA2 rfl rfl rfl rfl hb4 Us.h rfl Sz.h) ⟨rfl, Ext.then_iv E c4 hgw⟩
    rw [if_neg h3]
    by_cases h4 : (b.length : Int) < a + 10 + n
    · rw [if_pos h4]
      repeat' (first | apply Jbq | apply Jbr | apply Jbs | apply Jbt | apply Jbu | apply Jbv | apply Jbz | (apply Jcg; (first | exact Jaa rfl | exact Jab rfl | exact Jac Us.h rfl | exact Jae rfl rfl | exact Jai rfl rfl | exact Jak rfl rfl | exact Jam rfl rfl | exact Jap rfl rfl (by omega)); exact rfl) | refine Jch rfl rfl rfl ?_ | (refine Jcg (Pu_build (cs := entC noE) rfl (by kernel_rfl)) rfl ?_) | (refine TL_storeAgg rfl rfl Sz.h rfl hbk rfl ?_; intro w4 c4 hz4 hb4) | (refine Jcs rfl rfl (fun hb => ?_) (fun hb => ?_) <;> (try (exfalso; omega))) | (refine Jcx rfl (fun hb => ?_) (fun hb => ?_) <;> (try (exfalso; omega))))
      all_goals exact TR_of (resA2 rfl rfl rfl rfl hb4 Us.h rfl Sz.h) ⟨rfl, Ext.then_iv E c4 hgw⟩
    rw [if_neg h4]
    by_cases h5 : num < 1 ∨ 1000000000 < num
    · rw [if_pos h5]
      repeat' (first | apply Jbq | apply Jbr | apply Jbs | apply Jbt | apply Jbu | apply Jbv | apply Jbz | (refine Jce rfl ?_) | (apply Jcg; (first | exact Jaa rfl | exact Jab rfl | exact Jac Us.h rfl | exact Jae rfl rfl | exact Jah rfl rfl | exact Jai rfl rfl | exact Jak rfl rfl | exact Jam rfl rfl | exact Jap rfl rfl (by omega)); exact rfl) | refine Jch rfl rfl rfl ?_ | refine Jci rfl rfl rfl rfl rfl ?_ | (refine Jcg (Pu_build (cs := entC noE) rfl (by kernel_rfl)) rfl ?_) | (refine TL_storeAgg rfl rfl Sz.h rfl hbk rfl ?_; intro w4 c4 hz4 hb4) | (refine Jcs rfl rfl (fun hb => ?_) (fun hb => ?_) <;> (try (exfalso; omega))) | (refine Jcx rfl (fun hb => ?_) (fun hb => ?_) <;> (try (exfalso; omega))))
      all_goals exact TR_of (resA2 rfl rfl rfl rfl hb4 Us.h rfl Sz.h) ⟨rfl, Ext.then_iv E c4 hgw⟩
    rw [if_neg h5]
    obtain ⟨m, rfl⟩ := Int.eq_ofNat_of_zero_le hn0
    have hm := hr1.mid8 (a := (a : Int) + 10) (b := (a : Int) + 10 + m) (by omega) hc
    rw [seg_at (p := a + 10) (q := m) (by omega) (by omega)] at hm
    have hseg := hr1.mid8 (a := (a : Int)) (b := (a : Int) + 10 + m) (by omega) hc
    rw [seg_at (p := a) (q := 10 + m) (by omega) (by omega)] at hseg
    rw [Int.toNat_natCast]
    have htl : (textAt b a m).length = m := by unfold textAt; rw [List.length_take, List.length_drop]; omega
    have hen : pEntry num (textAt b a m) = true := (pEntry_iff (e := (num, textAt b a m))).2 (by simp only [htl]; omega)
    repeat' (first | apply Jbq | apply Jbr | apply Jbs | apply Jbt | apply Jbz | (apply Jcg; (first | exact Jaa rfl | exact Jab rfl | exact Jac Us.h rfl | exact Jae rfl rfl | exact Jaf rfl rfl (by omega) | exact Jai rfl rfl | exact Jak rfl rfl | exact Jam rfl rfl | exact Jap rfl rfl (by omega) | exact Jbc Us.h Sz.h rfl rfl rfl (by omega)); exact rfl) | refine Jch rfl rfl rfl ?_ | refine Jcg (Pu_string (s := textAt b a m) Us.h Us.h Us.h rfl (fun w' e => by rw [e]; exact ⟨_, _, hm⟩)) rfl ?_ | (refine Jcg (Pu_build (cs := entC (num, textAt b a m)) rfl (by kernel_rfl)) rfl ?_) | (refine Jcs rfl rfl (fun hb => ?_) (fun hb => ?_) <;> (try (exfalso; omega))) | (refine Jcx rfl (fun hb => ?_) (fun hb => ?_) <;> (try (exfalso; omega))))
    refine TL_alloc Zs.h rfl rfl ?_
    intro w4 g4 e4 hg4 hz4 hb4
    skip
    refine TL_storeAgg rfl rfl Sz.h rfl hb4 rfl ?_
    clear hb4
    intro w5 c5 hz5 hb4
    replace hbk := (hbk.ext e4).ch c5 (by simp only [Iv]; omega)
    replace E : Ext w w5 := Ext.then_iv (E.ext e4) c5 (by have := E.size; omega)
    replace hseg := (hseg.ext e4).ch c5 (by intro k _ hk; have := hr.hi_le; simp only [Iv]; omega)
    repeat' (first | apply Jbq | apply Jbr | apply Jbs | apply Jbt | refine Jcg (Pu_loadAgg (cs := entC (num, textAt b a m)) Us.h rfl Sz.h rfl (fun _ e j u hu => by rw [e, add0, hb4.cell]; exact hu)) rfl ?_)
    refine TL_call rfl en121 (specFrameBytes_c (num, textAt b a m) _) rfl rfl ?_
    rintro _ w6 ⟨v6, rfl, e6, ho6⟩
    rw [pFrame_yes hen] at ho6 ⊢
    obtain ⟨A6, c6, rfl, ho6⟩ := ho6
    replace hbk := hbk.ext e6
    replace hb4 := hb4.ext e6
    replace E := E.ext e6
    replace hseg := hseg.ext e6
    repeat' (first | apply Jbq | apply Jbr | apply Jbs | (apply Jcg; (first | exact Jaa rfl | exact Jab rfl | exact Jae rfl rfl); exact rfl))
    refine TC_quietExt mixed (by kernel_rfl) ?_
    repeat' (first | (apply Jck; (first | exact Jaa rfl | exact Jaf rfl rfl (by omega) | exact Jat rfl rfl | exact Jbc Us.h Sz.h rfl rfl rfl (by omega)); exact rfl) | refine Jck (Pu_string Us.h Us.h Us.h rfl (fun w' e => ⟨_, _, ho6.rd.ext e⟩)) rfl ?_ | refine Jck (Pu_string (s := (b.drop a).take (10 + m)) Us.h Us.h Us.h rfl (fun w' e => ⟨_, _, hseg.ext e⟩)) rfl ?_)
    refine TQ_nil fun w7 e7 => ?_
    replace hbk := hbk.ext e7
    replace hb4 := hb4.ext e7
    replace E := E.ext e7
    have hfr := frame_is (b := b) (a := a) (n := m) (by omega) hn.symm
    rw [← hnum] at hfr
    repeat' (apply Jbr)
    refine Jcy rfl (fun hne => ?_) (fun heq => ?_)
    · rw [if_pos (fun q => hne (hfr.2 q))]
      repeat' (first | apply Jbq | apply Jbr | apply Jbs | apply Jbt | apply Jbu | apply Jbv | (apply Jcg; exact Jab rfl; exact rfl) | (refine Jcg (Pu_build (cs := entC noE) rfl (by kernel_rfl)) rfl ?_) | (refine TL_storeAgg rfl rfl Sz.h rfl hbk rfl ?_; intro w8 c8 hz8 hb8))
      exact TR_of (resA2 rfl rfl rfl rfl hb8 Us.h rfl Sz.h) ⟨rfl, Ext.then_iv E c8 hgw⟩
    · rw [if_neg (fun q => q (hfr.1 heq))]
      repeat' (first | apply Jbq | apply Jbr | apply Jbs | apply Jbt | apply Jbu | apply Jbz | (apply Jcg; (first | exact Jaa rfl | exact Jab rfl | exact Jaf rfl rfl (by omega)); exact rfl) | refine Jcg (Pu_loadAgg (cs := entC (num, textAt b a m)) Us.h rfl Sz.h rfl (fun _ e j u hu => by rw [e, add0, hb4.cell]; exact hu)) rfl ?_ | (refine TL_storeAgg rfl rfl Sz.h rfl hbk rfl ?_; intro w8 c8 hz8 hb8))
      exact TR_of (resA2 rfl rfl rfl rfl hb8 Us.h rfl Sz.h) ⟨rfl, Ext.then_iv E c8 hgw⟩
set_option maxRecDepth 100000 in
set_option maxHeartbeats 8000000 in
theorem implFrameRead_c {lo hi : Nat} {vb : Value} {b : List UInt8} {i : Int} {w : World} (hR : RB w lo hi vb b) (hl : b.length ≤ 1048576) (hi63 : -9223372036854775808 ≤ i ∧ i ≤ 9223372036854775807) :
    Ret Tryz.prog 153 #[vb, I i] w fun v w' => v = .tuple #[.agg (entC (pReadF b i).1).toArray, I (pReadF b i).2.1, I (pReadF b i).2.2] ∧ Ext w w' := by
  obtain ⟨A, c, rfl, hc, hr⟩ := hR
  refine Ret_enter Tryz.func153 rfl rfl rfl ?_
  repeat' (first | apply Jbs | apply Jbt)
  refine TL_alloc Zs.h rfl rfl ?_
  intro w1 g E hg hz hbk
  have hgw : w.heap.size ≤ g := by omega
  have hgl := hbk.lt
  clear hg hz
  have hr1 := hr.ext E
  by_cases h1 : i < 0 ∨ b.length < i
  · rw [readF_out h1]
    repeat' (first | apply Jbq | apply Jbr | apply Jbs | apply Jbt | apply Jbu | apply Jbv | (refine Jce rfl ?_) | (apply Jcg; (first | exact Jaa rfl | exact Jab rfl | exact Jac Us.h rfl | exact Jad rfl rfl | exact Jah rfl rfl | exact Jai rfl rfl | exact Jam rfl rfl); exact rfl) | refine Jch rfl rfl rfl ?_ | refine Jci rfl rfl rfl rfl rfl ?_ | (refine Jcg (Pu_build (cs := entC noE) rfl (by kernel_rfl)) rfl ?_) | (refine TL_storeAgg rfl rfl Sz.h rfl hbk rfl ?_; intro w2 c2 hz2 hb2) | (refine Jcs rfl rfl (fun hb => ?_) (fun hb => ?_) <;> (try (exfalso; omega))) | (refine Jcx rfl (fun hb => ?_) (fun hb => ?_) <;> (try (exfalso; omega))))
    all_goals exact TR_of (resA2 rfl rfl rfl rfl hb2 Us.h rfl Sz.h) ⟨rfl, Ext.then_iv E c2 hgw⟩
  · obtain ⟨a, rfl⟩ := Int.eq_ofNat_of_zero_le (show 0 ≤ i by omega)
    rw [readF_nat (by omega)]
    by_cases h2 : b.length < a + 10
    · rw [if_pos h2]
      repeat' (first | apply Jbq | apply Jbr | apply Jbs | apply Jbt | apply Jbu | apply Jbv | apply Jbz | (apply Jcg; (first | exact Jaa rfl | exact Jab rfl | exact Jac Us.h rfl | exact Jad rfl rfl | exact Jai rfl rfl | exact Jam rfl rfl | exact Jbd Us.h Sz.h rfl rfl (by omega)); exact rfl) | refine Jch rfl rfl rfl ?_ | (refine Jcg (Pu_build (cs := entC noE) rfl (by kernel_rfl)) rfl ?_) | (refine TL_storeAgg rfl rfl Sz.h rfl hbk rfl ?_; intro w2 c2 hz2 hb2) | (refine Jcx rfl (fun hb => ?_) (fun hb => ?_) <;> (try (exfalso; omega))))
      all_goals exact TR_of (resA2 rfl rfl rfl rfl hb2 Us.h rfl Sz.h) ⟨rfl, Ext.then_iv E c2 hgw⟩
    rw [if_neg h2]
    have hfrom := RB.from (k := a) hr1 (by omega) hc
    repeat' (first | apply Jbq | apply Jbr | apply Jbs | apply Jbt | apply Jbz | (apply Jcg; (first | exact Jaa rfl | exact Jab rfl | exact Jac Us.h rfl | exact Jad rfl rfl | exact Jai rfl rfl | exact Jam rfl rfl | exact Jbd Us.h Sz.h rfl rfl (by omega)); exact rfl) | refine Jch rfl rfl rfl ?_ | (refine Jcx rfl (fun hb => ?_) (fun hb => ?_) <;> (try (exfalso; omega))))
    obtain ⟨s, hs⟩ : ∃ s, s = b.drop a := ⟨_, rfl⟩
    rw [show b.drop (a : Int).toNat = s from hs.symm] at hfrom
    obtain ⟨A1, c1, hv1, hc1, hs1⟩ := hfrom
    rw [hv1]
    have hsl : s.length = b.length - a := by rw [hs, List.length_drop]
    clear hv1
    refine TL_call rfl en178 (implGetNum_k ⟨_, _, rfl, hc1, hs1⟩ (by omega)) rfl rfl ?_
    rintro _ w2 ⟨rfl, e2⟩
    rw [pGet_at (b := s) (i := 0) (sz := 2) (a := 0) (k := 2) rfl rfl (by omega), show getF s 0 2 = getF b a 2 from by rw [hs, getF_drop]; rfl]
    repeat' (first | apply Jbq | apply Jbr | apply Jbs | apply Jbt | (apply Jcg; (first | exact Jaa rfl | exact Jab rfl | exact Jae rfl rfl); exact rfl))
    refine TL_call rfl en178 (implGetNum_k ⟨_, _, rfl, hc1, hs1.ext e2⟩ (by omega)) rfl rfl ?_
    rintro _ w3 ⟨rfl, e3⟩
    rw [pGet_at (b := s) (i := 2) (sz := 4) (a := 2) (k := 4) rfl rfl (by omega), show getF s 2 4 = getF b (a + 2) 4 from by rw [hs, getF_drop]]
    repeat' (first | apply Jbq | apply Jbr | apply Jbs | apply Jbt | (apply Jcg; (first | exact Jaa rfl | exact Jab rfl | exact Jae rfl rfl); exact rfl))
    refine TL_call rfl en178 (implGetNum_k ⟨_, _, rfl, hc1, (hs1.ext e2).ext e3⟩ (by omega)) rfl rfl ?_
    rintro _ w4 ⟨rfl, e4⟩
    rw [pGet_at (b := s) (i := 6) (sz := 4) (a := 6) (k := 4) rfl rfl (by omega), show getF s 6 4 = getF b (a + 6) 4 from by rw [hs, getF_drop]]
    replace E := ((E.ext e2).ext e3).ext e4
    replace hbk := ((hbk.ext e2).ext e3).ext e4
    replace hs1 := ((hs1.ext e2).ext e3).ext e4
    clear e2 e3 e4
    obtain ⟨n, hn⟩ : ∃ n, n = getF b a 2 := ⟨_, rfl⟩
    have hn0 := getF_nn b a 2
    have hn1 := getF_le b a 2 (by omega)
    rw [← hn] at hn0 hn1 ⊢
    obtain ⟨num, hnum⟩ : ∃ num, num = getF b (a + 2) 4 := ⟨_, rfl⟩
    rw [← hnum]
    by_cases h3 : n < 1 ∨ 1000 < n
    · rw [if_pos h3]
      repeat' (first | apply Jbq | apply Jbr | apply Jbs | apply Jbt | apply Jbu | apply Jbv | apply Jbw | apply Jby | (refine Jce rfl ?_) | (apply Jcg; (first | exact Jaa rfl | exact Jab rfl | exact Jae rfl rfl | exact Jaj rfl); exact rfl) | (refine TL_call rfl en101 (in_f _ (by omega)) rfl rfl ?_; rintro _ _ ⟨rfl, rfl⟩) | (refine Jcg (Pu_build (cs := entC noE) rfl (by kernel_rfl)) rfl ?_) | (refine TL_storeAgg rfl rfl Sz.h rfl hbk rfl ?_; intro w5 c5 hz5 hb5))
      all_goals exact TR_of (resA2 rfl rfl rfl rfl hb5 Us.h rfl Sz.h) ⟨rfl, Ext.then_iv E c5 hgw⟩
    rw [if_neg h3]
    by_cases h4 : (b.length : Int) < a + 10 + n
    · rw [if_pos h4]
      repeat' (first | apply Jbq | apply Jbr | apply Jbs | apply Jbt | apply Jbu | apply Jbv | apply Jbw | apply Jby | (refine Jcf rfl ?_) | (apply Jcg; (first | exact Jaa rfl | exact Jab rfl | exact Jac Us.h rfl | exact Jad rfl rfl | exact Jae rfl rfl | exact Jaf rfl rfl (by omega) | exact Jaj rfl); exact rfl) | (refine TL_call rfl en101 (in_t _ (by omega)) rfl rfl ?_; rintro _ _ ⟨rfl, rfl⟩) | (refine Jcg (Pu_build (cs := entC noE) rfl (by kernel_rfl)) rfl ?_) | (refine TL_storeAgg rfl rfl Sz.h rfl hbk rfl ?_; intro w5 c5 hz5 hb5) | (refine Jcx rfl (fun hb => ?_) (fun hb => ?_) <;> (try (exfalso; omega))))
      all_goals exact TR_of (resA2 rfl rfl rfl rfl hb5 Us.h rfl Sz.h) ⟨rfl, Ext.then_iv E c5 hgw⟩
    rw [if_neg h4]
    by_cases h5 : num < 1 ∨ 1000000000 < num
    · rw [if_pos h5]
      repeat' (first | apply Jbq | apply Jbr | apply Jbs | apply Jbt | apply Jbu | apply Jbv | apply Jbw | apply Jby | (refine Jce rfl ?_) | (refine Jcf rfl ?_) | (apply Jcg; (first | exact Jaa rfl | exact Jab rfl | exact Jac Us.h rfl | exact Jad rfl rfl | exact Jae rfl rfl | exact Jaf rfl rfl (by omega) | exact Jaj rfl); exact rfl) | (refine TL_call rfl en101 (in_t _ (by omega)) rfl rfl ?_; rintro _ _ ⟨rfl, rfl⟩) | (refine TL_call rfl en101 (in_f _ (by omega)) rfl rfl ?_; rintro _ _ ⟨rfl, rfl⟩) | (refine Jcg (Pu_build (cs := entC noE) rfl (by kernel_rfl)) rfl ?_) | (refine TL_storeAgg rfl rfl Sz.h rfl hbk rfl ?_; intro w5 c5 hz5 hb5) | (refine Jcx rfl (fun hb => ?_) (fun hb => ?_) <;> (try (exfalso; omega))))
      all_goals exact TR_of (resA2 rfl rfl rfl rfl hb5 Us.h rfl Sz.h) ⟨rfl, Ext.then_iv E c5 hgw⟩
    rw [if_neg h5]
    obtain ⟨m, rfl⟩ := Int.eq_ofNat_of_zero_le hn0
    rw [Int.toNat_natCast]
    have hm := hs1.mid8 (a := (10 : Int)) (b := (10 : Int) + m) (by omega) hc1
    have htx : ((s.take ((10 : Int) + m).toNat).drop (10 : Int).toNat) = textAt b a m := by
      rw [seg_at (p := 10) (q := m) rfl (by omega), hs, List.drop_drop]; rfl
    rw [htx] at hm
    have htl : (textAt b a m).length = m := by unfold textAt; rw [List.length_take, List.length_drop]; omega
    have h6 := RB.to (k := 6) hs1 (by omega) hc1
    have hs6 : s.take (6 : Int).toNat = (b.drop a).take 6 := by rw [hs]; rfl
    have hl6 : ((b.drop a).take 6).length = 6 := by rw [List.length_take, List.length_drop]; omega
    rw [hs6] at h6
    obtain ⟨A6, c6, hv6, hc6, hr6⟩ := h6
    repeat' (first | apply Jbq | apply Jbr | apply Jbs | apply Jbt | apply Jbx | apply Jby | apply Jbz | (refine Jcf rfl ?_) | (apply Jcg; (first | exact Jaa rfl | exact Jab rfl | exact Jac Us.h rfl | exact Jad rfl rfl | exact Jae rfl rfl | exact Jaf rfl rfl (by omega) | exact Jaj rfl | exact Jbc Us.h Sz.h rfl rfl rfl (by omega) | exact Jbe Us.h Sz.h rfl rfl (by omega)); exact rfl) | (refine TL_call rfl en101 (in_t _ (by omega)) rfl rfl ?_; rintro _ _ ⟨rfl, rfl⟩) | (refine Jcx rfl (fun hb => ?_) (fun hb => ?_) <;> (try (exfalso; omega))))
    rw [hv6]
    refine TL_call rfl en71 (copyBytes_c hr6 (by omega)) rfl rfl ?_
    rintro _ w5 ⟨A5, c5, rfl, e5, ho5⟩
    have hmRB : RB w5 _ _ (.slice (cutA A1 c1 (10 : Int).toNat 1) (((10 : Int) + m).toNat - (10 : Int).toNat) (c1 - (10 : Int).toNat)) (textAt b a m) := ⟨_, _, by rw [htl]; congr 1; omega, by rw [htl]; omega, by rw [show (textAt b a m).length = ((10 : Int) + m).toNat - (10 : Int).toNat by rw [htl]; omega]; exact hm.ext e5⟩
    repeat' ((apply Jcg; exact Jaa rfl; exact rfl))
    refine TL_appendB Us.h rfl rfl ⟨_, _, rfl, ho5⟩ hmRB e5.size (by omega) rfl ?_
    intro w6 v6 c6' ho6
    have hE6 : Ext w4 w6 := Ext.then_iv e5 c6' (Nat.le_refl _)
    refine TL_call rfl en164 (implCrc32_k ho6.rd (by simp only [List.length_append]; omega)) rfl rfl ?_
    rintro _ w7 ⟨rfl, e7⟩
    replace hE6 := hE6.ext e7
    replace hbk := hbk.ext hE6
    replace E := E.ext hE6
    replace hm := hm.ext hE6
    repeat' (first | apply Jbq | apply Jbr | (apply Jcg; exact Jal rfl rfl; exact rfl))
    refine Jcy rfl (fun hne => ?_) (fun heq => ?_)
    · rw [if_pos hne]
      repeat' (first | apply Jbq | apply Jbr | apply Jbs | apply Jbt | apply Jbu | apply Jbv | (apply Jcg; exact Jab rfl; exact rfl) | (refine Jcg (Pu_build (cs := entC noE) rfl (by kernel_rfl)) rfl ?_) | (refine TL_storeAgg rfl rfl Sz.h rfl hbk rfl ?_; intro w8 c8 hz8 hb8))
      exact TR_of (resA2 rfl rfl rfl rfl hb8 Us.h rfl Sz.h) ⟨rfl, Ext.then_iv E c8 hgw⟩
    · rw [if_neg (fun q => q heq)]
      repeat' (first | apply Jbq | apply Jbr | apply Jbs | apply Jbt | apply Jbu | apply Jbz | (apply Jcg; (first | exact Jaa rfl | exact Jab rfl | exact Jaf rfl rfl (by omega)); exact rfl) | refine Jcg (Pu_string (s := textAt b a m) Us.h Us.h Us.h rfl (fun w' e => by rw [e]; exact ⟨_, _, hm⟩)) rfl ?_ | (refine Jcg (Pu_build (cs := entC (num, textAt b a m)) rfl (by kernel_rfl)) rfl ?_) | (refine TL_storeAgg rfl rfl Sz.h rfl hbk rfl ?_; intro w8 c8 hz8 hb8))
      exact TR_of (resA2 rfl rfl rfl rfl hb8 Us.h rfl Sz.h) ⟨rfl, Ext.then_iv E c8 hgw⟩
theorem specFrameRead_k {lo hi : Nat} {vb : Value} {b : List UInt8} {i : Int} {w : World} (hR : RB w lo hi vb b) (hl : b.length ≤ 1048576) (hi63 : -9223372036854775808 ≤ i ∧ i ≤ 9223372036854775807) :
    Ret Tryz.prog 154 #[vb, I i] w fun v w' => v = .tuple #[.agg (entC (pReadF b i).1).toArray, I (pReadF b i).2.1, I (pReadF b i).2.2] ∧ Ext w w' := specFrameRead_c hR hl hi63
theorem implFrameRead_k {lo hi : Nat} {vb : Value} {b : List UInt8} {i : Int} {w : World} (hR : RB w lo hi vb b) (hl : b.length ≤ 1048576) (hi63 : -9223372036854775808 ≤ i ∧ i ≤ 9223372036854775807) :
    Ret Tryz.prog 153 #[vb, I i] w fun v w' => v = .tuple #[.agg (entC (pReadF b i).1).toArray, I (pReadF b i).2.1, I (pReadF b i).2.2] ∧ Ext w w' := implFrameRead_c hR hl hi63
end Go.Proofs.YtggaghghclomkaaGreat

/- Contracts: lists of entries, whether they are right, the last ones. -/
namespace Go.Proofs.YtggaghghclomkaaGreat
open Go.RowKit
attribute [local irreducible] TL TC TN TX TR TQ TA Pu Ret

theorem ents_drop (l : List Ent) (k : Nat) : (ents l).drop (k * 2) = ents (l.drop k) := cellsL_drop entC_len l k
theorem ents_append (l m : List Ent) : ents (l ++ m) = ents l ++ ents m := cellsL_append l m
theorem ents_one (l : List Ent) : ∀ u ∈ ents l, u.oneCell' = true := cellsL_one entC_one l
theorem RE.from {w : World} {lo hi c : Nat} {A : Option Addr} {l : List Ent} {a : Int} (h : Rd w lo hi 2 A l.length (ents l)) (ha : 0 ≤ a ∧ a ≤ l.length) (hc : l.length ≤ c) :
    RE w lo hi (.slice (cutA A c a.toNat 2) (l.length - a.toNat) (c - a.toNat)) (l.drop a.toNat) := by
  have h2 := h.cut (a := a.toNat) (b := l.length) (c := c) (by omega) (Nat.le_refl _) hc
  rw [← ents_length l, List.take_length, ents_drop] at h2
  exact ⟨_, _, by rw [List.length_drop], by rw [List.length_drop]; omega, by rw [List.length_drop]; exact h2⟩
theorem OE_new {w1 : World} {g : Nat} {s : List Ent} {w : World} {n : Nat} (hs : s.length = n) (h : Own w1 g (g + 1) 82 2 (some ⟨g, 0, none⟩) n n (ents s)) (hg : g = w.heap.size) (hz : w1.heap.size = g + 1) : OE w1 w.heap.size w1.heap.size (.slice (some ⟨g, 0, none⟩) n n) s := by
  subst hs; exact ⟨_, _, rfl, h.wide (by omega) (by omega) (Nat.le_refl _)⟩
theorem fillE (e : Ent) : Instr.fill (fun i => some (i * 2, 2)) ((Array.range (1 * 2)).map ((Value.agg #[.int .i64 0, .string ByteArray.empty]).cells[· % (Value.agg #[.int .i64 0, .string ByteArray.empty]).cells.size]!)) [(0, .agg (entC e).toArray)] = some (ents [e]).toArray := by kernel_rfl
section
variable {P : Program} {L : List Oper} {Q : Exit → Act → World → Prop} {n d : Nat} {l : Env} {w : World} {rest : List Oper} {ty : TypeId} {pos : String} {af : Array Edge} {v v2 : Value} {x y : Operand} {t : TypeId}
/-- Own entries are appended to. -/
theorem TL_appendE {lo hi lo2 hi2 : Nat} {s s2 : List Ent} (ht : Tryz.prog.underlying t = some (.slice 82)) (hx : ev l x = some v) (hy : ev l y = some v2) (ho : OE w lo hi v s) (hr : RE w lo2 hi2 v2 s2)
    (hlo : lo ≤ w.heap.size) (hm : s.length + s2.length ≤ 1099511627776) (hn : Nat.blt d n = true)
    (h : ∀ w' v', Ch (Iv lo hi) w w' → OE w' lo w'.heap.size v' (s ++ s2) → TL Tryz.prog L Q rest n ((d, v') :: l) w') :
    TL Tryz.prog L Q (⟨some d, .call { callee := .builtin .append, args := #[x, y], argTypes := #[t, t] }, ty, pos, af, none⟩ :: rest) n l w := by
  obtain ⟨A, c, rfl, ho⟩ := ho
  obtain ⟨A2, c2, rfl, _, hr⟩ := hr
  refine TL_append ht inf82 rfl rfl hx hy ho hr (ents_one s2) hlo (by omega) (by omega) hn ?_
  intro w1 hi1 A1 c1 hch h1 h2 h3 hown
  have hz := hch.size
  have hh := ho.hi_le
  exact h w1 _ hch ⟨A1, c1, by rw [List.length_append], (hown.wide (Nat.le_refl _) (by omega) (Nat.le_refl _)).cast (by rw [List.length_append]) (ents_append _ _).symm⟩
end
set_option maxHeartbeats 2000000 in
theorem specEntriesOk_k {lo hi : Nat} {v : Value} {l : List Ent} {w : World} (hR : RE w lo hi v l) (hl : l.length ≤ 1048576) :
    Ret Tryz.prog 160 #[v] w fun v' w' => v' = .bool (pEntries l) ∧ Ext w w' := by
  obtain ⟨A, c, rfl, hc, hr⟩ := hR
  refine Ret_enter Tryz.func160 rfl rfl rfl ?_
  repeat' (first | apply Jbq | apply Jbr | apply Jbs | apply Jbt | apply Jby | (apply Jcg; (first | exact Jaa rfl | exact Jab rfl | exact Jac Us.h rfl); exact rfl))
  refine TC_loop (ι := Nat) (fun k => [(0, .slice A l.length c), (5, .slice A l.length c), (6, I l.length), (7, I k)]) (fun k w' => k ≤ l.length ∧ entsOkTo l k ∧ Ext w w') (fun k => l.length - k) 0 (subEnv_cons rfl (subEnv_cons rfl (subEnv_cons rfl (subEnv_cons rfl (subEnv_nil _))))) ⟨Nat.zero_le _, entsOkTo_zero l, Ch.refl _ _⟩ ?_
  intro k w2 ⟨hk, hok, e2⟩
  repeat' (first | apply Jbq | apply Jbr | apply Jbs | apply Jbt | (apply Jcg; exact Jad rfl rfl; exact rfl))
  refine Jcx rfl (fun hlt => ?_) (fun hge => ?_)
  · have hlt : k < l.length := by omega
    obtain ⟨ad, rfl, hcell⟩ := Rd.elem entC_len (hr.ext e2) hlt
    repeat' (first | apply Jbq | apply Jbr | apply Jbs | apply Jbt | apply Jby | apply Jbz | (apply Jcg; (first | exact Jaa rfl | exact Jab rfl | exact Jar Us.h Sz.h rfl rfl (by omega)); exact rfl) | refine Jcg (Pu_loadAgg (cs := entC l[k]) Us.h rfl Sz.h rfl (fun _ e j u hu => by rw [e]; exact hcell j u hu)) rfl ?_ | (refine TL_alloc Zs.h rfl rfl ?_; intro w3 g3 e3 hg3 hz3 hb3) | (refine TL_storeAgg rfl rfl Sz.h rfl hb3 rfl ?_; intro w4 c4 hz4 hb4))
    have E4 : Ext w w4 := Ext.then_iv (e2.ext e3) c4 (by have := e2.size; omega)
    have hdk : ∀ w', Ext w4 w' → ∀ j u, (entC l[k])[j]? = some u → w'.cell? ((⟨g3, 0, none⟩ : Addr).add j) = some u := fun w' e j u hu => by rw [add0]; exact (e.cell ((hb4.cell j).trans hu))
    cases hp : pEntry l[k].1 l[k].2 with
    | false =>
      refine TC_any mixed rfl ?_
      intro w5 hE hz5
      (refine Jco 0 rfl (by kernel_rfl) (by kernel_rfl) (by kernel_rfl) (fun _ _ _ h => h) hE (by exact Pu_loadAgg (cs := entC l[k]) Us.h rfl Sz.h rfl hdk) rfl ?_)
      refine TA_one 1 (by kernel_rfl) rfl ?_
      refine TL_call rfl en165 (specEntryOk_c l[k].1 l[k].2 _) rfl rfl ?_
      rintro _ w6 ⟨rfl, e6⟩
      rw [hp]
      replace hE := hE.ext e6
      refine Jbq (TN_any hE ?_)
      (refine Jco 2 rfl (by kernel_rfl) (by kernel_rfl) (by kernel_rfl) (fun _ _ _ h => h) hE (by exact Jaj rfl) rfl ?_; refine Jco 3 rfl (by kernel_rfl) (by kernel_rfl) (by kernel_rfl) (fun _ _ _ h => h) hE (by exact Jaa rfl) rfl ?_; refine Jcq 4 rfl (by kernel_rfl) (by kernel_rfl) (by kernel_rfl) (fun _ _ _ h => h) hE rfl rfl rfl rfl rfl ?_; refine Jcq 5 rfl (by kernel_rfl) (by kernel_rfl) (by kernel_rfl) (fun _ _ _ h => h) hE rfl rfl rfl rfl rfl ?_; refine Jcq 6 rfl (by kernel_rfl) (by kernel_rfl) (by kernel_rfl) (fun _ _ _ h => h) hE rfl rfl rfl rfl rfl ?_; refine TA_pass_undef 7 rfl (by kernel_rfl) (by kernel_rfl) (by kernel_rfl) (fun _ _ _ h => h) hE rfl rfl rfl rfl ?_; refine TA_pass_undef 8 rfl (by kernel_rfl) (by kernel_rfl) (by kernel_rfl) (fun _ _ _ h => h) hE rfl rfl rfl rfl ?_; refine TA_pass_undef 9 rfl (by kernel_rfl) (by kernel_rfl) (by kernel_rfl) (fun _ _ _ h => h) hE rfl rfl rfl rfl ?_; refine TA_pass_undef 10 rfl (by kernel_rfl) (by kernel_rfl) (by kernel_rfl) (fun _ _ _ h => h) hE rfl rfl rfl rfl ?_; refine TA_pass_undef 11 rfl (by kernel_rfl) (by kernel_rfl) (by kernel_rfl) (fun _ _ _ h => h) hE rfl rfl rfl rfl ?_; refine TA_pass_undef 12 rfl (by kernel_rfl) (by kernel_rfl) (by kernel_rfl) (fun _ _ _ h => h) hE rfl rfl rfl rfl ?_; refine TA_pass_undef 13 rfl (by kernel_rfl) (by kernel_rfl) (by kernel_rfl) (fun _ _ _ h => h) hE rfl rfl rfl rfl ?_; refine TA_pass_undef 14 rfl (by kernel_rfl) (by kernel_rfl) (by kernel_rfl) (fun _ _ _ h => h) hE rfl rfl rfl rfl ?_; refine TA_pass_undef 15 rfl (by kernel_rfl) (by kernel_rfl) (by kernel_rfl) (fun _ _ _ h => h) hE rfl rfl rfl rfl ?_; refine TA_pass_undef 16 rfl (by kernel_rfl) (by kernel_rfl) (by kernel_rfl) (fun _ _ _ h => h) hE rfl rfl rfl rfl ?_; refine Jcq 17 rfl (by kernel_rfl) (by kernel_rfl) (by kernel_rfl) (fun _ _ _ h => h) hE rfl rfl rfl rfl rfl ?_; refine Jco 18 rfl (by kernel_rfl) (by kernel_rfl) (by kernel_rfl) (fun _ _ _ h => h) hE (by exact Jah rfl rfl) rfl ?_)
      refine TA_done (by kernel_rfl) ?_
      rw [pEntries_not (fun q => by have := q.1 k hlt hlt; rw [hp] at this; cases this)]
      repeat' (first | apply Jbq | apply Jbr | apply Jbs | apply Jbt | apply Jbu | apply Jbv | apply Jbw | (refine Jce rfl ?_) | (apply Jcg; exact Jab rfl; exact rfl))
      exact TR_of (res1 rfl rfl) ⟨rfl, E4.ext hE⟩
    | true =>
      have hb := pEntry_iff.1 hp
      by_cases hk0 : 0 < k
      · obtain ⟨_, h8, hcell2⟩ := Rd.elem entC_len (hr.ext E4) (show k - 1 < l.length by omega)
        injection h8 with h8
        subst h8
        have hpb := pEntry_iff.1 (hok.1 (k - 1) (by omega) (by omega))
        have hc1 : w4.cell? ((ad.add (((k : Int) - 1).toNat * 2)).add 0) = some (I (l[k - 1]'(by omega)).1) := by
          rw [show ((k : Int) - 1).toNat = k - 1 by omega]; exact hcell2 0 _ rfl
        have hkp : (0 : Int) < (k : Int) := by omega
        refine TC_any mixed rfl ?_
        intro w5 hE hz5
        (refine Jco 0 rfl (by kernel_rfl) (by kernel_rfl) (by kernel_rfl) (fun _ _ _ h => h) hE (by exact Pu_loadAgg (cs := entC l[k]) Us.h rfl Sz.h rfl hdk) rfl ?_)
        refine TA_one 1 (by kernel_rfl) rfl ?_
        refine TL_call rfl en165 (specEntryOk_c l[k].1 l[k].2 _) rfl rfl ?_
        rintro _ w6 ⟨rfl, e6⟩
        rw [hp]
        replace hE := hE.ext e6
        refine Jbq (TN_any hE ?_)
        (refine Jco 2 rfl (by kernel_rfl) (by kernel_rfl) (by kernel_rfl) (fun _ _ _ h => h) hE (by exact Jaj rfl) rfl ?_; refine Jco 3 rfl (by kernel_rfl) (by kernel_rfl) (by kernel_rfl) (fun _ _ _ h => h) hE (by exact Jaa rfl) rfl ?_; refine Jcp 4 rfl (by kernel_rfl) (by kernel_rfl) (by kernel_rfl) (fun _ _ _ h => h) hE rfl rfl rfl (by exact Jaa rfl) rfl ?_; refine Jcp 5 rfl (by kernel_rfl) (by kernel_rfl) (by kernel_rfl) (fun _ _ _ h => h) hE rfl rfl rfl (by exact Jam rfl rfl) rfl ?_; refine Jcp 6 rfl (by kernel_rfl) (by kernel_rfl) (by kernel_rfl) (fun _ _ _ h => h) hE rfl rfl rfl (by exact Jaa rfl) rfl ?_)
        rw [decide_eq_true hkp]
        (refine Jcp 7 rfl (by kernel_rfl) (by kernel_rfl) (by kernel_rfl) (fun _ _ _ h => h) hE rfl rfl rfl (by (apply Jbl; exact Us.h; exact rfl; exact Sz.h; exact rfl)) rfl ?_; refine Jcp 8 rfl (by kernel_rfl) (by kernel_rfl) (by kernel_rfl) (fun _ _ _ h => h) hE rfl rfl rfl (by exact Pu_load Fl.h rfl (fun _ e => Ext.cell e (hb4.ld (off := 0) rfl))) rfl ?_; refine Jcp 9 rfl (by kernel_rfl) (by kernel_rfl) (by kernel_rfl) (fun _ _ _ h => h) hE rfl rfl rfl (by exact Jap rfl rfl (by omega)) rfl ?_; refine Jcp 10 rfl (by kernel_rfl) (by kernel_rfl) (by kernel_rfl) (fun _ _ _ h => h) hE rfl rfl rfl (by exact Jaa rfl) rfl ?_; refine Jcp 11 rfl (by kernel_rfl) (by kernel_rfl) (by kernel_rfl) (fun _ _ _ h => h) hE rfl rfl rfl (by exact Jaa rfl) rfl ?_; refine Jcp 12 rfl (by kernel_rfl) (by kernel_rfl) (by kernel_rfl) (fun _ _ _ h => h) hE rfl rfl rfl (by exact Jap rfl rfl (by omega)) rfl ?_; refine Jcp 13 rfl (by kernel_rfl) (by kernel_rfl) (by kernel_rfl) (fun _ _ _ h => h) hE rfl rfl rfl (by exact Jar Us.h Sz.h rfl rfl (by omega)) rfl ?_; refine Jcp 14 rfl (by kernel_rfl) (by kernel_rfl) (by kernel_rfl) (fun _ _ _ h => h) hE rfl rfl rfl (by (apply Jbl; exact Us.h; exact rfl; exact Sz.h; exact rfl)) rfl ?_; refine Jcp 15 rfl (by kernel_rfl) (by kernel_rfl) (by kernel_rfl) (fun _ _ _ h => h) hE rfl rfl rfl (by exact Pu_load Fl.h rfl (fun _ e => Ext.cell e hc1)) rfl ?_; refine Jcp 16 rfl (by kernel_rfl) (by kernel_rfl) (by kernel_rfl) (fun _ _ _ h => h) hE rfl rfl rfl (by exact Jal rfl rfl) rfl ?_; refine Jcp 17 rfl (by kernel_rfl) (by kernel_rfl) (by kernel_rfl) (fun _ _ _ h => h) hE rfl rfl rfl (by exact Jah rfl rfl) rfl ?_; refine Jco 18 rfl (by kernel_rfl) (by kernel_rfl) (by kernel_rfl) (fun _ _ _ h => h) hE (by exact Jai rfl rfl) rfl ?_)
        refine TA_done (by kernel_rfl) ?_
        repeat' (apply Jbr)
        refine Jcy rfl (fun hne => ?_) (fun heq => ?_)
        · rw [pEntries_not (fun q => by
            have := q.2 (k - 1) (by omega) (by omega)
            simp only [show k - 1 + 1 = k by omega] at this
            omega)]
          repeat' (first | apply Jbq | apply Jbr | apply Jbs | apply Jbt | apply Jbu | apply Jbv | apply Jbw | (apply Jcg; exact Jab rfl; exact rfl))
          exact TR_of (res1 rfl rfl) ⟨rfl, E4.ext hE⟩
        · repeat' (first | apply Jbq | apply Jbr | apply Jbt | apply Jbx | apply Jbz | (apply Jcg; (first | exact Jaa rfl | exact Jaf rfl rfl (by omega)); exact rfl))
          exact TN_round (k + 1) (subEnv_cons rfl (subEnv_cons rfl (subEnv_cons rfl (subEnv_cons rfl (subEnv_nil _))))) ⟨hlt, entsOkTo_succ hok hlt hp (fun _ => by omega), E4.ext hE⟩ (by omega)
      · obtain rfl : k = 0 := by omega
        refine TC_any mixed rfl ?_
        intro w5 hE hz5
        (refine Jco 0 rfl (by kernel_rfl) (by kernel_rfl) (by kernel_rfl) (fun _ _ _ h => h) hE (by exact Pu_loadAgg (cs := entC l[0]) Us.h rfl Sz.h rfl hdk) rfl ?_)
        refine TA_one 1 (by kernel_rfl) rfl ?_
        refine TL_call rfl en165 (specEntryOk_c l[0].1 l[0].2 _) rfl rfl ?_
        rintro _ w6 ⟨rfl, e6⟩
        rw [hp]
        replace hE := hE.ext e6
        refine Jbq (TN_any hE ?_)
        (refine Jco 2 rfl (by kernel_rfl) (by kernel_rfl) (by kernel_rfl) (fun _ _ _ h => h) hE (by exact Jaj rfl) rfl ?_; refine Jco 3 rfl (by kernel_rfl) (by kernel_rfl) (by kernel_rfl) (fun _ _ _ h => h) hE (by exact Jaa rfl) rfl ?_; refine Jcp 4 rfl (by kernel_rfl) (by kernel_rfl) (by kernel_rfl) (fun _ _ _ h => h) hE rfl rfl rfl (by exact Jaa rfl) rfl ?_; refine Jcp 5 rfl (by kernel_rfl) (by kernel_rfl) (by kernel_rfl) (fun _ _ _ h => h) hE rfl rfl rfl (by exact Jam rfl rfl) rfl ?_; refine Jcp 6 rfl (by kernel_rfl) (by kernel_rfl) (by kernel_rfl) (fun _ _ _ h => h) hE rfl rfl rfl (by exact Jaa rfl) rfl ?_; refine Jcq 7 rfl (by kernel_rfl) (by kernel_rfl) (by kernel_rfl) (fun _ _ _ h => h) hE rfl rfl rfl rfl rfl ?_; refine Jcq 8 rfl (by kernel_rfl) (by kernel_rfl) (by kernel_rfl) (fun _ _ _ h => h) hE rfl rfl rfl rfl rfl ?_; refine Jcq 9 rfl (by kernel_rfl) (by kernel_rfl) (by kernel_rfl) (fun _ _ _ h => h) hE rfl rfl rfl rfl rfl ?_; refine Jcq 10 rfl (by kernel_rfl) (by kernel_rfl) (by kernel_rfl) (fun _ _ _ h => h) hE rfl rfl rfl rfl rfl ?_; refine Jcq 11 rfl (by kernel_rfl) (by kernel_rfl) (by kernel_rfl) (fun _ _ _ h => h) hE rfl rfl rfl rfl rfl ?_; refine Jcq 12 rfl (by kernel_rfl) (by kernel_rfl) (by kernel_rfl) (fun _ _ _ h => h) hE rfl rfl rfl rfl rfl ?_; refine Jcq 13 rfl (by kernel_rfl) (by kernel_rfl) (by kernel_rfl) (fun _ _ _ h => h) hE rfl rfl rfl rfl rfl ?_; refine Jcq 14 rfl (by kernel_rfl) (by kernel_rfl) (by kernel_rfl) (fun _ _ _ h => h) hE rfl rfl rfl rfl rfl ?_; refine Jcq 15 rfl (by kernel_rfl) (by kernel_rfl) (by kernel_rfl) (fun _ _ _ h => h) hE rfl rfl rfl rfl rfl ?_; refine Jcq 16 rfl (by kernel_rfl) (by kernel_rfl) (by kernel_rfl) (fun _ _ _ h => h) hE rfl rfl rfl rfl rfl ?_; refine Jcp 17 rfl (by kernel_rfl) (by kernel_rfl) (by kernel_rfl) (fun _ _ _ h => h) hE rfl rfl rfl (by exact Jai rfl rfl) rfl ?_; refine Jco 18 rfl (by kernel_rfl) (by kernel_rfl) (by kernel_rfl) (fun _ _ _ h => h) hE (by exact Jai rfl rfl) rfl ?_)
        refine TA_done (by kernel_rfl) ?_
        repeat' (first | apply Jbq | apply Jbr | apply Jbt | apply Jbx | apply Jbz | (refine Jcf rfl ?_) | (apply Jcg; (first | exact Jaa rfl | exact Jaf rfl rfl (by omega)); exact rfl))
        exact TN_round 1 (subEnv_cons rfl (subEnv_cons rfl (subEnv_cons rfl (subEnv_cons rfl (subEnv_nil _))))) ⟨hlt, entsOkTo_succ hok hlt hp (fun q => by omega), E4.ext hE⟩ (by omega)
  · obtain rfl : k = l.length := by omega
    rw [pEntries_iff.2 hok]
    repeat' (first | apply Jbq | apply Jbr | apply Jbs | apply Jbt | apply Jbu | apply Jca | apply Jcb | apply Jcc | (apply Jcg; exact Jab rfl; exact rfl))
    exact TR_of (res1 rfl rfl) ⟨rfl, e2⟩
set_option maxHeartbeats 2000000 in
theorem implEntriesOk_k {lo hi : Nat} {v : Value} {l : List Ent} {w : World} (hR : RE w lo hi v l) (hl : l.length ≤ 1048576) :
    Ret Tryz.prog 109 #[v] w fun v' w' => v' = .bool (pEntries l) ∧ Ext w w' := by
  obtain ⟨A, c, rfl, hc, hr⟩ := hR
  refine Ret_enter Tryz.func109 rfl rfl rfl ?_
  repeat' (first | apply Jbq | apply Jbr | apply Jbs | apply Jbt | apply Jby | (apply Jcg; (first | exact Jaa rfl | exact Jab rfl | exact Jac Us.h rfl); exact rfl))
  refine TC_loop (ι := Nat) (fun k => [(0, .slice A l.length c), (5, .slice A l.length c), (6, I l.length), (7, I k)]) (fun k w' => k ≤ l.length ∧ entsOkTo l k ∧ Ext w w') (fun k => l.length - k) 0 (subEnv_cons rfl (subEnv_cons rfl (subEnv_cons rfl (subEnv_cons rfl (subEnv_nil _))))) ⟨Nat.zero_le _, entsOkTo_zero l, Ch.refl _ _⟩ ?_
  intro k w2 ⟨hk, hok, e2⟩
  repeat' (first | apply Jbq | apply Jbr | apply Jbs | apply Jbt | (apply Jcg; exact Jad rfl rfl; exact rfl))
  refine Jcx rfl (fun hlt => ?_) (fun hge => ?_)
  · have hlt : k < l.length := by omega
    obtain ⟨ad, rfl, hcell⟩ := Rd.elem entC_len (hr.ext e2) hlt
    repeat' (first | apply Jbq | apply Jbr | apply Jbs | apply Jbt | apply Jby | apply Jbz | (apply Jcg; (first | exact Jaa rfl | exact Jab rfl | exact Jar Us.h Sz.h rfl rfl (by omega)); exact rfl) | refine Jcg (Pu_loadAgg (cs := entC l[k]) Us.h rfl Sz.h rfl (fun _ e j u hu => by rw [e]; exact hcell j u hu)) rfl ?_ | (refine TL_alloc Zs.h rfl rfl ?_; intro w3 g3 e3 hg3 hz3 hb3) | (refine TL_storeAgg rfl rfl Sz.h rfl hb3 rfl ?_; intro w4 c4 hz4 hb4))
    have E4 : Ext w w4 := Ext.then_iv (e2.ext e3) c4 (by have := e2.size; omega)
    have hdk : ∀ w', Ext w4 w' → ∀ j u, (entC l[k])[j]? = some u → w'.cell? ((⟨g3, 0, none⟩ : Addr).add j) = some u := fun w' e j u hu => by rw [add0]; exact (e.cell ((hb4.cell j).trans hu))
    cases hp : pEntry l[k].1 l[k].2 with
    | false =>
      refine TC_any mixed rfl ?_
      intro w5 hE hz5
      (refine Jco 0 rfl (by kernel_rfl) (by kernel_rfl) (by kernel_rfl) (fun _ _ _ h => h) hE (by exact Pu_loadAgg (cs := entC l[k]) Us.h rfl Sz.h rfl hdk) rfl ?_)
      refine TA_one 1 (by kernel_rfl) rfl ?_
      refine TL_call rfl en155 (implEntryOk_c l[k].1 l[k].2 _) rfl rfl ?_
      rintro _ w6 ⟨rfl, e6⟩
      rw [hp]
      replace hE := hE.ext e6
      refine Jbq (TN_any hE ?_)
      (refine Jco 2 rfl (by kernel_rfl) (by kernel_rfl) (by kernel_rfl) (fun _ _ _ h => h) hE (by exact Jaj rfl) rfl ?_; refine Jco 3 rfl (by kernel_rfl) (by kernel_rfl) (by kernel_rfl) (fun _ _ _ h => h) hE (by exact Jaa rfl) rfl ?_; refine Jcq 4 rfl (by kernel_rfl) (by kernel_rfl) (by kernel_rfl) (fun _ _ _ h => h) hE rfl rfl rfl rfl rfl ?_; refine Jcq 5 rfl (by kernel_rfl) (by kernel_rfl) (by kernel_rfl) (fun _ _ _ h => h) hE rfl rfl rfl rfl rfl ?_; refine Jcq 6 rfl (by kernel_rfl) (by kernel_rfl) (by kernel_rfl) (fun _ _ _ h => h) hE rfl rfl rfl rfl rfl ?_; refine TA_pass_undef 7 rfl (by kernel_rfl) (by kernel_rfl) (by kernel_rfl) (fun _ _ _ h => h) hE rfl rfl rfl rfl ?_; refine TA_pass_undef 8 rfl (by kernel_rfl) (by kernel_rfl) (by kernel_rfl) (fun _ _ _ h => h) hE rfl rfl rfl rfl ?_; refine TA_pass_undef 9 rfl (by kernel_rfl) (by kernel_rfl) (by kernel_rfl) (fun _ _ _ h => h) hE rfl rfl rfl rfl ?_; refine TA_pass_undef 10 rfl (by kernel_rfl) (by kernel_rfl) (by kernel_rfl) (fun _ _ _ h => h) hE rfl rfl rfl rfl ?_; refine TA_pass_undef 11 rfl (by kernel_rfl) (by kernel_rfl) (by kernel_rfl) (fun _ _ _ h => h) hE rfl rfl rfl rfl ?_; refine TA_pass_undef 12 rfl (by kernel_rfl) (by kernel_rfl) (by kernel_rfl) (fun _ _ _ h => h) hE rfl rfl rfl rfl ?_; refine TA_pass_undef 13 rfl (by kernel_rfl) (by kernel_rfl) (by kernel_rfl) (fun _ _ _ h => h) hE rfl rfl rfl rfl ?_; refine TA_pass_undef 14 rfl (by kernel_rfl) (by kernel_rfl) (by kernel_rfl) (fun _ _ _ h => h) hE rfl rfl rfl rfl ?_; refine TA_pass_undef 15 rfl (by kernel_rfl) (by kernel_rfl) (by kernel_rfl) (fun _ _ _ h => h) hE rfl rfl rfl rfl ?_; refine TA_pass_undef 16 rfl (by kernel_rfl) (by kernel_rfl) (by kernel_rfl) (fun _ _ _ h => h) hE rfl rfl rfl rfl ?_; refine Jcq 17 rfl (by kernel_rfl) (by kernel_rfl) (by kernel_rfl) (fun _ _ _ h => h) hE rfl rfl rfl rfl rfl ?_; refine Jco 18 rfl (by kernel_rfl) (by kernel_rfl) (by kernel_rfl) (fun _ _ _ h => h) hE (by exact Jah rfl rfl) rfl ?_)
      refine TA_done (by kernel_rfl) ?_
      rw [pEntries_not (fun q => by have := q.1 k hlt hlt; rw [hp] at this; cases this)]
      repeat' (first | apply Jbq | apply Jbr | apply Jbs | apply Jbt | apply Jbu | apply Jbv | apply Jbw | (refine Jce rfl ?_) | (apply Jcg; exact Jab rfl; exact rfl))
      exact TR_of (res1 rfl rfl) ⟨rfl, E4.ext hE⟩
    | true =>
      have hb := pEntry_iff.1 hp
      by_cases hk0 : 0 < k
      · obtain ⟨_, h8, hcell2⟩ := Rd.elem entC_len (hr.ext E4) (show k - 1 < l.length by omega)
        injection h8 with h8
        subst h8
        have hpb := pEntry_iff.1 (hok.1 (k - 1) (by omega) (by omega))
        have hc1 : w4.cell? ((ad.add (((k : Int) - 1).toNat * 2)).add 0) = some (I (l[k - 1]'(by omega)).1) := by
          rw [show ((k : Int) - 1).toNat = k - 1 by omega]; exact hcell2 0 _ rfl
        have hkp : (0 : Int) < (k : Int) := by omega
        refine TC_any mixed rfl ?_
        intro w5 hE hz5
        (refine Jco 0 rfl (by kernel_rfl) (by kernel_rfl) (by kernel_rfl) (fun _ _ _ h => h) hE (by exact Pu_loadAgg (cs := entC l[k]) Us.h rfl Sz.h rfl hdk) rfl ?_)
        refine TA_one 1 (by kernel_rfl) rfl ?_
        refine TL_call rfl en155 (implEntryOk_c l[k].1 l[k].2 _) rfl rfl ?_
        rintro _ w6 ⟨rfl, e6⟩
        rw [hp]
        replace hE := hE.ext e6
        refine Jbq (TN_any hE ?_)
        (refine Jco 2 rfl (by kernel_rfl) (by kernel_rfl) (by kernel_rfl) (fun _ _ _ h => h) hE (by exact Jaj rfl) rfl ?_; refine Jco 3 rfl (by kernel_rfl) (by kernel_rfl) (by kernel_rfl) (fun _ _ _ h => h) hE (by exact Jaa rfl) rfl ?_; refine Jcp 4 rfl (by kernel_rfl) (by kernel_rfl) (by kernel_rfl) (fun _ _ _ h => h) hE rfl rfl rfl (by exact Jaa rfl) rfl ?_; refine Jcp 5 rfl (by kernel_rfl) (by kernel_rfl) (by kernel_rfl) (fun _ _ _ h => h) hE rfl rfl rfl (by exact Jam rfl rfl) rfl ?_; refine Jcp 6 rfl (by kernel_rfl) (by kernel_rfl) (by kernel_rfl) (fun _ _ _ h => h) hE rfl rfl rfl (by exact Jaa rfl) rfl ?_)
        rw [decide_eq_true hkp]
        (refine Jcp 7 rfl (by kernel_rfl) (by kernel_rfl) (by kernel_rfl) (fun _ _ _ h => h) hE rfl rfl rfl (by exact Jaa rfl) rfl ?_; refine Jcp 8 rfl (by kernel_rfl) (by kernel_rfl) (by kernel_rfl) (fun _ _ _ h => h) hE rfl rfl rfl (by exact Jaa rfl) rfl ?_; refine Jcp 9 rfl (by kernel_rfl) (by kernel_rfl) (by kernel_rfl) (fun _ _ _ h => h) hE rfl rfl rfl (by exact Jap rfl rfl (by omega)) rfl ?_; refine Jcp 10 rfl (by kernel_rfl) (by kernel_rfl) (by kernel_rfl) (fun _ _ _ h => h) hE rfl rfl rfl (by exact Jar Us.h Sz.h rfl rfl (by omega)) rfl ?_; refine Jcp 11 rfl (by kernel_rfl) (by kernel_rfl) (by kernel_rfl) (fun _ _ _ h => h) hE rfl rfl rfl (by (apply Jbl; exact Us.h; exact rfl; exact Sz.h; exact rfl)) rfl ?_; refine Jcp 12 rfl (by kernel_rfl) (by kernel_rfl) (by kernel_rfl) (fun _ _ _ h => h) hE rfl rfl rfl (by exact Pu_load Fl.h rfl (fun _ e => Ext.cell e hc1)) rfl ?_; refine Jcp 13 rfl (by kernel_rfl) (by kernel_rfl) (by kernel_rfl) (fun _ _ _ h => h) hE rfl rfl rfl (by exact Jaf rfl rfl (by omega)) rfl ?_; refine Jcp 14 rfl (by kernel_rfl) (by kernel_rfl) (by kernel_rfl) (fun _ _ _ h => h) hE rfl rfl rfl (by (apply Jbl; exact Us.h; exact rfl; exact Sz.h; exact rfl)) rfl ?_; refine Jcp 15 rfl (by kernel_rfl) (by kernel_rfl) (by kernel_rfl) (fun _ _ _ h => h) hE rfl rfl rfl (by exact Pu_load Fl.h rfl (fun _ e => Ext.cell e (hb4.ld (off := 0) rfl))) rfl ?_; refine Jcp 16 rfl (by kernel_rfl) (by kernel_rfl) (by kernel_rfl) (fun _ _ _ h => h) hE rfl rfl rfl (by exact Jal rfl rfl) rfl ?_; refine Jcp 17 rfl (by kernel_rfl) (by kernel_rfl) (by kernel_rfl) (fun _ _ _ h => h) hE rfl rfl rfl (by exact Jah rfl rfl) rfl ?_; refine Jco 18 rfl (by kernel_rfl) (by kernel_rfl) (by kernel_rfl) (fun _ _ _ h => h) hE (by exact Jai rfl rfl) rfl ?_)
        refine TA_done (by kernel_rfl) ?_
        repeat' (apply Jbr)
        refine Jcy rfl (fun hne => ?_) (fun heq => ?_)
        · rw [pEntries_not (fun q => by
            have := q.2 (k - 1) (by omega) (by omega)
            simp only [show k - 1 + 1 = k by omega] at this
            omega)]
          repeat' (first | apply Jbq | apply Jbr | apply Jbs | apply Jbt | apply Jbu | apply Jbv | apply Jbw | (apply Jcg; exact Jab rfl; exact rfl))
          exact TR_of (res1 rfl rfl) ⟨rfl, E4.ext hE⟩
        · repeat' (first | apply Jbq | apply Jbr | apply Jbt | apply Jbx | apply Jbz | (apply Jcg; (first | exact Jaa rfl | exact Jaf rfl rfl (by omega)); exact rfl))
          exact TN_round (k + 1) (subEnv_cons rfl (subEnv_cons rfl (subEnv_cons rfl (subEnv_cons rfl (subEnv_nil _))))) ⟨hlt, entsOkTo_succ hok hlt hp (fun _ => by omega), E4.ext hE⟩ (by omega)
      · obtain rfl : k = 0 := by omega
        refine TC_any mixed rfl ?_
        intro w5 hE hz5
        (refine Jco 0 rfl (by kernel_rfl) (by kernel_rfl) (by kernel_rfl) (fun _ _ _ h => h) hE (by exact Pu_loadAgg (cs := entC l[0]) Us.h rfl Sz.h rfl hdk) rfl ?_)
        refine TA_one 1 (by kernel_rfl) rfl ?_
        refine TL_call rfl en155 (implEntryOk_c l[0].1 l[0].2 _) rfl rfl ?_
        rintro _ w6 ⟨rfl, e6⟩
        rw [hp]
        replace hE := hE.ext e6
        refine Jbq (TN_any hE ?_)
        (refine Jco 2 rfl (by kernel_rfl) (by kernel_rfl) (by kernel_rfl) (fun _ _ _ h => h) hE (by exact Jaj rfl) rfl ?_; refine Jco 3 rfl (by kernel_rfl) (by kernel_rfl) (by kernel_rfl) (fun _ _ _ h => h) hE (by exact Jaa rfl) rfl ?_; refine Jcp 4 rfl (by kernel_rfl) (by kernel_rfl) (by kernel_rfl) (fun _ _ _ h => h) hE rfl rfl rfl (by exact Jaa rfl) rfl ?_; refine Jcp 5 rfl (by kernel_rfl) (by kernel_rfl) (by kernel_rfl) (fun _ _ _ h => h) hE rfl rfl rfl (by exact Jam rfl rfl) rfl ?_; refine Jcp 6 rfl (by kernel_rfl) (by kernel_rfl) (by kernel_rfl) (fun _ _ _ h => h) hE rfl rfl rfl (by exact Jaa rfl) rfl ?_; refine Jcq 7 rfl (by kernel_rfl) (by kernel_rfl) (by kernel_rfl) (fun _ _ _ h => h) hE rfl rfl rfl rfl rfl ?_; refine Jcq 8 rfl (by kernel_rfl) (by kernel_rfl) (by kernel_rfl) (fun _ _ _ h => h) hE rfl rfl rfl rfl rfl ?_; refine Jcq 9 rfl (by kernel_rfl) (by kernel_rfl) (by kernel_rfl) (fun _ _ _ h => h) hE rfl rfl rfl rfl rfl ?_; refine Jcq 10 rfl (by kernel_rfl) (by kernel_rfl) (by kernel_rfl) (fun _ _ _ h => h) hE rfl rfl rfl rfl rfl ?_; refine Jcq 11 rfl (by kernel_rfl) (by kernel_rfl) (by kernel_rfl) (fun _ _ _ h => h) hE rfl rfl rfl rfl rfl ?_; refine Jcq 12 rfl (by kernel_rfl) (by kernel_rfl) (by kernel_rfl) (fun _ _ _ h => h) hE rfl rfl rfl rfl rfl ?_; refine Jcq 13 rfl (by kernel_rfl) (by kernel_rfl) (by kernel_rfl) (fun _ _ _ h => h) hE rfl rfl rfl rfl rfl ?_; refine Jcq 14 rfl (by kernel_rfl) (by kernel_rfl) (by kernel_rfl) (fun _ _ _ h => h) hE rfl rfl rfl rfl rfl ?_; refine Jcq 15 rfl (by kernel_rfl) (by kernel_rfl) (by kernel_rfl) (fun _ _ _ h => h) hE rfl rfl rfl rfl rfl ?_; refine Jcq 16 rfl (by kernel_rfl) (by kernel_rfl) (by kernel_rfl) (fun _ _ _ h => h) hE rfl rfl rfl rfl rfl ?_; refine Jcp 17 rfl (by kernel_rfl) (by kernel_rfl) (by kernel_rfl) (fun _ _ _ h => h) hE rfl rfl rfl (by exact Jai rfl rfl) rfl ?_; refine Jco 18 rfl (by kernel_rfl) (by kernel_rfl) (by kernel_rfl) (fun _ _ _ h => h) hE (by exact Jai rfl rfl) rfl ?_)
        refine TA_done (by kernel_rfl) ?_
        repeat' (first | apply Jbq | apply Jbr | apply Jbt | apply Jbx | apply Jbz | (refine Jcf rfl ?_) | (apply Jcg; (first | exact Jaa rfl | exact Jaf rfl rfl (by omega)); exact rfl))
        exact TN_round 1 (subEnv_cons rfl (subEnv_cons rfl (subEnv_cons rfl (subEnv_cons rfl (subEnv_nil _))))) ⟨hlt, entsOkTo_succ hok hlt hp (fun q => by omega), E4.ext hE⟩ (by omega)
  · obtain rfl : k = l.length := by omega
    rw [pEntries_iff.2 hok]
    repeat' (first | apply Jbq | apply Jbr | apply Jbs | apply Jbt | apply Jbu | apply Jca | apply Jcb | apply Jcc | (apply Jcg; exact Jab rfl; exact rfl))
    exact TR_of (res1 rfl rfl) ⟨rfl, e2⟩
theorem pLast_of {l : List Ent} {n a : Int} (h : a.toNat = l.length - min n.toNat l.length) : pLast l n = l.drop a.toNat := by unfold pLast; rw [h]
set_option maxHeartbeats 2000000 in
theorem specLastOf_k {lo hi : Nat} {v : Value} {l : List Ent} {n : Int} {w : World} (hR : RE w lo hi v l) (hl : l.length ≤ 1048576) :
    Ret Tryz.prog 123 #[v, I n] w fun v' w' => Ext w w' ∧ OE w' w.heap.size w'.heap.size v' (pLast l n) := by
  obtain ⟨A, c, rfl, hc, hr⟩ := hR
  refine Ret_enter Tryz.func123 rfl rfl rfl ?_
  repeat' (first | apply Jbq | apply Jbr | apply Jbs | apply Jbt | apply Jbu | apply Jbv | apply Jbz | (apply Jcg; (first | exact Jaa rfl | exact Jab rfl | exact Jac Us.h rfl | exact Jad rfl rfl | exact Jam rfl rfl | exact Jap rfl rfl (by omega) | exact Jbd Us.h Sz.h rfl rfl (by omega)); exact rfl) | (refine TL_buildSlice0 Us.h Sz.h rfl ?_; intro w1 g1 e1 hg1 hz1 hown1) | (refine Jcx rfl (fun hb => ?_) (fun hb => ?_) <;> (try (exfalso; omega))))
  · refine TR_of (res1 rfl rfl) ⟨Ch.refl _ _, ?_⟩
    rw [pLast_of (a := l.length) (by omega), Int.toNat_natCast, List.drop_length]
    exact OE.nil _ _ (Nat.le_refl _)
  · rw [pLast_of (a := (l.length : Int) - l.length) (by omega)]
    refine TL_appendE Us.h rfl rfl (OE_new (s := []) rfl hown1 hg1 hz1) (RE.from (hr.ext e1) (by omega) hc) e1.size (by simp only [List.length_nil, List.length_drop]; omega) rfl ?_
    intro w2 v2 c2 ho2
    rw [List.nil_append] at ho2
    repeat' (first | apply Jbq | apply Jbr | apply Jbu | (apply Jcg; exact Jab rfl; exact rfl))
    exact TR_of (res1 rfl rfl) ⟨Ext.then_iv e1 c2 (Nat.le_refl _), ho2⟩
  · rw [pLast_of (a := (l.length : Int) - n) (by omega)]
    refine TL_appendE Us.h rfl rfl (OE_new (s := []) rfl hown1 hg1 hz1) (RE.from (hr.ext e1) (by omega) hc) e1.size (by simp only [List.length_nil, List.length_drop]; omega) rfl ?_
    intro w2 v2 c2 ho2
    rw [List.nil_append] at ho2
    repeat' (first | apply Jbq | apply Jbr | apply Jbu | (apply Jcg; exact Jab rfl; exact rfl))
    exact TR_of (res1 rfl rfl) ⟨Ext.then_iv e1 c2 (Nat.le_refl _), ho2⟩
set_option maxHeartbeats 2000000 in
theorem implLastOf_k {lo hi : Nat} {v : Value} {l : List Ent} {n : Int} {w : World} (hR : RE w lo hi v l) (hl : l.length ≤ 1048576) :
    Ret Tryz.prog 50 #[v, I n] w fun v' w' => Ext w w' ∧ OE w' w.heap.size w'.heap.size v' (pLast l n) := by
  obtain ⟨A, c, rfl, hc, hr⟩ := hR
  refine Ret_enter Tryz.func50 rfl rfl rfl ?_
  repeat' (first | apply Jbq | apply Jbr | apply Jbs | apply Jbt | (apply Jcg; (first | exact Jaa rfl | exact Jab rfl | exact Jac Us.h rfl | exact Jap rfl rfl (by omega) | exact Jay rfl rfl | exact Jaz rfl rfl | exact Jbd Us.h Sz.h rfl rfl (by omega)); exact rfl))
  rw [pLast_of (a := (l.length : Int) - max 0 (min n l.length)) (by omega)]
  refine TL_appendE Us.h rfl rfl (OE.nil _ _ (Nat.le_refl _)) (RE.from hr (by omega) hc) (Nat.le_refl _) (by simp only [List.length_nil, List.length_drop]; omega) rfl ?_
  intro w2 v2 c2 ho2
  rw [List.nil_append] at ho2
  repeat' (first | apply Jbq | apply Jbr | apply Jbu | (apply Jcg; exact Jab rfl; exact rfl))
  exact TR_of (res1 rfl rfl) ⟨c2.mono (fun k hk => by simp only [Iv] at hk; omega), ho2⟩
end Go.Proofs.YtggaghghclomkaaGreat

/- Contracts: lists of records, written and read. -/
namespace Go.Proofs.YtggaghghclomkaaGreat
open Go.RowKit
attribute [local irreducible] TL TC TN TX TR TQ TA Pu Ret

theorem pLog_no {l : List Ent} (h : ¬ (pEntries l = true ∧ (l.flatMap frame).length ≤ 65536)) : pLog l = ([], false) := by unfold pLog; rw [if_neg h]
theorem pLog_yes {l : List Ent} (h : pEntries l = true ∧ (l.flatMap frame).length ≤ 65536) : pLog l = (l.flatMap frame, true) := by unfold pLog; rw [if_pos h]
theorem pFrame_fst {e : Int × List UInt8} (h : pEntry e.1 e.2 = true) : (pFrame e).1 = frame e := by rw [pFrame_yes h]
theorem pFrame_snd {e : Int × List UInt8} (h : pEntry e.1 e.2 = true) : (pFrame e).2 = true := by rw [pFrame_yes h]
theorem OB.all {w : World} {lo hi : Nat} {v : Value} {s : List UInt8} (h : OB w lo hi v s) : OB w lo w.heap.size v s := by
  obtain ⟨A, c, h1, h2⟩ := h
  exact ⟨A, c, h1, h2.wide (Nat.le_refl _) h2.hi_le (Nat.le_refl _)⟩
set_option maxHeartbeats 4000000 in
theorem specLogBytes_k {lo hi : Nat} {v : Value} {l : List Ent} {w : World} (hR : RE w lo hi v l) (hl : l.length ≤ 1048576) :
    Ret Tryz.prog 124 #[v] w fun v w' => ∃ v', v = .tuple #[v', .bool (pLog l).2] ∧ Ext w w' ∧ OB w' w.heap.size w'.heap.size v' (pLog l).1 := by
  have hr0 := hR
  obtain ⟨A, c, rfl, hc, hr⟩ := hr0
  refine Ret_enter Tryz.func124 rfl rfl rfl ?_
  repeat' (first | apply Jbq | apply Jbr | apply Jbs | apply Jbt | (apply Jcg; (first | exact Jaa rfl | exact Jab rfl); exact rfl))
  refine TL_call rfl en160 (specEntriesOk_k hR hl) rfl rfl ?_
  rintro _ w1 ⟨rfl, E⟩
  cases hp : pEntries l
  · rw [pLog_no (by simp [hp])]
    repeat' (first | apply Jbq | apply Jbr | apply Jbs | apply Jbt | apply Jbu | apply Jbv | (refine Jce rfl ?_) | (apply Jcg; (first | exact Jab rfl | exact Jaj rfl); exact rfl))
    exact TR_of (res2 rfl rfl rfl) ⟨_, rfl, E, OB.nil _ _ E.size⟩
  · have hok := pEntries_iff.1 hp
    have hs1 := E.size
    repeat' (first | apply Jbq | apply Jbr | apply Jbs | apply Jbt | apply Jby | apply Jbz | (refine Jcf rfl ?_) | (apply Jcg; (first | exact Jaa rfl | exact Jab rfl | exact Jac Us.h rfl | exact Jaj rfl); exact rfl) | (refine TL_buildSlice0 Us.h Sz.h rfl ?_; intro w2 g2 e2 hg2 hz2 hown2))
    have hs2 := e2.size
    have hnew : OB w2 w.heap.size w2.heap.size (.slice (some ⟨g2, 0, none⟩) 0 0) [] := ⟨_, _, rfl, hown2.wide (by omega) (by omega) (Nat.le_refl _)⟩
    refine TC_loop (ι := Nat × Value) (fun x => [(4, x.2), (13, .slice A l.length c), (14, I l.length), (15, I x.1)]) (fun x w' => x.1 ≤ l.length ∧ Ext w w' ∧ ((l.take x.1).flatMap frame).length ≤ 65536 ∧ OB w' w.heap.size w'.heap.size x.2 ((l.take x.1).flatMap frame)) (fun x => l.length - x.1) (0, _) (subEnv_cons rfl (subEnv_cons rfl (subEnv_cons rfl (subEnv_cons rfl (subEnv_nil _)))))
      ⟨Nat.zero_le _, E.ext e2, by simp, hnew⟩ ?_
    rintro ⟨k, va⟩ w3 ⟨hk, e3, hle, ho3⟩
    simp only at hk hle ho3
    repeat' (first | apply Jbq | apply Jbr | apply Jbs | apply Jbt | (apply Jcg; exact Jad rfl rfl; exact rfl))
    refine Jcx rfl (fun hlt0 => ?_) (fun hge => ?_)
    · have hlt : k < l.length := by omega
      obtain ⟨ad, rfl, hcell⟩ := Rd.elem entC_len (hr.ext e3) hlt
      have hek := hok.1 k hlt hlt
      have hfl := frame_length l[k]
      have hft := frames_take hlt
      have hfe := frames_le l (k + 1)
      have hek2 := pEntry_iff.1 hek
      repeat' (first | apply Jbq | apply Jbr | apply Jbs | apply Jbt | apply Jby | apply Jbz | (apply Jcg; exact Jar Us.h Sz.h rfl rfl (by omega); exact rfl) | refine Jcg (Pu_loadAgg (cs := entC l[k]) Us.h rfl Sz.h rfl (fun _ e j u hu => by rw [e]; exact hcell j u hu)) rfl ?_ | (refine TL_alloc Zs.h rfl rfl ?_; intro w4 g4 e4 hg4 hz4 hb4) | (refine TL_storeAgg rfl rfl Sz.h rfl hb4 rfl ?_; intro w5 c5 hz5 hb5) | refine Jcg (Pu_loadAgg (cs := entC l[k]) Us.h rfl Sz.h rfl (fun _ e j u hu => by rw [e, add0, hb5.cell]; exact hu)) rfl ?_)
      refine TL_call rfl en121 (specFrameBytes_c l[k] _) rfl rfl ?_
      rintro _ w6 ⟨v6, rfl, e6, ho6⟩
      rw [pFrame_fst hek] at ho6
      rw [pFrame_snd hek]
      have hs3 := e3.size
      have hs4 := e4.size
      have hs6 := e6.size
      have E6 : Ext w w6 := (Ext.then_iv (e3.ext e4) c5 (by omega)).ext e6
      have ho3' : OB w6 w.heap.size w3.heap.size va ((l.take k).flatMap frame) := ((ho3.ext e4).ch c5 (by intro k _ _; simp only [Iv]; omega)).ext e6
      obtain ⟨A6, c6, rfl, ho6⟩ := ho6
      obtain ⟨A3, c3, rfl, ho3'⟩ := ho3'
      repeat' (first | apply Jbq | apply Jbr | apply Jbs | apply Jbt | (apply Jcg; (first | exact Jaa rfl | exact Jab rfl | exact Jac Us.h rfl | exact Jae rfl rfl | exact Jam rfl rfl | exact Jap rfl rfl (by omega)); exact rfl))
      refine Jcx rfl (fun hb => ?_) (fun hb => ?_)
      · rw [pLog_no (fun q => by have := q.2; rw [hft, List.length_append] at hfe; omega)]
        repeat' (first | apply Jbq | apply Jbr | apply Jbs | apply Jbt | apply Jbu | apply Jbv | apply Jbw | (apply Jcg; exact Jab rfl; exact rfl))
        exact TR_of (res2 rfl rfl rfl) ⟨_, rfl, E6, OB.nil _ _ E6.size⟩
      · repeat' (first | apply Jbr | apply Jbt | apply Jbz | (apply Jcg; exact Jaa rfl; exact rfl))
        refine TL_appendB Us.h rfl rfl ⟨_, _, rfl, ho3'⟩ ⟨_, _, rfl, ho6.cap.1, ho6.rd⟩ (by omega) (by omega) rfl ?_
        intro w7 v7 c7 ho7
        rw [← hft] at ho7
        repeat' (first | apply Jbq | apply Jbr | apply Jbt | apply Jbx | (apply Jcg; (first | exact Jaa rfl | exact Jab rfl | exact Jaf rfl rfl (by omega)); exact rfl))
        exact TN_round (k + 1, v7) (subEnv_cons rfl (subEnv_cons rfl (subEnv_cons rfl (subEnv_cons rfl (subEnv_nil _))))) ⟨hlt, Ext.then_iv E6 c7 (Nat.le_refl _), by rw [hft, List.length_append]; omega, ho7⟩ (by simp only; omega)
    · obtain rfl : k = l.length := by omega
      rw [List.take_length] at hle ho3
      rw [pLog_yes ⟨hp, hle⟩]
      repeat' (first | apply Jbq | apply Jbr | apply Jbs | apply Jbt | apply Jbu | apply Jca | apply Jcb | apply Jcc | (apply Jcg; (first | exact Jaa rfl | exact Jab rfl); exact rfl))
      exact TR_of (res2 rfl rfl rfl) ⟨_, rfl, e3, ho3⟩
set_option maxHeartbeats 4000000 in
theorem implLogBytes_k {lo hi : Nat} {v : Value} {l : List Ent} {w : World} (hR : RE w lo hi v l) (hl : l.length ≤ 1048576) :
    Ret Tryz.prog 110 #[v] w fun v w' => ∃ v', v = .tuple #[v', .bool (pLog l).2] ∧ Ext w w' ∧ OB w' w.heap.size w'.heap.size v' (pLog l).1 := by
  have hr0 := hR
  obtain ⟨A, c, rfl, hc, hr⟩ := hr0
  refine Ret_enter Tryz.func110 rfl rfl rfl ?_
  repeat' (first | apply Jbq | apply Jbr | apply Jbs | apply Jbt | (apply Jcg; (first | exact Jaa rfl | exact Jab rfl); exact rfl))
  refine TL_call rfl en109 (implEntriesOk_k hR hl) rfl rfl ?_
  rintro _ w1 ⟨rfl, E⟩
  cases hp : pEntries l
  · rw [pLog_no (by simp [hp])]
    repeat' (first | apply Jbq | apply Jbr | apply Jbs | apply Jbt | apply Jbu | apply Jbv | (refine Jce rfl ?_) | (apply Jcg; (first | exact Jab rfl | exact Jaj rfl); exact rfl))
    exact TR_of (res2 rfl rfl rfl) ⟨_, rfl, E, OB.nil _ _ E.size⟩
  · have hok := pEntries_iff.1 hp
    have hs1 := E.size
    repeat' (first | apply Jbq | apply Jbr | apply Jbs | apply Jbt | apply Jby | apply Jbz | (refine Jcf rfl ?_) | (apply Jcg; (first | exact Jaa rfl | exact Jab rfl | exact Jac Us.h rfl | exact Jaj rfl); exact rfl))
    refine TC_loop (ι := Nat × Value) (fun x => [(4, x.2), (12, .slice A l.length c), (13, I l.length), (14, I x.1)]) (fun x w' => x.1 ≤ l.length ∧ Ext w w' ∧ ((l.take x.1).flatMap frame).length ≤ 65536 ∧ OB w' w.heap.size w'.heap.size x.2 ((l.take x.1).flatMap frame)) (fun x => l.length - x.1) (0, _) (subEnv_cons rfl (subEnv_cons rfl (subEnv_cons rfl (subEnv_cons rfl (subEnv_nil _)))))
      ⟨Nat.zero_le _, E, by simp, OB.nil _ _ hs1⟩ ?_
    rintro ⟨k, va⟩ w3 ⟨hk, e3, hle, ho3⟩
    simp only at hk hle ho3
    repeat' (first | apply Jbq | apply Jbr | apply Jbs | apply Jbt | (apply Jcg; exact Jad rfl rfl; exact rfl))
    refine Jcx rfl (fun hlt0 => ?_) (fun hge => ?_)
    · have hlt : k < l.length := by omega
      obtain ⟨ad, rfl, hcell⟩ := Rd.elem entC_len (hr.ext e3) hlt
      have hek := hok.1 k hlt hlt
      have hfl := frame_length l[k]
      have hft := frames_take hlt
      have hfe := frames_le l (k + 1)
      have hek2 := pEntry_iff.1 hek
      repeat' (first | apply Jbq | apply Jbr | apply Jbs | apply Jbt | apply Jby | apply Jbz | (apply Jcg; exact Jar Us.h Sz.h rfl rfl (by omega); exact rfl) | refine Jcg (Pu_loadAgg (cs := entC l[k]) Us.h rfl Sz.h rfl (fun _ e j u hu => by rw [e]; exact hcell j u hu)) rfl ?_ | (refine TL_alloc Zs.h rfl rfl ?_; intro w4 g4 e4 hg4 hz4 hb4) | (refine TL_storeAgg rfl rfl Sz.h rfl hb4 rfl ?_; intro w5 c5 hz5 hb5) | refine Jcg (Pu_loadAgg (cs := entC l[k]) Us.h rfl Sz.h rfl (fun _ e j u hu => by rw [e, add0, hb5.cell]; exact hu)) rfl ?_)
      refine TL_call rfl en118 (implFrameBytes_c l[k] _) rfl rfl ?_
      rintro _ w6 ⟨v6, rfl, e6, ho6⟩
      rw [pFrame_fst hek] at ho6
      rw [pFrame_snd hek]
      have hs3 := e3.size
      have hs4 := e4.size
      have hs6 := e6.size
      have E6 : Ext w w6 := (Ext.then_iv (e3.ext e4) c5 (by omega)).ext e6
      have ho3' : OB w6 w.heap.size w3.heap.size va ((l.take k).flatMap frame) := ((ho3.ext e4).ch c5 (by intro k _ _; simp only [Iv]; omega)).ext e6
      repeat' (first | apply Jbq | apply Jbr | apply Jbs | apply Jbt | (apply Jcg; (first | exact Jaa rfl | exact Jab rfl | exact Jae rfl rfl); exact rfl))
      refine TL_appendB Us.h rfl rfl ho3' ho6.rd (by omega) (by omega) rfl ?_
      intro w7 v7 c7 ho7
      rw [← hft] at ho7
      have E7 : Ext w w7 := Ext.then_iv E6 c7 (Nat.le_refl _)
      obtain ⟨A7, c7', rfl, ho7⟩ := ho7
      repeat' (first | apply Jbq | apply Jbr | apply Jbs | apply Jbt | (apply Jcg; (first | exact Jaa rfl | exact Jab rfl | exact Jac Us.h rfl | exact Jam rfl rfl); exact rfl))
      refine Jcx rfl (fun hb => ?_) (fun hb => ?_)
      · rw [pLog_no (fun q => by have := q.2; omega)]
        repeat' (first | apply Jbq | apply Jbr | apply Jbs | apply Jbt | apply Jbu | apply Jbv | apply Jbw | (apply Jcg; exact Jab rfl; exact rfl))
        exact TR_of (res2 rfl rfl rfl) ⟨_, rfl, E7, OB.nil _ _ E7.size⟩
      · repeat' (first | apply Jbq | apply Jbr | apply Jbt | apply Jbx | apply Jbz | (apply Jcg; (first | exact Jaa rfl | exact Jaf rfl rfl (by omega)); exact rfl))
        exact TN_round (k + 1, .slice A7 _ c7') (subEnv_cons rfl (subEnv_cons rfl (subEnv_cons rfl (subEnv_cons rfl (subEnv_nil _))))) ⟨hlt, E7, by simp only; omega, ⟨A7, c7', rfl, ho7⟩⟩ (by simp only; omega)
    · obtain rfl : k = l.length := by omega
      rw [List.take_length] at hle ho3
      rw [pLog_yes ⟨hp, hle⟩]
      repeat' (first | apply Jbq | apply Jbr | apply Jbs | apply Jbt | apply Jbu | apply Jca | apply Jcb | apply Jcc | (apply Jcg; (first | exact Jaa rfl | exact Jab rfl); exact rfl))
      exact TR_of (res2 rfl rfl rfl) ⟨_, rfl, e3, ho3⟩
theorem follows_snoc {l : List Ent} {n : Int} (h : 0 < l.length) : follows (lastNum l) n = decide ((l[l.length - 1]'(by omega)).1 + 1 = n) := by
  unfold lastNum
  rw [List.getLast?_eq_getElem?, List.getElem?_eq_getElem (by omega)]
  rfl
theorem OE.all {w : World} {lo hi : Nat} {v : Value} {s : List Ent} (h : OE w lo hi v s) : OE w lo w.heap.size v s := by
  obtain ⟨A, c, h1, h2⟩ := h
  exact ⟨A, c, h1, h2.wide (Nat.le_refl _) h2.hi_le (Nat.le_refl _)⟩
set_option maxHeartbeats 8000000 in
theorem specScan_k {lo hi : Nat} {vb : Value} {b : List UInt8} {w : World} (hR : RB w lo hi vb b) (hl : b.length ≤ 1048576) :
    Ret Tryz.prog 107 #[vb] w fun v w' => ∃ v', v = .tuple #[v', I (pScan b).2] ∧ Ext w w' ∧ OE w' w.heap.size w'.heap.size v' (pScan b).1 := by
  obtain ⟨A, c, rfl, hc, hr⟩ := hR
  refine Ret_enter Tryz.func107 rfl rfl rfl ?_
  repeat' (first | apply Jbq | apply Jbr | apply Jbs | apply Jbt | apply Jby | (apply Jcg; exact Jab rfl; exact rfl) | (refine TL_buildSlice0 Us.h Sz.h rfl ?_; intro w1 g1 e1 hg1 hz1 hown1))
  refine TC_loop (ι := Nat × List Ent × Value) (fun x => [(0, .slice A b.length c), (4, x.2.2), (5, I x.1)])
    (fun x w' => x.1 ≤ b.length ∧ 10 * x.2.1.length ≤ x.1 ∧ (∀ e ∈ x.2.1, pEntry e.1 e.2 = true) ∧ pScan b = (x.2.1 ++ (scanFrom b (lastNum x.2.1) x.1).1, (scanFrom b (lastNum x.2.1) x.1).2) ∧ Ext w w' ∧ OE w' w.heap.size w'.heap.size x.2.2 x.2.1) (fun x => b.length - x.1) (0, [], _) (subEnv_cons rfl (subEnv_cons rfl (subEnv_cons rfl (subEnv_nil _))))
    ⟨Nat.zero_le _, Nat.le_refl _, by simp, rfl, by first | exact e1 | exact Ch.refl _ _, by first | exact OE_new (s := []) rfl hown1 hg1 hz1 | exact OE.nil _ _ (Nat.le_refl _)⟩ ?_
  rintro ⟨a, acc, va⟩ w2 ⟨ha, hacc, hall, heq, e2, ho2⟩
  simp only at ha hacc hall heq ho2
  repeat' (first | apply Jbs | apply Jbt | apply Jby | (apply Jcg; exact Jaa rfl; exact rfl))
  refine TL_call rfl en154 (specFrameRead_k (i := a) ⟨_, _, rfl, hc, hr.ext e2⟩ hl (by omega)) rfl rfl ?_
  rintro _ w3 ⟨rfl, e3⟩
  obtain ⟨r, hrr⟩ : ∃ r, r = pReadF b a := ⟨_, rfl⟩
  have hnx := fun h => readF_next (b := b) (i := a) h
  rw [← hrr] at hnx ⊢
  have hend := scanFrom_end (b := b) (p := lastNum acc) (a := a)
  have hstep := scanFrom_step (b := b) (p := lastNum acc) (a := a)
  rw [← hrr] at hend hstep
  replace e2 := e2.ext e3
  replace ho2 := ho2.ext e3
  have hs2 := e2.size
  have hh2 := ho2.hi_le
  clear e3 hrr
  repeat' ((apply Jcg; (first | exact Jaa rfl | exact Jae rfl rfl); exact rfl))
  refine TL_alloc Zs.h rfl rfl ?_
  intro w4 g4 e4 hg4 hz4 hb4
  skip
  refine TL_storeAgg rfl rfl Sz.h rfl hb4 rfl ?_
  clear hb4
  intro w5 c5 hz5 hb5
  have E5 : Ext w w5 := Ext.then_iv (e2.ext e4) c5 (by omega)
  replace ho2 := (ho2.ext e4).ch c5 (by intro k _ _; simp only [Iv]; omega)
  have hs5 : w3.heap.size + 1 = w5.heap.size := by omega
  have hgl := hb5.lt
  clear e2 e4 c5
  obtain ⟨A2, c2, rfl, hown2⟩ := ho2
  have hld : ∀ w', Ext w5 w' → w'.cell? ((⟨g4, 0, none⟩ : Addr).add 0) = some (I r.1.1) := fun w' e => (hb5.ext e).ld rfl
  have hrec : ∀ w', Ext w5 w' → ∀ j u, (entC r.1)[j]? = some u → w'.cell? ((⟨g4, 0, none⟩ : Addr).add j) = some u := fun w' e j u hu => by rw [add0]; exact e.cell ((hb5.cell j).trans hu)
  clear hb5
  repeat' (first | apply Jbq | apply Jbr | apply Jbs | (apply Jcg; exact Jab rfl; exact rfl))
  by_cases hcode : r.2.2 = 0
  · obtain ⟨_, hn1, hn2, hn3, hn4⟩ := hnx hcode
    have hent := pEntry_iff.1 hn3
    obtain ⟨nx, hnx2⟩ := Int.eq_ofNat_of_zero_le (show 0 ≤ r.2.1 by omega)
    have hnxn : r.2.1.toNat = nx := by omega
    -- what follows when the record is taken
    have go : follows (lastNum acc) r.1.1 = true → pScan b = ((acc ++ [r.1]) ++ (scanFrom b (lastNum (acc ++ [r.1])) nx).1, (scanFrom b (lastNum (acc ++ [r.1])) nx).2) := fun hf => by
      rw [heq, hstep hcode hf, lastNum_snoc, hnxn]; simp
    have hall' : ∀ e ∈ acc ++ [r.1], pEntry e.1 e.2 = true := fun e he => by
      rcases List.mem_append.1 he with h | h
      · exact hall e h
      · rw [List.mem_singleton.1 h]; exact hn3
    by_cases hac : 0 < acc.length
    · have hfs := follows_snoc (l := acc) (n := r.1.1) hac
      have hlast := pEntry_iff.1 (hall _ (List.getElem_mem (show acc.length - 1 < acc.length by omega)))
      obtain ⟨ad, rfl, hcell⟩ := Rd.elem entC_len hown2.rd (show acc.length - 1 < acc.length by omega)
      have hc1 : w5.cell? ((ad.add (((acc.length : Int) - 1).toNat * 2)).add 0) = some (I (acc[acc.length - 1]'(by omega)).1) := by
        rw [show ((acc.length : Int) - 1).toNat = acc.length - 1 by omega]; exact hcell 0 _ rfl
      refine TC_any mixed rfl ?_
      intro w6 hE hz6
      (refine Jco 0 rfl (by kernel_rfl) (by kernel_rfl) (by kernel_rfl) (fun _ _ _ h => h) hE (by exact Jaa rfl) rfl ?_; refine Jco 1 rfl (by kernel_rfl) (by kernel_rfl) (by kernel_rfl) (fun _ _ _ h => h) hE (by exact Jal rfl rfl) rfl ?_; refine Jco 2 rfl (by kernel_rfl) (by kernel_rfl) (by kernel_rfl) (fun _ _ _ h => h) hE (by exact Jaa rfl) rfl ?_)
      rw [show (!decide (r.2.2 = 0)) = false from by simp [hcode]]
      (refine Jcp 3 rfl (by kernel_rfl) (by kernel_rfl) (by kernel_rfl) (fun _ _ _ h => h) hE rfl rfl rfl (by exact Jaa rfl) rfl ?_; refine Jcp 4 rfl (by kernel_rfl) (by kernel_rfl) (by kernel_rfl) (fun _ _ _ h => h) hE rfl rfl rfl (by exact Jac Us.h rfl) rfl ?_; refine Jcp 5 rfl (by kernel_rfl) (by kernel_rfl) (by kernel_rfl) (fun _ _ _ h => h) hE rfl rfl rfl (by exact Jam rfl rfl) rfl ?_; refine Jcp 6 rfl (by kernel_rfl) (by kernel_rfl) (by kernel_rfl) (fun _ _ _ h => h) hE rfl rfl rfl (by exact Jaa rfl) rfl ?_)
      rw [decide_eq_true (show (0 : Int) < (acc.length : Int) by omega)]
      (refine Jcp 7 rfl (by kernel_rfl) (by kernel_rfl) (by kernel_rfl) (fun _ _ _ h => h) hE rfl rfl rfl (by (apply Jbl; exact Us.h; exact rfl; exact Sz.h; exact rfl)) rfl ?_; refine Jcp 8 rfl (by kernel_rfl) (by kernel_rfl) (by kernel_rfl) (fun _ _ _ h => h) hE rfl rfl rfl (by exact Pu_load Fl.h rfl hld) rfl ?_; refine Jcp 9 rfl (by kernel_rfl) (by kernel_rfl) (by kernel_rfl) (fun _ _ _ h => h) hE rfl rfl rfl (by exact Jap rfl rfl (by omega)) rfl ?_; refine Jcp 10 rfl (by kernel_rfl) (by kernel_rfl) (by kernel_rfl) (fun _ _ _ h => h) hE rfl rfl rfl (by exact Jaa rfl) rfl ?_; refine Jcp 11 rfl (by kernel_rfl) (by kernel_rfl) (by kernel_rfl) (fun _ _ _ h => h) hE rfl rfl rfl (by exact Jaa rfl) rfl ?_; refine Jcp 12 rfl (by kernel_rfl) (by kernel_rfl) (by kernel_rfl) (fun _ _ _ h => h) hE rfl rfl rfl (by exact Jac Us.h rfl) rfl ?_; refine Jcp 13 rfl (by kernel_rfl) (by kernel_rfl) (by kernel_rfl) (fun _ _ _ h => h) hE rfl rfl rfl (by exact Jap rfl rfl (by omega)) rfl ?_; refine Jcp 14 rfl (by kernel_rfl) (by kernel_rfl) (by kernel_rfl) (fun _ _ _ h => h) hE rfl rfl rfl (by exact Jar Us.h Sz.h rfl rfl (by omega)) rfl ?_; refine Jcp 15 rfl (by kernel_rfl) (by kernel_rfl) (by kernel_rfl) (fun _ _ _ h => h) hE rfl rfl rfl (by (apply Jbl; exact Us.h; exact rfl; exact Sz.h; exact rfl)) rfl ?_; refine Jcp 16 rfl (by kernel_rfl) (by kernel_rfl) (by kernel_rfl) (fun _ _ _ h => h) hE rfl rfl rfl (by exact Pu_load Fl.h rfl (fun _ e => Ext.cell e hc1)) rfl ?_; refine Jcp 17 rfl (by kernel_rfl) (by kernel_rfl) (by kernel_rfl) (fun _ _ _ h => h) hE rfl rfl rfl (by exact Jal rfl rfl) rfl ?_; refine Jcp 18 rfl (by kernel_rfl) (by kernel_rfl) (by kernel_rfl) (fun _ _ _ h => h) hE rfl rfl rfl (by exact Jah rfl rfl) rfl ?_; refine Jco 19 rfl (by kernel_rfl) (by kernel_rfl) (by kernel_rfl) (fun _ _ _ h => h) hE (by exact Jai rfl rfl) rfl ?_)
      refine TA_done (by kernel_rfl) ?_
      repeat' (apply Jbr)
      refine Jcy rfl (fun hne => ?_) (fun hfo => ?_)
      · have hend2 := hend (fun q => by have := q.2; rw [hfs] at this; have := of_decide_eq_true this; omega)
        rw [heq, hend2]
        repeat' (first | apply Jbq | apply Jbr | apply Jbs | apply Jbt | apply Jbu | apply Jbv | apply Jbw | (apply Jcg; (first | exact Jaa rfl | exact Jab rfl); exact rfl))
        exact TR_of (res2 rfl rfl rfl) ⟨_, by rw [List.append_nil], E5.ext hE, by rw [List.append_nil]; exact ⟨_, _, rfl, (hown2.ext hE).wide (Nat.le_refl _) (by have := hE.size; omega) (Nat.le_refl _)⟩⟩
      · have hgo := go (by rw [hfs]; exact decide_eq_true (by omega))
        have hrec2 := fun e => hrec w6 (hE.ext e)
        repeat' (first | apply Jbr | apply Jbs | apply Jbt | apply Jbz | (apply Jcg; exact Jaa rfl; exact rfl) | refine Jcg (Pu_loadAgg (cs := entC r.1) Us.h rfl Sz.h rfl (fun _ e j u hu => by rw [e]; exact hrec w6 hE j u hu)) rfl ?_)
        refine TL_buildSlice (us := ents [r.1]) Us.h Zi.h rfl rfl rfl rfl (fillE _) rfl rfl ?_
        intro w7 g7 e7 hg7 hz7 hown7
        refine TL_appendE Us.h rfl rfl ⟨_, _, rfl, (hown2.ext hE).ext e7⟩ (OE_new (s := [_]) rfl hown7 hg7 hz7).rd (by have := hE.size; have := e7.size; omega) (by simp only [List.length_cons, List.length_nil]; omega) rfl ?_
        intro w8 v8 c8 ho8
        have E8 : Ext w w8 := Ext.then_iv ((E5.ext hE).ext e7) c8 (Nat.le_refl _)
        repeat' (first | apply Jbq | apply Jbr | apply Jbt | apply Jbx | (apply Jcg; (first | exact Jaa rfl | exact Jab rfl); exact rfl))
        exact TN_round (nx, acc ++ [r.1], v8) (subEnv_cons rfl (subEnv_cons rfl (subEnv_cons (congrArg (fun z => some (I z)) hnx2) (subEnv_nil _)))) ⟨by simp only; omega, by simp only [List.length_append, List.length_cons, List.length_nil]; omega, hall', hgo, E8, ho8⟩ (by simp only; omega)
    · obtain rfl : acc = [] := List.eq_nil_of_length_eq_zero (by omega)
      refine TC_any mixed rfl ?_
      intro w6 hE hz6
      (refine Jco 0 rfl (by kernel_rfl) (by kernel_rfl) (by kernel_rfl) (fun _ _ _ h => h) hE (by exact Jaa rfl) rfl ?_; refine Jco 1 rfl (by kernel_rfl) (by kernel_rfl) (by kernel_rfl) (fun _ _ _ h => h) hE (by exact Jal rfl rfl) rfl ?_; refine Jco 2 rfl (by kernel_rfl) (by kernel_rfl) (by kernel_rfl) (fun _ _ _ h => h) hE (by exact Jaa rfl) rfl ?_)
      rw [show (!decide (r.2.2 = 0)) = false from by simp [hcode]]
      (refine Jcp 3 rfl (by kernel_rfl) (by kernel_rfl) (by kernel_rfl) (fun _ _ _ h => h) hE rfl rfl rfl (by exact Jaa rfl) rfl ?_; refine Jcp 4 rfl (by kernel_rfl) (by kernel_rfl) (by kernel_rfl) (fun _ _ _ h => h) hE rfl rfl rfl (by exact Jac Us.h rfl) rfl ?_; refine Jcp 5 rfl (by kernel_rfl) (by kernel_rfl) (by kernel_rfl) (fun _ _ _ h => h) hE rfl rfl rfl (by exact Jam rfl rfl) rfl ?_; refine Jcp 6 rfl (by kernel_rfl) (by kernel_rfl) (by kernel_rfl) (fun _ _ _ h => h) hE rfl rfl rfl (by exact Jaa rfl) rfl ?_; refine Jcq 7 rfl (by kernel_rfl) (by kernel_rfl) (by kernel_rfl) (fun _ _ _ h => h) hE rfl rfl rfl rfl rfl ?_; refine Jcq 8 rfl (by kernel_rfl) (by kernel_rfl) (by kernel_rfl) (fun _ _ _ h => h) hE rfl rfl rfl rfl rfl ?_; refine Jcq 9 rfl (by kernel_rfl) (by kernel_rfl) (by kernel_rfl) (fun _ _ _ h => h) hE rfl rfl rfl rfl rfl ?_; refine Jcq 10 rfl (by kernel_rfl) (by kernel_rfl) (by kernel_rfl) (fun _ _ _ h => h) hE rfl rfl rfl rfl rfl ?_; refine Jcq 11 rfl (by kernel_rfl) (by kernel_rfl) (by kernel_rfl) (fun _ _ _ h => h) hE rfl rfl rfl rfl rfl ?_; refine Jcq 12 rfl (by kernel_rfl) (by kernel_rfl) (by kernel_rfl) (fun _ _ _ h => h) hE rfl rfl rfl rfl rfl ?_; refine Jcq 13 rfl (by kernel_rfl) (by kernel_rfl) (by kernel_rfl) (fun _ _ _ h => h) hE rfl rfl rfl rfl rfl ?_; refine Jcq 14 rfl (by kernel_rfl) (by kernel_rfl) (by kernel_rfl) (fun _ _ _ h => h) hE rfl rfl rfl rfl rfl ?_; refine Jcq 15 rfl (by kernel_rfl) (by kernel_rfl) (by kernel_rfl) (fun _ _ _ h => h) hE rfl rfl rfl rfl rfl ?_; refine Jcq 16 rfl (by kernel_rfl) (by kernel_rfl) (by kernel_rfl) (fun _ _ _ h => h) hE rfl rfl rfl rfl rfl ?_; refine Jcq 17 rfl (by kernel_rfl) (by kernel_rfl) (by kernel_rfl) (fun _ _ _ h => h) hE rfl rfl rfl rfl rfl ?_; refine Jcp 18 rfl (by kernel_rfl) (by kernel_rfl) (by kernel_rfl) (fun _ _ _ h => h) hE rfl rfl rfl (by exact Jai rfl rfl) rfl ?_; refine Jco 19 rfl (by kernel_rfl) (by kernel_rfl) (by kernel_rfl) (fun _ _ _ h => h) hE (by exact Jai rfl rfl) rfl ?_)
      refine TA_done (by kernel_rfl) ?_
      have hgo := go rfl
      repeat' (first | apply Jbr | apply Jbs | apply Jbt | apply Jbz | (refine Jcf rfl ?_) | (apply Jcg; exact Jaa rfl; exact rfl) | refine Jcg (Pu_loadAgg (cs := entC r.1) Us.h rfl Sz.h rfl (fun _ e j u hu => by rw [e]; exact hrec w6 hE j u hu)) rfl ?_)
      refine TL_buildSlice (us := ents [r.1]) Us.h Zi.h rfl rfl rfl rfl (fillE _) rfl rfl ?_
      intro w7 g7 e7 hg7 hz7 hown7
      refine TL_appendE Us.h rfl rfl ⟨_, _, rfl, (hown2.ext hE).ext e7⟩ (OE_new (s := [_]) rfl hown7 hg7 hz7).rd (by have := hE.size; have := e7.size; omega) (by simp only [List.length_cons, List.length_nil]; omega) rfl ?_
      intro w8 v8 c8 ho8
      have E8 : Ext w w8 := Ext.then_iv ((E5.ext hE).ext e7) c8 (Nat.le_refl _)
      repeat' (first | apply Jbq | apply Jbr | apply Jbt | apply Jbx | (apply Jcg; (first | exact Jaa rfl | exact Jab rfl); exact rfl))
      exact TN_round (nx, [] ++ [r.1], v8) (subEnv_cons rfl (subEnv_cons rfl (subEnv_cons (congrArg (fun z => some (I z)) hnx2) (subEnv_nil _)))) ⟨by simp only; omega, by simp only [List.length_append, List.length_cons, List.length_nil]; omega, hall', hgo, E8, ho8⟩ (by simp only; omega)
  · refine TC_any mixed rfl ?_
    intro w6 hE hz6
    (refine Jco 0 rfl (by kernel_rfl) (by kernel_rfl) (by kernel_rfl) (fun _ _ _ h => h) hE (by exact Jaa rfl) rfl ?_; refine Jco 1 rfl (by kernel_rfl) (by kernel_rfl) (by kernel_rfl) (fun _ _ _ h => h) hE (by exact Jal rfl rfl) rfl ?_; refine Jco 2 rfl (by kernel_rfl) (by kernel_rfl) (by kernel_rfl) (fun _ _ _ h => h) hE (by exact Jaa rfl) rfl ?_)
    rw [show (!decide (r.2.2 = 0)) = true from by simp [hcode]]
    (refine Jcq 3 rfl (by kernel_rfl) (by kernel_rfl) (by kernel_rfl) (fun _ _ _ h => h) hE rfl rfl rfl rfl rfl ?_; refine Jcq 4 rfl (by kernel_rfl) (by kernel_rfl) (by kernel_rfl) (fun _ _ _ h => h) hE rfl rfl rfl rfl rfl ?_; refine Jcq 5 rfl (by kernel_rfl) (by kernel_rfl) (by kernel_rfl) (fun _ _ _ h => h) hE rfl rfl rfl rfl rfl ?_; refine Jcq 6 rfl (by kernel_rfl) (by kernel_rfl) (by kernel_rfl) (fun _ _ _ h => h) hE rfl rfl rfl rfl rfl ?_; refine TA_pass_undef 7 rfl (by kernel_rfl) (by kernel_rfl) (by kernel_rfl) (fun _ _ _ h => h) hE rfl rfl rfl rfl ?_; refine TA_pass_undef 8 rfl (by kernel_rfl) (by kernel_rfl) (by kernel_rfl) (fun _ _ _ h => h) hE rfl rfl rfl rfl ?_; refine TA_pass_undef 9 rfl (by kernel_rfl) (by kernel_rfl) (by kernel_rfl) (fun _ _ _ h => h) hE rfl rfl rfl rfl ?_; refine TA_pass_undef 10 rfl (by kernel_rfl) (by kernel_rfl) (by kernel_rfl) (fun _ _ _ h => h) hE rfl rfl rfl rfl ?_; refine TA_pass_undef 11 rfl (by kernel_rfl) (by kernel_rfl) (by kernel_rfl) (fun _ _ _ h => h) hE rfl rfl rfl rfl ?_; refine TA_pass_undef 12 rfl (by kernel_rfl) (by kernel_rfl) (by kernel_rfl) (fun _ _ _ h => h) hE rfl rfl rfl rfl ?_; refine TA_pass_undef 13 rfl (by kernel_rfl) (by kernel_rfl) (by kernel_rfl) (fun _ _ _ h => h) hE rfl rfl rfl rfl ?_; refine TA_pass_undef 14 rfl (by kernel_rfl) (by kernel_rfl) (by kernel_rfl) (fun _ _ _ h => h) hE rfl rfl rfl rfl ?_; refine TA_pass_undef 15 rfl (by kernel_rfl) (by kernel_rfl) (by kernel_rfl) (fun _ _ _ h => h) hE rfl rfl rfl rfl ?_; refine TA_pass_undef 16 rfl (by kernel_rfl) (by kernel_rfl) (by kernel_rfl) (fun _ _ _ h => h) hE rfl rfl rfl rfl ?_; refine TA_pass_undef 17 rfl (by kernel_rfl) (by kernel_rfl) (by kernel_rfl) (fun _ _ _ h => h) hE rfl rfl rfl rfl ?_; refine Jcq 18 rfl (by kernel_rfl) (by kernel_rfl) (by kernel_rfl) (fun _ _ _ h => h) hE rfl rfl rfl rfl rfl ?_; refine Jco 19 rfl (by kernel_rfl) (by kernel_rfl) (by kernel_rfl) (fun _ _ _ h => h) hE (by exact Jah rfl rfl) rfl ?_)
    refine TA_done (by kernel_rfl) ?_
    rw [heq, hend (fun q => hcode q.1)]
    repeat' (first | apply Jbq | apply Jbr | apply Jbs | apply Jbt | apply Jbu | apply Jbv | apply Jbw | (refine Jce rfl ?_) | (apply Jcg; (first | exact Jaa rfl | exact Jab rfl); exact rfl))
    exact TR_of (res2 rfl rfl rfl) ⟨_, by rw [List.append_nil], E5.ext hE, by rw [List.append_nil]; exact ⟨_, _, rfl, (hown2.ext hE).wide (Nat.le_refl _) (by have := hE.size; omega) (Nat.le_refl _)⟩⟩
set_option maxHeartbeats 8000000 in
theorem implScan_k {lo hi : Nat} {vb : Value} {b : List UInt8} {w : World} (hR : RB w lo hi vb b) (hl : b.length ≤ 1048576) :
    Ret Tryz.prog 103 #[vb] w fun v w' => ∃ v', v = .tuple #[v', I (pScan b).2] ∧ Ext w w' ∧ OE w' w.heap.size w'.heap.size v' (pScan b).1 := by
  obtain ⟨A, c, rfl, hc, hr⟩ := hR
  refine Ret_enter Tryz.func103 rfl rfl rfl ?_
  repeat' (first | apply Jbq | apply Jbr | apply Jbs | apply Jbt | apply Jby | (apply Jcg; exact Jab rfl; exact rfl))
  refine TC_loop (ι := Nat × List Ent × Value) (fun x => [(0, .slice A b.length c), (4, x.2.2), (5, I x.1)])
    (fun x w' => x.1 ≤ b.length ∧ 10 * x.2.1.length ≤ x.1 ∧ (∀ e ∈ x.2.1, pEntry e.1 e.2 = true) ∧ pScan b = (x.2.1 ++ (scanFrom b (lastNum x.2.1) x.1).1, (scanFrom b (lastNum x.2.1) x.1).2) ∧ Ext w w' ∧ OE w' w.heap.size w'.heap.size x.2.2 x.2.1) (fun x => b.length - x.1) (0, [], _) (subEnv_cons rfl (subEnv_cons rfl (subEnv_cons rfl (subEnv_nil _))))
    ⟨Nat.zero_le _, Nat.le_refl _, by simp, rfl, by first | exact e1 | exact Ch.refl _ _, by first | exact OE_new (s := []) rfl hown1 hg1 hz1 | exact OE.nil _ _ (Nat.le_refl _)⟩ ?_
  rintro ⟨a, acc, va⟩ w2 ⟨ha, hacc, hall, heq, e2, ho2⟩
  simp only at ha hacc hall heq ho2
  repeat' (first | apply Jbs | apply Jbt | apply Jby | (apply Jcg; exact Jaa rfl; exact rfl))
  refine TL_call rfl en153 (implFrameRead_k (i := a) ⟨_, _, rfl, hc, hr.ext e2⟩ hl (by omega)) rfl rfl ?_
  rintro _ w3 ⟨rfl, e3⟩
  obtain ⟨r, hrr⟩ : ∃ r, r = pReadF b a := ⟨_, rfl⟩
  have hnx := fun h => readF_next (b := b) (i := a) h
  rw [← hrr] at hnx ⊢
  have hend := scanFrom_end (b := b) (p := lastNum acc) (a := a)
  have hstep := scanFrom_step (b := b) (p := lastNum acc) (a := a)
  rw [← hrr] at hend hstep
  replace e2 := e2.ext e3
  replace ho2 := ho2.ext e3
  have hs2 := e2.size
  have hh2 := ho2.hi_le
  clear e3 hrr
  repeat' ((apply Jcg; (first | exact Jaa rfl | exact Jae rfl rfl); exact rfl))
  refine TL_alloc Zs.h rfl rfl ?_
  intro w4 g4 e4 hg4 hz4 hb4
  skip
  refine TL_storeAgg rfl rfl Sz.h rfl hb4 rfl ?_
  clear hb4
  intro w5 c5 hz5 hb5
  have E5 : Ext w w5 := Ext.then_iv (e2.ext e4) c5 (by omega)
  replace ho2 := (ho2.ext e4).ch c5 (by intro k _ _; simp only [Iv]; omega)
  have hs5 : w3.heap.size + 1 = w5.heap.size := by omega
  have hgl := hb5.lt
  clear e2 e4 c5
  obtain ⟨A2, c2, rfl, hown2⟩ := ho2
  have hld : ∀ w', Ext w5 w' → w'.cell? ((⟨g4, 0, none⟩ : Addr).add 0) = some (I r.1.1) := fun w' e => (hb5.ext e).ld rfl
  have hrec : ∀ w', Ext w5 w' → ∀ j u, (entC r.1)[j]? = some u → w'.cell? ((⟨g4, 0, none⟩ : Addr).add j) = some u := fun w' e j u hu => by rw [add0]; exact e.cell ((hb5.cell j).trans hu)
  clear hb5
  repeat' (first | apply Jbq | apply Jbr | apply Jbs | (apply Jcg; exact Jab rfl; exact rfl))
  by_cases hcode : r.2.2 = 0
  · obtain ⟨_, hn1, hn2, hn3, hn4⟩ := hnx hcode
    have hent := pEntry_iff.1 hn3
    obtain ⟨nx, hnx2⟩ := Int.eq_ofNat_of_zero_le (show 0 ≤ r.2.1 by omega)
    have hnxn : r.2.1.toNat = nx := by omega
    -- what follows when the record is taken
    have go : follows (lastNum acc) r.1.1 = true → pScan b = ((acc ++ [r.1]) ++ (scanFrom b (lastNum (acc ++ [r.1])) nx).1, (scanFrom b (lastNum (acc ++ [r.1])) nx).2) := fun hf => by
      rw [heq, hstep hcode hf, lastNum_snoc, hnxn]; simp
    have hall' : ∀ e ∈ acc ++ [r.1], pEntry e.1 e.2 = true := fun e he => by
      rcases List.mem_append.1 he with h | h
      · exact hall e h
      · rw [List.mem_singleton.1 h]; exact hn3
    by_cases hac : 0 < acc.length
    · have hfs := follows_snoc (l := acc) (n := r.1.1) hac
      have hlast := pEntry_iff.1 (hall _ (List.getElem_mem (show acc.length - 1 < acc.length by omega)))
      obtain ⟨ad, rfl, hcell⟩ := Rd.elem entC_len hown2.rd (show acc.length - 1 < acc.length by omega)
      have hc1 : w5.cell? ((ad.add (((acc.length : Int) - 1).toNat * 2)).add 0) = some (I (acc[acc.length - 1]'(by omega)).1) := by
        rw [show ((acc.length : Int) - 1).toNat = acc.length - 1 by omega]; exact hcell 0 _ rfl
      refine TC_any mixed rfl ?_
      intro w6 hE hz6
      (refine Jco 0 rfl (by kernel_rfl) (by kernel_rfl) (by kernel_rfl) (fun _ _ _ h => h) hE (by exact Jaa rfl) rfl ?_; refine Jco 1 rfl (by kernel_rfl) (by kernel_rfl) (by kernel_rfl) (fun _ _ _ h => h) hE (by exact Jal rfl rfl) rfl ?_; refine Jco 2 rfl (by kernel_rfl) (by kernel_rfl) (by kernel_rfl) (fun _ _ _ h => h) hE (by exact Jaa rfl) rfl ?_)
      rw [show (!decide (r.2.2 = 0)) = false from by simp [hcode]]
      (refine Jcp 3 rfl (by kernel_rfl) (by kernel_rfl) (by kernel_rfl) (fun _ _ _ h => h) hE rfl rfl rfl (by exact Jaa rfl) rfl ?_; refine Jcp 4 rfl (by kernel_rfl) (by kernel_rfl) (by kernel_rfl) (fun _ _ _ h => h) hE rfl rfl rfl (by exact Jac Us.h rfl) rfl ?_; refine Jcp 5 rfl (by kernel_rfl) (by kernel_rfl) (by kernel_rfl) (fun _ _ _ h => h) hE rfl rfl rfl (by exact Jam rfl rfl) rfl ?_; refine Jcp 6 rfl (by kernel_rfl) (by kernel_rfl) (by kernel_rfl) (fun _ _ _ h => h) hE rfl rfl rfl (by exact Jaa rfl) rfl ?_)
      rw [decide_eq_true (show (0 : Int) < (acc.length : Int) by omega)]
      (refine Jcp 7 rfl (by kernel_rfl) (by kernel_rfl) (by kernel_rfl) (fun _ _ _ h => h) hE rfl rfl rfl (by exact Jaa rfl) rfl ?_; refine Jcp 8 rfl (by kernel_rfl) (by kernel_rfl) (by kernel_rfl) (fun _ _ _ h => h) hE rfl rfl rfl (by exact Jaa rfl) rfl ?_; refine Jcp 9 rfl (by kernel_rfl) (by kernel_rfl) (by kernel_rfl) (fun _ _ _ h => h) hE rfl rfl rfl (by exact Jac Us.h rfl) rfl ?_; refine Jcp 10 rfl (by kernel_rfl) (by kernel_rfl) (by kernel_rfl) (fun _ _ _ h => h) hE rfl rfl rfl (by exact Jap rfl rfl (by omega)) rfl ?_; refine Jcp 11 rfl (by kernel_rfl) (by kernel_rfl) (by kernel_rfl) (fun _ _ _ h => h) hE rfl rfl rfl (by exact Jar Us.h Sz.h rfl rfl (by omega)) rfl ?_; refine Jcp 12 rfl (by kernel_rfl) (by kernel_rfl) (by kernel_rfl) (fun _ _ _ h => h) hE rfl rfl rfl (by (apply Jbl; exact Us.h; exact rfl; exact Sz.h; exact rfl)) rfl ?_; refine Jcp 13 rfl (by kernel_rfl) (by kernel_rfl) (by kernel_rfl) (fun _ _ _ h => h) hE rfl rfl rfl (by exact Pu_load Fl.h rfl (fun _ e => Ext.cell e hc1)) rfl ?_; refine Jcp 14 rfl (by kernel_rfl) (by kernel_rfl) (by kernel_rfl) (fun _ _ _ h => h) hE rfl rfl rfl (by exact Jaf rfl rfl (by omega)) rfl ?_; refine Jcp 15 rfl (by kernel_rfl) (by kernel_rfl) (by kernel_rfl) (fun _ _ _ h => h) hE rfl rfl rfl (by (apply Jbl; exact Us.h; exact rfl; exact Sz.h; exact rfl)) rfl ?_; refine Jcp 16 rfl (by kernel_rfl) (by kernel_rfl) (by kernel_rfl) (fun _ _ _ h => h) hE rfl rfl rfl (by exact Pu_load Fl.h rfl hld) rfl ?_; refine Jcp 17 rfl (by kernel_rfl) (by kernel_rfl) (by kernel_rfl) (fun _ _ _ h => h) hE rfl rfl rfl (by exact Jal rfl rfl) rfl ?_; refine Jcp 18 rfl (by kernel_rfl) (by kernel_rfl) (by kernel_rfl) (fun _ _ _ h => h) hE rfl rfl rfl (by exact Jah rfl rfl) rfl ?_; refine Jco 19 rfl (by kernel_rfl) (by kernel_rfl) (by kernel_rfl) (fun _ _ _ h => h) hE (by exact Jai rfl rfl) rfl ?_)
      refine TA_done (by kernel_rfl) ?_
      repeat' (apply Jbr)
      refine Jcy rfl (fun hne => ?_) (fun hfo => ?_)
      · have hend2 := hend (fun q => by have := q.2; rw [hfs] at this; have := of_decide_eq_true this; omega)
        rw [heq, hend2]
        repeat' (first | apply Jbq | apply Jbr | apply Jbs | apply Jbt | apply Jbu | apply Jbv | apply Jbw | (apply Jcg; (first | exact Jaa rfl | exact Jab rfl); exact rfl))
        exact TR_of (res2 rfl rfl rfl) ⟨_, by rw [List.append_nil], E5.ext hE, by rw [List.append_nil]; exact ⟨_, _, rfl, (hown2.ext hE).wide (Nat.le_refl _) (by have := hE.size; omega) (Nat.le_refl _)⟩⟩
      · have hgo := go (by rw [hfs]; exact decide_eq_true (by omega))
        have hrec2 := fun e => hrec w6 (hE.ext e)
        repeat' (first | apply Jbr | apply Jbs | apply Jbt | apply Jbz | (apply Jcg; exact Jaa rfl; exact rfl) | refine Jcg (Pu_loadAgg (cs := entC r.1) Us.h rfl Sz.h rfl (fun _ e j u hu => by rw [e]; exact hrec w6 hE j u hu)) rfl ?_)
        refine TL_buildSlice (us := ents [r.1]) Us.h Zi.h rfl rfl rfl rfl (fillE _) rfl rfl ?_
        intro w7 g7 e7 hg7 hz7 hown7
        refine TL_appendE Us.h rfl rfl ⟨_, _, rfl, (hown2.ext hE).ext e7⟩ (OE_new (s := [_]) rfl hown7 hg7 hz7).rd (by have := hE.size; have := e7.size; omega) (by simp only [List.length_cons, List.length_nil]; omega) rfl ?_
        intro w8 v8 c8 ho8
        have E8 : Ext w w8 := Ext.then_iv ((E5.ext hE).ext e7) c8 (Nat.le_refl _)
        repeat' (first | apply Jbq | apply Jbr | apply Jbt | apply Jbx | (apply Jcg; (first | exact Jaa rfl | exact Jab rfl); exact rfl))
        exact TN_round (nx, acc ++ [r.1], v8) (subEnv_cons rfl (subEnv_cons rfl (subEnv_cons (congrArg (fun z => some (I z)) hnx2) (subEnv_nil _)))) ⟨by simp only; omega, by simp only [List.length_append, List.length_cons, List.length_nil]; omega, hall', hgo, E8, ho8⟩ (by simp only; omega)
    · obtain rfl : acc = [] := List.eq_nil_of_length_eq_zero (by omega)
      refine TC_any mixed rfl ?_
      intro w6 hE hz6
      (refine Jco 0 rfl (by kernel_rfl) (by kernel_rfl) (by kernel_rfl) (fun _ _ _ h => h) hE (by exact Jaa rfl) rfl ?_; refine Jco 1 rfl (by kernel_rfl) (by kernel_rfl) (by kernel_rfl) (fun _ _ _ h => h) hE (by exact Jal rfl rfl) rfl ?_; refine Jco 2 rfl (by kernel_rfl) (by kernel_rfl) (by kernel_rfl) (fun _ _ _ h => h) hE (by exact Jaa rfl) rfl ?_)
      rw [show (!decide (r.2.2 = 0)) = false from by simp [hcode]]
      (refine Jcp 3 rfl (by kernel_rfl) (by kernel_rfl) (by kernel_rfl) (fun _ _ _ h => h) hE rfl rfl rfl (by exact Jaa rfl) rfl ?_; refine Jcp 4 rfl (by kernel_rfl) (by kernel_rfl) (by kernel_rfl) (fun _ _ _ h => h) hE rfl rfl rfl (by exact Jac Us.h rfl) rfl ?_; refine Jcp 5 rfl (by kernel_rfl) (by kernel_rfl) (by kernel_rfl) (fun _ _ _ h => h) hE rfl rfl rfl (by exact Jam rfl rfl) rfl ?_; refine Jcp 6 rfl (by kernel_rfl) (by kernel_rfl) (by kernel_rfl) (fun _ _ _ h => h) hE rfl rfl rfl (by exact Jaa rfl) rfl ?_; refine Jcq 7 rfl (by kernel_rfl) (by kernel_rfl) (by kernel_rfl) (fun _ _ _ h => h) hE rfl rfl rfl rfl rfl ?_; refine Jcq 8 rfl (by kernel_rfl) (by kernel_rfl) (by kernel_rfl) (fun _ _ _ h => h) hE rfl rfl rfl rfl rfl ?_; refine Jcq 9 rfl (by kernel_rfl) (by kernel_rfl) (by kernel_rfl) (fun _ _ _ h => h) hE rfl rfl rfl rfl rfl ?_; refine Jcq 10 rfl (by kernel_rfl) (by kernel_rfl) (by kernel_rfl) (fun _ _ _ h => h) hE rfl rfl rfl rfl rfl ?_; refine Jcq 11 rfl (by kernel_rfl) (by kernel_rfl) (by kernel_rfl) (fun _ _ _ h => h) hE rfl rfl rfl rfl rfl ?_; refine Jcq 12 rfl (by kernel_rfl) (by kernel_rfl) (by kernel_rfl) (fun _ _ _ h => h) hE rfl rfl rfl rfl rfl ?_; refine Jcq 13 rfl (by kernel_rfl) (by kernel_rfl) (by kernel_rfl) (fun _ _ _ h => h) hE rfl rfl rfl rfl rfl ?_; refine Jcq 14 rfl (by kernel_rfl) (by kernel_rfl) (by kernel_rfl) (fun _ _ _ h => h) hE rfl rfl rfl rfl rfl ?_; refine Jcq 15 rfl (by kernel_rfl) (by kernel_rfl) (by kernel_rfl) (fun _ _ _ h => h) hE rfl rfl rfl rfl rfl ?_; refine Jcq 16 rfl (by kernel_rfl) (by kernel_rfl) (by kernel_rfl) (fun _ _ _ h => h) hE rfl rfl rfl rfl rfl ?_; refine Jcq 17 rfl (by kernel_rfl) (by kernel_rfl) (by kernel_rfl) (fun _ _ _ h => h) hE rfl rfl rfl rfl rfl ?_; refine Jcp 18 rfl (by kernel_rfl) (by kernel_rfl) (by kernel_rfl) (fun _ _ _ h => h) hE rfl rfl rfl (by exact Jai rfl rfl) rfl ?_; refine Jco 19 rfl (by kernel_rfl) (by kernel_rfl) (by kernel_rfl) (fun _ _ _ h => h) hE (by exact Jai rfl rfl) rfl ?_)
      refine TA_done (by kernel_rfl) ?_
      have hgo := go rfl
      repeat' (first | apply Jbr | apply Jbs | apply Jbt | apply Jbz | (refine Jcf rfl ?_) | (apply Jcg; exact Jaa rfl; exact rfl) | refine Jcg (Pu_loadAgg (cs := entC r.1) Us.h rfl Sz.h rfl (fun _ e j u hu => by rw [e]; exact hrec w6 hE j u hu)) rfl ?_)
      refine TL_buildSlice (us := ents [r.1]) Us.h Zi.h rfl rfl rfl rfl (fillE _) rfl rfl ?_
      intro w7 g7 e7 hg7 hz7 hown7
      refine TL_appendE Us.h rfl rfl ⟨_, _, rfl, (hown2.ext hE).ext e7⟩ (OE_new (s := [_]) rfl hown7 hg7 hz7).rd (by have := hE.size; have := e7.size; omega) (by simp only [List.length_cons, List.length_nil]; omega) rfl ?_
      intro w8 v8 c8 ho8
      have E8 : Ext w w8 := Ext.then_iv ((E5.ext hE).ext e7) c8 (Nat.le_refl _)
      repeat' (first | apply Jbq | apply Jbr | apply Jbt | apply Jbx | (apply Jcg; (first | exact Jaa rfl | exact Jab rfl); exact rfl))
      exact TN_round (nx, [] ++ [r.1], v8) (subEnv_cons rfl (subEnv_cons rfl (subEnv_cons (congrArg (fun z => some (I z)) hnx2) (subEnv_nil _)))) ⟨by simp only; omega, by simp only [List.length_append, List.length_cons, List.length_nil]; omega, hall', hgo, E8, ho8⟩ (by simp only; omega)
  · refine TC_any mixed rfl ?_
    intro w6 hE hz6
    (refine Jco 0 rfl (by kernel_rfl) (by kernel_rfl) (by kernel_rfl) (fun _ _ _ h => h) hE (by exact Jaa rfl) rfl ?_; refine Jco 1 rfl (by kernel_rfl) (by kernel_rfl) (by kernel_rfl) (fun _ _ _ h => h) hE (by exact Jal rfl rfl) rfl ?_; refine Jco 2 rfl (by kernel_rfl) (by kernel_rfl) (by kernel_rfl) (fun _ _ _ h => h) hE (by exact Jaa rfl) rfl ?_)
    rw [show (!decide (r.2.2 = 0)) = true from by simp [hcode]]
    (refine Jcq 3 rfl (by kernel_rfl) (by kernel_rfl) (by kernel_rfl) (fun _ _ _ h => h) hE rfl rfl rfl rfl rfl ?_; refine Jcq 4 rfl (by kernel_rfl) (by kernel_rfl) (by kernel_rfl) (fun _ _ _ h => h) hE rfl rfl rfl rfl rfl ?_; refine Jcq 5 rfl (by kernel_rfl) (by kernel_rfl) (by kernel_rfl) (fun _ _ _ h => h) hE rfl rfl rfl rfl rfl ?_; refine Jcq 6 rfl (by kernel_rfl) (by kernel_rfl) (by kernel_rfl) (fun _ _ _ h => h) hE rfl rfl rfl rfl rfl ?_; refine TA_pass_undef 7 rfl (by kernel_rfl) (by kernel_rfl) (by kernel_rfl) (fun _ _ _ h => h) hE rfl rfl rfl rfl ?_; refine TA_pass_undef 8 rfl (by kernel_rfl) (by kernel_rfl) (by kernel_rfl) (fun _ _ _ h => h) hE rfl rfl rfl rfl ?_; refine TA_pass_undef 9 rfl (by kernel_rfl) (by kernel_rfl) (by kernel_rfl) (fun _ _ _ h => h) hE rfl rfl rfl rfl ?_; refine TA_pass_undef 10 rfl (by kernel_rfl) (by kernel_rfl) (by kernel_rfl) (fun _ _ _ h => h) hE rfl rfl rfl rfl ?_; refine TA_pass_undef 11 rfl (by kernel_rfl) (by kernel_rfl) (by kernel_rfl) (fun _ _ _ h => h) hE rfl rfl rfl rfl ?_; refine TA_pass_undef 12 rfl (by kernel_rfl) (by kernel_rfl) (by kernel_rfl) (fun _ _ _ h => h) hE rfl rfl rfl rfl ?_; refine TA_pass_undef 13 rfl (by kernel_rfl) (by kernel_rfl) (by kernel_rfl) (fun _ _ _ h => h) hE rfl rfl rfl rfl ?_; refine TA_pass_undef 14 rfl (by kernel_rfl) (by kernel_rfl) (by kernel_rfl) (fun _ _ _ h => h) hE rfl rfl rfl rfl ?_; refine TA_pass_undef 15 rfl (by kernel_rfl) (by kernel_rfl) (by kernel_rfl) (fun _ _ _ h => h) hE rfl rfl rfl rfl ?_; refine TA_pass_undef 16 rfl (by kernel_rfl) (by kernel_rfl) (by kernel_rfl) (fun _ _ _ h => h) hE rfl rfl rfl rfl ?_; refine TA_pass_undef 17 rfl (by kernel_rfl) (by kernel_rfl) (by kernel_rfl) (fun _ _ _ h => h) hE rfl rfl rfl rfl ?_; refine Jcq 18 rfl (by kernel_rfl) (by kernel_rfl) (by kernel_rfl) (fun _ _ _ h => h) hE rfl rfl rfl rfl rfl ?_; refine Jco 19 rfl (by kernel_rfl) (by kernel_rfl) (by kernel_rfl) (fun _ _ _ h => h) hE (by exact Jah rfl rfl) rfl ?_)
    refine TA_done (by kernel_rfl) ?_
    rw [heq, hend (fun q => hcode q.1)]
    repeat' (first | apply Jbq | apply Jbr | apply Jbs | apply Jbt | apply Jbu | apply Jbv | apply Jbw | (refine Jce rfl ?_) | (apply Jcg; (first | exact Jaa rfl | exact Jab rfl); exact rfl))
    exact TR_of (res2 rfl rfl rfl) ⟨_, by rw [List.append_nil], E5.ext hE, by rw [List.append_nil]; exact ⟨_, _, rfl, (hown2.ext hE).wide (Nat.le_refl _) (by have := hE.size; omega) (Nat.le_refl _)⟩⟩
end Go.Proofs.YtggaghghclomkaaGreat

/- Contracts: the entries of a disk. -/
namespace Go.Proofs.YtggaghghclomkaaGreat
open Go.RowKit
def histT : List UInt8 := [104, 105, 115, 116]
def tempT : List UInt8 := [116, 101, 109, 112]
attribute [local irreducible] TL TC TN TX TR TQ TA Pu Ret
end Go.Proofs.YtggaghghclomkaaGreat

/- Stores that can be read, and the laws' helpers on them. -/
namespace Go.Proofs.YtggaghghclomkaaGreat
open Go.RowKit
attribute [local irreducible] TL TC TN TX TR TQ TA Pu Ret

theorem Blk.storedL {g : Nat} {tb : TypeId} : ∀ (us : List Value) (off : Nat) (w : World) (cs : List Value), Blk w g tb cs → Blk (w.setCells g off us) g tb (setL cs off us) ∧ Ch (Iv g (g + 1)) w (w.setCells g off us) ∧ (w.setCells g off us).heap.size = w.heap.size
  | [], off, w, cs, h => ⟨h, Ch.refl _ _, rfl⟩
  | v :: r, off, w, cs, h => by
    have h1 : Blk (w.setCell ⟨g, off, none⟩ v) g tb (cs.set off v) := by
      unfold Blk
      rw [heap_setCell_same w g off cs.toArray tb v h]
      simp
    have c1 : Ch (Iv g (g + 1)) w (w.setCell ⟨g, off, none⟩ v) := ⟨rfl, rfl, rfl, by simp, fun k _ hk => heap_setCell_other w ⟨g, off, none⟩ k v (fun e => hk (by simp [Iv, e]))⟩
    obtain ⟨h2, c2, z2⟩ := Blk.storedL r (off + 1) _ _ h1
    exact ⟨h2, c1.then c2, by rw [show (w.setCells g off (v :: r)) = (w.setCell ⟨g, off, none⟩ v).setCells g (off + 1) r from rfl, z2]; simp⟩
section
variable {P : Program} {L : List Oper} {Q : Exit → Act → World → Prop} {n : Nat} {l : Env} {w : World} {rest : List Oper} {ty t : TypeId} {pos : String} {af : Array Edge} {x y : Operand}
/-- A value of several cells goes into a part of a block. -/
theorem TL_storeBlk {g off : Nat} {tb : TypeId} {cs us : List Value} {ad : Addr} (hx : ev l x = some (.pointer (some ad))) (had : ad = ⟨g, off, none⟩) (hy : ev l y = some (.agg us.toArray)) (hz : (P.info? t).map (·.size) = some us.length) (hv : us.all (·.oneCell') = true)
    (hb : Blk w g tb cs) (hoff : off + us.length ≤ cs.length)
    (h : ∀ w', Ch (Iv g (g + 1)) w w' → w'.heap.size = w.heap.size → Blk w' g tb (setL cs off us) → TL P L Q rest n l w') :
    TL P L Q (⟨none, .store t x y, ty, pos, af, none⟩ :: rest) n l w := by
  subst had
  obtain ⟨h1, h2, h3⟩ := Blk.storedL us off w cs hb
  refine TL_skipped (w' := w.setCells g off us) rfl rfl (fun a ha => ?_) (h _ h2 h3 h1)
  have := run_storeAt_mid (P := P) w g off t us.toArray (fun j hj => ⟨by rw [hb.cell (off + j), List.getElem?_eq_getElem (by simp at hj; omega)]; rfl, hb.frozen _⟩) (by simpa using hz) (by simpa using hv)
  simp [execOp, ha.eval hx, ha.eval hy, this]
end
structure StoreP where
  disk : DiskP
  keep : Int
  size : Int
  list : List Ent
  len : Int
def stoC (s : StoreP) (sn sk st sl : Value) : List Value := [I s.disk.room, I s.disk.fuse, I s.disk.next, sn, sk, st, I s.keep, I s.size, sl, I s.len]
theorem stoC_disk {s : StoreP} {sn sk st sl : Value} {j : Nat} {u : Value} (h : (dskC s.disk sn sk st)[j]? = some u) : (stoC s sn sk st sl)[j]? = some u := by
  have hl : j < (dskC s.disk sn sk st).length := (List.getElem?_eq_some_iff.1 h).1
  rw [show stoC s sn sk st sl = dskC s.disk sn sk st ++ [I s.keep, I s.size, sl, I s.len] from rfl, List.getElem?_append_left hl, h]
def RSt (w : World) (lo hi : Nat) (s : StoreP) (sn sk st sl : Value) : Prop := RDk w lo hi s.disk sn sk st ∧ RE w lo hi sl s.list
def totS (s : StoreP) : Int := totD s.disk + (s.list.length + totE s.list)
def StoreP.fits (s : StoreP) : Prop := s.disk.fits ∧ s.list.length ≤ 9223372036854775807 ∧ ∀ d ∈ s.list, ((-9223372036854775808 ≤ d.1 ∧ d.1 ≤ 9223372036854775807) ∧ d.2.length ≤ 9223372036854775807)
theorem RE.wide {w : World} {lo hi lo' hi' : Nat} {v : Value} {l : List Ent} (h : RE w lo hi v l) (h1 : lo' ≤ lo) (h2 : hi ≤ hi') (h3 : hi' ≤ w.heap.size) : RE w lo' hi' v l := by
  obtain ⟨A, c, e, hc, hr⟩ := h
  exact ⟨A, c, e, hc, hr.wide h1 h2 h3⟩
theorem RE.one {w : World} {lo hi : Nat} {v : Value} {l : List Ent} (h : RE w lo hi v l) : v.oneCell' = true := by obtain ⟨A, c, rfl, _⟩ := h; rfl
theorem RSt.ch {w w' : World} {lo hi : Nat} {s : StoreP} {sn sk st sl : Value} {T : Nat → Prop} (h : RSt w lo hi s sn sk st sl) (c : Ch T w w') (hd : ∀ k, lo ≤ k → k < hi → ¬ T k) : RSt w' lo hi s sn sk st sl := ⟨h.1.ch c hd, h.2.ch c hd⟩
theorem RSt.ext {w w' : World} {lo hi : Nat} {s : StoreP} {sn sk st sl : Value} (h : RSt w lo hi s sn sk st sl) (c : Ext w w') : RSt w' lo hi s sn sk st sl := h.ch c (fun _ _ _ t => t)
theorem RSt.one {w : World} {lo hi : Nat} {s : StoreP} {sn sk st sl : Value} (h : RSt w lo hi s sn sk st sl) : (stoC s sn sk st sl).all (·.oneCell') = true := by
  simp only [stoC, List.all_cons, List.all_nil, h.1.1.one, h.1.2.1.one, h.1.2.2.one, h.2.one]; rfl
theorem totD_nn (d : DiskP) : 0 ≤ totD d := by
  have h1 := totNd_nn d.nodes
  have h2 := totLk_nn d.kept
  have h3 := totTn_nn d.turns
  unfold totD
  omega
theorem totS_parts {s : StoreP} (h : totS s ≤ 1048576) : totD s.disk ≤ 1048576 ∧ s.list.length ≤ 1048576 := by
  have h1 := totD_nn s.disk
  have h2 := totE_nn s.list
  unfold totS at h
  omega
theorem blk_disk {w w' : World} {g : Nat} {tb : TypeId} {s : StoreP} {sn sk st sl : Value} (hb : Blk w g tb (stoC s sn sk st sl)) (e : w' = w) (j : Nat) (u : Value) (hu : (dskC s.disk sn sk st)[j]? = some u) : w'.cell? (((⟨g, 0, none⟩ : Addr).add 0).add j) = some u := by
  rw [e, add_of_add, add0, Nat.zero_add, hb.cell]; exact stoC_disk hu
end Go.Proofs.YtggaghghclomkaaGreat
