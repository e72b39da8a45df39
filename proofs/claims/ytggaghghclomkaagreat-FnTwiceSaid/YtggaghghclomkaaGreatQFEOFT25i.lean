/- Texts of this proof laid together, in the order in which they build; what each proves stands ahead of it. No condition but those told there. -/
import Derived.Test.YtggaghghclomkaaGreatQFEOFT25h
import Derived.Lib.AppendStr

/- Contracts: checksums. -/
namespace Go.Proofs.YtggaghghclomkaaGreat
open Go.RowKit
attribute [local irreducible] TL TC TN TX TR TQ TA Pu Ret

theorem xorI (a b : Nat) (ha : a < 4294967296) (hb : b < 4294967296) : bitv .xor .i64 (a : Int) (b : Int) = ((a ^^^ b : Nat) : Int) := bit_xor64 a b (by omega) (by omega)
theorem crcBit_odd {r : Nat} (h : r % 2 = 1) : crcBit r = (r / 2) ^^^ 3988292384 := by unfold crcBit; rw [if_pos h]
theorem crcBit_even {r : Nat} (h : ¬ r % 2 = 1) : crcBit r = r / 2 := by unfold crcBit; rw [if_neg h]
set_option maxHeartbeats 2000000 in
theorem specCrc32_k {lo hi : Nat} {vb : Value} {b : List UInt8} {w : World} (hR : RB w lo hi vb b) (hl : b.length ≤ 1048576) :
    Ret Tryz.prog 167 #[vb] w fun v w' => v = I (crc b) ∧ Ext w w' := by
  obtain ⟨A, c, rfl, hc, hr⟩ := hR
  refine Ret_enter Tryz.func167 rfl rfl rfl ?_
  repeat' (first | apply Jbq | apply Jbr | apply Jbs | apply Jbt | apply Jby | (apply Jcg; exact Jab rfl; exact rfl))
  refine TC_loop (ι := Nat) (fun i => [(0, .slice A b.length c), (3, I (crcR 4294967295 (b.take i))), (4, I i)]) (fun i w' => i ≤ b.length ∧ w = w') (fun i => b.length - i) 0 (subEnv_cons rfl (subEnv_cons rfl (subEnv_cons rfl (subEnv_nil _)))) ⟨Nat.zero_le _, rfl⟩ ?_
  rintro i _ ⟨hi, rfl⟩
  repeat' (first | apply Jbq | apply Jbr | apply Jbs | apply Jbt | (apply Jcg; (first | exact Jaa rfl | exact Jac Us.h rfl | exact Jad rfl rfl); exact rfl))
  refine Jcx rfl (fun hb => ?_) (fun hb => ?_)
  · have hlt : i < b.length := by omega
    obtain ⟨ad, rfl, hcell⟩ := hr.get hlt
    rw [u8s_get b hlt] at hcell
    have hx := (b.getD i 0).toNat_lt
    have hR := crcR_lt (b.take i) (r := 4294967295) (by omega)
    repeat' (first | apply Jbq | apply Jbr | apply Jbs | apply Jbt | apply Jby | apply Jbz | (apply Jcg; (first | exact Jaa rfl | exact Jab rfl | exact Jag Us.h Sz.h rfl rfl (by omega) | exact Jax Us.h Us.h rfl (by omega)); exact rfl) | refine Jcg (Pu_load Fl.h rfl (fun _ e => by rw [e]; exact hcell)) rfl ?_ | refine Jcg (Pu_xor rfl rfl) rfl ?_)
    rw [xorI _ _ hR (by omega)]
    obtain ⟨x, hxx⟩ : ∃ x, x = crcR 4294967295 (b.take i) ^^^ (b.getD i 0).toNat := ⟨_, rfl⟩
    have hxl : x < 4294967296 := by rw [hxx]; exact xor8_lt hR _
    rw [← hxx]
    refine TC_loop (ι := Nat) (fun k => [(0, .slice (some ad) b.length c), (3, I (crcBits x k)), (4, I i), (5, I k)]) (fun k w' => k ≤ 8 ∧ w = w') (fun k => 8 - k) 0 (subEnv_cons rfl (subEnv_cons rfl (subEnv_cons rfl (subEnv_cons rfl (subEnv_nil _))))) ⟨Nat.zero_le _, rfl⟩ ?_
    rintro k _ ⟨hk, rfl⟩
    have hk2 := crcBits_lt hxl k
    repeat' (first | apply Jbq | apply Jbr | apply Jbs | apply Jbt | (apply Jcg; (first | exact Jaa rfl | exact Jad rfl rfl); exact rfl))
    refine Jcx rfl (fun hb => ?_) (fun hb => ?_)
    · repeat' (first | apply Jbq | apply Jbr | apply Jbs | apply Jbt | apply Jby | apply Jbz | (apply Jcg; (first | exact Jaa rfl | exact Jab rfl | exact Jak rfl rfl | exact Jbi rfl rfl (by omega) | exact Jbj rfl rfl (by omega)); exact rfl))
      refine Jcx rfl (fun ho => ?_) (fun ho => ?_)
      · repeat' (first | apply Jbq | apply Jbr | apply Jbt | apply Jbx | (apply Jcg; (first | exact Jaa rfl | exact Jab rfl | exact Jaf rfl rfl (by omega)); exact rfl) | refine Jcg (Pu_xor rfl rfl) rfl ?_)
        have e : bitv .xor .i64 ((crcBits x k : Int) / 2) 3988292384 = (crcBits x (k + 1) : Nat) := by
          have := xorI (crcBits x k / 2) 3988292384 (by omega) (by omega)
          rw [crcBits, crcBit_odd (by omega)]
          exact this
        rw [e]
        exact TN_round (k + 1) (subEnv_cons rfl (subEnv_cons rfl (subEnv_cons rfl (subEnv_cons rfl (subEnv_nil _))))) ⟨by omega, rfl⟩ (by omega)
      · repeat' (first | apply Jbq | apply Jbr | apply Jbt | apply Jbx | apply Jbz | (apply Jcg; (first | exact Jaa rfl | exact Jab rfl | exact Jaf rfl rfl (by omega)); exact rfl))
        have e : (crcBits x k : Int) / 2 = (crcBits x (k + 1) : Nat) := by
          rw [crcBits, crcBit_even (by omega)]; omega
        rw [e]
        exact TN_round (k + 1) (subEnv_cons rfl (subEnv_cons rfl (subEnv_cons rfl (subEnv_cons rfl (subEnv_nil _))))) ⟨by omega, rfl⟩ (by omega)
    · obtain rfl : k = 8 := by omega
      have e : crcBits x 8 = crcR 4294967295 (b.take (i + 1)) := by rw [crcR_take hlt, hxx]; rfl
      rw [e]
      repeat' (first | apply Jbq | apply Jbr | apply Jbt | apply Jbx | apply Jca | apply Jcb | apply Jcc | (apply Jcg; (first | exact Jaa rfl | exact Jab rfl | exact Jaf rfl rfl (by omega)); exact rfl))
      exact TN_round (i + 1) (subEnv_cons rfl (subEnv_cons rfl (subEnv_cons rfl (subEnv_nil _)))) ⟨by omega, rfl⟩ (by omega)
  · obtain rfl : i = b.length := by omega
    rw [List.take_length]
    repeat' (first | apply Jbq | apply Jbr | apply Jbs | apply Jbt | apply Jbu | apply Jca | apply Jcb | apply Jcc | (apply Jcg; (first | exact Jaa rfl | exact Jab rfl); exact rfl) | refine Jcg (Pu_xor rfl rfl) rfl ?_)
    exact TR_of (res1 rfl rfl) ⟨congrArg I (xorI _ 4294967295 (crcR_lt b (by omega)) (by omega)), Ch.refl _ _⟩
theorem xorU (a b : Nat) (ha : a < 4294967296) (hb : b < 4294967296) : bitv .xor .u32 (a : Int) (b : Int) = ((a ^^^ b : Nat) : Int) := bit_xor32 a b ha hb
theorem shr1 (a : Nat) : (a : Int).fdiv (2 ^ min (1 : Int).toNat IntKind.u32.bits) = ((a / 2 : Nat) : Int) := by
  rw [Int.fdiv_eq_ediv_of_nonneg _ (by exact Int.pow_nonneg (by omega)), show (2 : Int) ^ min (1 : Int).toNat IntKind.u32.bits = 2 from by decide]; omega
theorem wrapU (x : UInt8) : IntKind.u32.wrap (x.toNat : Int) = (x.toNat : Int) := by have := x.toNat_lt; rw [IntKind.wrap_u32]; omega
set_option maxHeartbeats 2000000 in
theorem implCrc32_k {lo hi : Nat} {vb : Value} {b : List UInt8} {w : World} (hR : RB w lo hi vb b) (hl : b.length ≤ 1048576) :
    Ret Tryz.prog 164 #[vb] w fun v w' => v = I (crc b) ∧ Ext w w' := by
  obtain ⟨A, c, rfl, hc, hr⟩ := hR
  refine Ret_enter Tryz.func164 rfl rfl rfl ?_
  repeat' (first | apply Jbq | apply Jbr | apply Jbs | apply Jbt | apply Jby | (apply Jcg; (first | exact Jaa rfl | exact Jab rfl | exact Jac Us.h rfl); exact rfl))
  refine TC_loop (ι := Nat) (fun i => [(3, .int .u32 (crcR 4294967295 (b.take i) : Nat)), (7, .slice A b.length c), (8, I b.length), (9, I i)]) (fun i w' => i ≤ b.length ∧ w = w') (fun i => b.length - i) 0 (subEnv_cons rfl (subEnv_cons rfl (subEnv_cons rfl (subEnv_cons rfl (subEnv_nil _))))) ⟨Nat.zero_le _, rfl⟩ ?_
  rintro i _ ⟨hi, rfl⟩
  repeat' (first | apply Jbq | apply Jbr | apply Jbs | apply Jbt | (apply Jcg; exact Jad rfl rfl; exact rfl))
  refine Jcx rfl (fun hb => ?_) (fun hb => ?_)
  · have hlt : i < b.length := by omega
    obtain ⟨ad, rfl, hcell⟩ := hr.get hlt
    rw [u8s_get b hlt] at hcell
    have hx := (b.getD i 0).toNat_lt
    have hR := crcR_lt (b.take i) (r := 4294967295) (by omega)
    repeat' (first | apply Jbq | apply Jbr | apply Jbs | apply Jbt | apply Jby | apply Jbz | (apply Jcg; (first | exact Jaa rfl | exact Jab rfl | exact Jag Us.h Sz.h rfl rfl (by omega)); exact rfl) | refine Jcg (Pu_load Fl.h rfl (fun _ e => by rw [e]; exact hcell)) rfl ?_ | refine Jcg (Pu_xor rfl rfl) rfl ?_ | refine Jcg (Pu_convw (k2 := .u32) Us.h Us.h rfl) rfl ?_)
    rw [wrapU, xorU _ _ hR (by omega)]
    obtain ⟨x, hxx⟩ : ∃ x, x = crcR 4294967295 (b.take i) ^^^ (b.getD i 0).toNat := ⟨_, rfl⟩
    have hxl : x < 4294967296 := by rw [hxx]; exact xor8_lt hR _
    rw [← hxx]
    refine TC_loop (ι := Nat) (fun k => [(3, .int .u32 (crcBits x k : Nat)), (7, .slice (some ad) b.length c), (8, I b.length), (9, I i), (17, I k)]) (fun k w' => k ≤ 8 ∧ w = w') (fun k => 8 - k) 0 (subEnv_cons rfl (subEnv_cons rfl (subEnv_cons rfl (subEnv_cons rfl (subEnv_cons rfl (subEnv_nil _)))))) ⟨Nat.zero_le _, rfl⟩ ?_
    rintro k _ ⟨hk, rfl⟩
    have hk2 := crcBits_lt hxl k
    repeat' (first | apply Jbq | apply Jbr | apply Jbs | apply Jbt | (apply Jcg; exact Jad rfl rfl; exact rfl))
    refine Jcx rfl (fun hb => ?_) (fun hb => ?_)
    · repeat' (first | apply Jbq | apply Jbr | apply Jbs | apply Jbt | apply Jby | apply Jbz | (apply Jcg; (first | exact Jaa rfl | exact Jab rfl | exact Jak rfl rfl); exact rfl) | refine Jcg (Pu_and rfl rfl) rfl ?_ | refine Jcg (Pu_shr rfl rfl (by omega)) rfl ?_)
      rw [and_one32 _ hk2, shr1]
      skip
      refine Jcx rfl (fun ho => ?_) (fun ho => ?_)
      · repeat' (first | apply Jbq | apply Jbr | apply Jbt | apply Jbx | (apply Jcg; (first | exact Jaa rfl | exact Jab rfl | exact Jaf rfl rfl (by omega)); exact rfl) | refine Jcg (Pu_xor rfl rfl) rfl ?_)
        have e : bitv .xor .u32 ((crcBits x k / 2 : Nat) : Int) 3988292384 = (crcBits x (k + 1) : Nat) := by
          have := xorU (crcBits x k / 2) 3988292384 (by omega) (by omega)
          rw [crcBits, crcBit_odd (by omega)]
          exact this
        rw [e]
        exact TN_round (k + 1) (subEnv_cons rfl (subEnv_cons rfl (subEnv_cons rfl (subEnv_cons rfl (subEnv_cons rfl (subEnv_nil _)))))) ⟨by omega, rfl⟩ (by omega)
      · repeat' (first | apply Jbq | apply Jbr | apply Jbt | apply Jbx | apply Jbz | (apply Jcg; (first | exact Jaa rfl | exact Jaf rfl rfl (by omega)); exact rfl))
        have e : ((crcBits x k / 2 : Nat) : Int) = (crcBits x (k + 1) : Nat) := by
          rw [crcBits, crcBit_even (by omega)]
        rw [e]
        exact TN_round (k + 1) (subEnv_cons rfl (subEnv_cons rfl (subEnv_cons rfl (subEnv_cons rfl (subEnv_cons rfl (subEnv_nil _)))))) ⟨by omega, rfl⟩ (by omega)
    · obtain rfl : k = 8 := by omega
      have e : crcBits x 8 = crcR 4294967295 (b.take (i + 1)) := by rw [crcR_take hlt, hxx]; rfl
      rw [e]
      repeat' (first | apply Jbq | apply Jbr | apply Jbt | apply Jbx | apply Jca | apply Jcb | apply Jcc | (apply Jcg; (first | exact Jaa rfl | exact Jaf rfl rfl (by omega)); exact rfl))
      exact TN_round (i + 1) (subEnv_cons rfl (subEnv_cons rfl (subEnv_cons rfl (subEnv_cons rfl (subEnv_nil _))))) ⟨by omega, rfl⟩ (by omega)
  · obtain rfl : i = b.length := by omega
    rw [List.take_length]
    have hR := crcR_lt b (r := 4294967295) (by omega)
    have hcl := crc_lt b
    repeat' (first | apply Jbr | apply Jbs | apply Jbt | apply Jca | apply Jcb | apply Jcc | (apply Jcg; exact Jaa rfl; exact rfl) | refine Jcg (Pu_com rfl) rfl ?_)
    have e : bitv .xor .u32 (if IntKind.u32.signed then -1 else IntKind.u32.max) (crcR 4294967295 b : Nat) = (crc b : Nat) := by
      have := xorU 4294967295 (crcR 4294967295 b) (by omega) hR
      rw [Nat.xor_comm] at this
      exact this
    rw [e]
    repeat' (first | apply Jbq | apply Jbr | apply Jbu | (apply Jcg; (first | exact Jab rfl | exact Jax Us.h Us.h rfl (by omega)); exact rfl))
    exact TR_of (res1 rfl rfl) ⟨rfl, Ch.refl _ _⟩
end Go.Proofs.YtggaghghclomkaaGreat

/- append of a text onto own bytes. No condition. -/
namespace Go.Proofs.YtggaghghclomkaaGreat
open Go.RowKit
theorem strCells_u8s (s : List UInt8) : Lib.strCells ⟨s.toArray⟩ = u8s s := by simp [Lib.strCells, u8s]
section
variable {P : Program} {L : List Oper} {Q : Exit → Act → World → Prop} {n d : Nat} {l : Env} {w : World} {rest : List Oper} {ty : TypeId} {pos : String} {af : Array Edge} {v v2 : Value} {x y : Operand} {t u : TypeId}
theorem TL_appendS {lo hi : Nat} {s s2 : List UInt8} (ht : Tryz.prog.underlying t = some (.slice 5)) (hu : Tryz.prog.underlying u = some .string) (hx : ev l x = some v) (hy : ev l y = some (S s2)) (ho : OB w lo hi v s)
    (hlo : lo ≤ w.heap.size) (hm : s.length + s2.length ≤ 17592186044416) (hn : Nat.blt d n = true)
    (h : ∀ w' v', Ch (Iv lo hi) w w' → OB w' lo w'.heap.size v' (s ++ s2) → TL Tryz.prog L Q rest n ((d, v') :: l) w') :
    TL Tryz.prog L Q (⟨some d, .call { callee := .builtin .append, args := #[x, y], argTypes := #[t, u] }, ty, pos, af, none⟩ :: rest) n l w := by
  obtain ⟨A, c, rfl, ho⟩ := ho
  have hi0 := inf5
  cases hq : Tryz.prog.info? 5 with
  | none => simp [hq] at hi0
  | some inf =>
    simp only [hq, Option.map_some, Option.some.injEq, Prod.mk.injEq] at hi0
    obtain ⟨e1, e2, e3⟩ := hi0
    have hsz : (ByteArray.mk s2.toArray).size = s2.length := by simp [ByteArray.size]
    obtain ⟨v', w', hrun, hown, hg, _⟩ := Lib.run_append_own_string (P := Tryz.prog) w lo t u ty 5 inf ht hu hq e1 e2 e3 (.slice A s.length c) s.length (u8s s) ho.row ⟨s2.toArray⟩ (by rw [hsz]; simp only [maxLen]; omega) (by rw [hsz]; omega) hlo
    rw [hsz, strCells_u8s] at hown
    have hch : Ch (Iv lo hi) w w' := Ch.of_grown hg (fun k hk => by
      rcases A with _ | a1
      · simp [Value.ownBlock] at hk
      · simp [Value.ownBlock] at hk
        subst hk
        exact ⟨ho.ge _ rfl, ho.lt _ rfl⟩)
    have hob : OB w' lo w'.heap.size v' (s ++ s2) := by
      have hl : (s ++ s2).length = s.length + s2.length := List.length_append
      have hu8 : u8s (s ++ s2) = u8s s ++ u8s s2 := by simp [u8s]
      rcases hown.2 with ⟨hv, h0⟩ | ⟨g, cap, cur, hv, hgl, hgg, hrest⟩
      · refine ⟨none, 0, by rw [hv, hl, h0], ⟨Nat.le_refl _, ?_, fun ad h => by cases h⟩⟩
        rw [hl, hu8, h0, ← hv]
        rw [h0] at hown
        exact hown
      · refine ⟨some ⟨g, 0, none⟩, cap, by rw [hv, hl], ⟨Nat.le_refl _, ?_, fun ad h => ?_⟩⟩
        · rw [hl, hu8, ← hv]; exact hown
        · injection h with h; subst h; exact (Array.getElem?_eq_some_iff.1 hgg).1
    refine TL_run (w' := w') rfl rfl hn (fun a hs => ?_) (h w' v' hch hob)
    simp only [execOp, resolve, invoke, builtin, Sem.run_bind, Sem.run_pure, Result.andThen_ok, List.map_toArray, List.map_cons, List.map_nil, hs.eval hx, hs.eval hy, hrun]
end
end Go.Proofs.YtggaghghclomkaaGreat

/- Contracts: a record's bytes. -/
namespace Go.Proofs.YtggaghghclomkaaGreat
open Go.RowKit
attribute [local irreducible] TL TC TN TX TR TQ TA Pu Ret

theorem pFrame_no {e : Int × List UInt8} (h : pEntry e.1 e.2 = false) : pFrame e = ([], false) := by unfold pFrame; rw [if_neg (by simp [h])]
theorem pFrame_yes {e : Int × List UInt8} (h : pEntry e.1 e.2 = true) : pFrame e = (frame e, true) := by unfold pFrame; rw [if_pos h]
set_option maxHeartbeats 2000000 in
theorem implFrameBytes_c (e : Int × List UInt8) (w : World) :
    Ret Tryz.prog 118 #[.agg #[I e.1, S e.2]] w fun v w' => ∃ v', v = .tuple #[v', .bool (pFrame e).2] ∧ Ext w w' ∧ OB w' w.heap.size w'.heap.size v' (pFrame e).1 := by
  obtain ⟨num, text⟩ := e
  refine Ret_enter Tryz.func118 rfl rfl rfl ?_
  repeat' (first | apply Jbs | apply Jbt)
  refine TL_box (cs := [I num, S text]) rfl rfl ?_
  intro w1 g E hg hz1 hbk
  have hgw : g < w1.heap.size := by omega
  clear hz1
  repeat' (first | apply Jbq | apply Jbr | apply Jbs | apply Jbt | (apply Jcg; exact Jab rfl; exact rfl) | refine Jcg (Pu_loadAgg (cs := [I num, S text]) Us.h rfl Sz.h rfl (fun _ e j u hu => by rw [e, add0, hbk.cell]; exact hu)) rfl ?_)
  refine TL_call rfl en155 (implEntryOk_c num text _) rfl rfl ?_
  rintro _ w2 ⟨rfl, e2⟩
  replace hbk := hbk.ext e2
  replace E := E.ext e2
  cases hp : pEntry num text
  · rw [pFrame_no hp]
    repeat' (first | apply Jbq | apply Jbr | apply Jbs | apply Jbt | apply Jbu | apply Jbv | (refine Jce rfl ?_) | (apply Jcg; (first | exact Jab rfl | exact Jaj rfl); exact rfl))
    exact TR_of (res2 rfl rfl rfl) ⟨_, rfl, E, OB.nil _ _ E.size⟩
  · have hb := (pEntry_iff (e := (num, text))).1 hp
    simp only at hb
    rw [pFrame_yes hp]
    have hs2 := e2.size
    repeat' (first | apply Jbq | apply Jbr | apply Jbs | apply Jbz | (refine Jcf rfl ?_) | (apply Jcg; exact Jaj rfl; exact rfl))
    refine TC_any mixed rfl ?_
    intro w3 hE hz3
    (refine Jco 0 rfl (by kernel_rfl) (by kernel_rfl) (by kernel_rfl) (fun _ _ _ h => h) hE (by (apply Jbl; exact Us.h; exact rfl; exact Sz.h; exact rfl)) rfl ?_; refine Jco 1 rfl (by kernel_rfl) (by kernel_rfl) (by kernel_rfl) (fun _ _ _ h => h) hE (by exact Pu_load Fl.h rfl (fun _ e => Ext.cell e (hbk.ld rfl))) rfl ?_; refine Jco 2 rfl (by kernel_rfl) (by kernel_rfl) (by kernel_rfl) (fun _ _ _ h => h) hE (by exact Jaq Us.h rfl) rfl ?_; refine Jco 4 rfl (by kernel_rfl) (by kernel_rfl) (by kernel_rfl) (fun _ _ _ h => h) hE (by (apply Jbl; exact Us.h; exact rfl; exact Sz.h; exact rfl)) rfl ?_; refine Jco 5 rfl (by kernel_rfl) (by kernel_rfl) (by kernel_rfl) (fun _ _ _ h => h) hE (by exact Pu_load Fl.h rfl (fun _ e => Ext.cell e (hbk.ld rfl))) rfl ?_)
    refine TA_one 3 (by kernel_rfl) rfl ?_
    refine TL_call rfl en163 (putNum_c (lo := w3.heap.size) (k := 2) (OB.nil w3 _ (Nat.le_refl _)) (Nat.le_refl _) (by simp) (by omega)) rfl rfl ?_
    intro v4 w4 ⟨c4, ho4⟩
    have hE4 : Ext w2 w4 := Ext.then_iv hE c4 hE.size
    refine Jbq (TN_any hE4 ?_)
    refine TA_one 6 (by kernel_rfl) rfl ?_
    refine TL_call rfl en163 (putNum_c (lo := w3.heap.size) (k := 4) ho4 c4.size (by simp) (by omega)) rfl rfl ?_
    intro v5 w5 ⟨c5, ho5⟩
    have hE5 : Ext w2 w5 := Ext.then_iv hE4 c5 hE.size
    refine Jbq (TN_any hE5 ?_)
    have hs3 := hE.size
    clear hE
    have hE := hE5
    (refine Jco 7 rfl (by kernel_rfl) (by kernel_rfl) (by kernel_rfl) (fun _ _ _ h => h) hE (by exact Jab rfl) rfl ?_)
    refine TA_done (by kernel_rfl) ?_
    have hhead : ([] ++ putR (text.length : Int) 2 ++ putR num 4) = headF (num, text) := by simp [headF]
    rw [hhead] at ho5
    have hs5 := hE5.size
    have hs4 := c4.size
    have hs45 := c5.size
    replace hbk := hbk.ext hE5
    replace E := E.ext hE5
    clear c4 c5 ho4 hE hE4 hE5
    repeat' (first | apply Jbr | apply Jbs)
    refine TC_any mixed rfl ?_
    intro w6 hE hz6
    (refine Jco 0 rfl (by kernel_rfl) (by kernel_rfl) (by kernel_rfl) (fun _ _ _ h => h) hE (by exact Jaa rfl) rfl ?_; refine Jco 2 rfl (by kernel_rfl) (by kernel_rfl) (by kernel_rfl) (fun _ _ _ h => h) hE (by (apply Jbl; exact Us.h; exact rfl; exact Sz.h; exact rfl)) rfl ?_; refine Jco 3 rfl (by kernel_rfl) (by kernel_rfl) (by kernel_rfl) (fun _ _ _ h => h) hE (by exact Pu_load Fl.h rfl (fun _ e => Ext.cell e (hbk.ld rfl))) rfl ?_)
    refine TA_one 1 (by kernel_rfl) rfl ?_
    obtain ⟨A5, k5, hv5, hr5⟩ : ∃ A c, v5 = .slice A (headF (num, text)).length c ∧ Rd w5 w3.heap.size w5.heap.size 1 A (headF (num, text)).length (u8s (headF (num, text))) := by obtain ⟨A, c, h, _, hr⟩ := ho5.rd; exact ⟨A, c, h, hr⟩
    have hhl := headF_length (num, text)
    rw [hv5]
    refine TL_call rfl en71 (copyBytes_c (hr5.ext hE) (by omega)) rfl rfl ?_
    rintro _ w7 ⟨A7, k7, rfl, e7, ho7⟩
    have hE7 := hE.ext e7
    refine Jbq (TN_any hE7 ?_)
    refine TA_one 4 (by kernel_rfl) rfl ?_
    refine TL_appendS Us.h Us.h rfl rfl ⟨_, _, rfl, ho7⟩ e7.size (by omega) rfl ?_
    intro w8 v8 c8 ho8
    have hE8 : Ext w5 w8 := Ext.then_iv hE7 c8 hE.size
    refine Jbq (TN_any hE8 ?_)
    refine TA_one 5 (by kernel_rfl) rfl ?_
    refine TL_call rfl en164 (implCrc32_k ho8.rd (by simp only [List.length_append]; omega)) rfl rfl ?_
    rintro _ w9 ⟨rfl, e9⟩
    have hE9 := hE8.ext e9
    refine Jbq (TN_any hE9 ?_)
    clear hE
    have hE := hE9
    (refine Jco 6 rfl (by kernel_rfl) (by kernel_rfl) (by kernel_rfl) (fun _ _ _ h => h) hE (by exact Jab rfl) rfl ?_)
    refine TA_done (by kernel_rfl) ?_
    replace ho5 := ho5.ext hE9
    replace hbk := hbk.ext hE9
    replace E := E.ext hE9
    have hs9 := hE9.size
    rw [← hv5]
    clear hE hE7 hE8 hE9 ho7 ho8 c8 e7 e9 hr5 hv5
    repeat' (first | apply Jbr | apply Jbs)
    refine TC_anyS (Ch (Iv w3.heap.size w9.heap.size) w9) mixed rfl (Ch.refl _ _).drew ?_
    intro w10 hE0 hz10 hE
    have hld : ∀ w', Ch (Iv w3.heap.size w9.heap.size) w9 w' → w'.cell? ((⟨g, 0, none⟩ : Addr).add 1) = some (S text) := fun w' k => (hbk.ch k (by simp only [Iv]; omega)).ld rfl
    (refine Jco 0 rfl (by kernel_rfl) (by kernel_rfl) (by kernel_rfl) (fun _ _ _ h => h) hE (by exact Jaa rfl) rfl ?_; refine Jco 1 rfl (by kernel_rfl) (by kernel_rfl) (by kernel_rfl) (fun _ _ _ h => h) hE (by exact Jaa rfl) rfl ?_; refine Jco 3 rfl (by kernel_rfl) (by kernel_rfl) (by kernel_rfl) (fun _ _ _ h => h) hE (by (apply Jbl; exact Us.h; exact rfl; exact Sz.h; exact rfl)) rfl ?_; refine Jco 4 rfl (by kernel_rfl) (by kernel_rfl) (by kernel_rfl) (fun _ _ _ h => h) hE (by exact Pu_load Fl.h rfl hld) rfl ?_)
    refine TA_one 2 (by kernel_rfl) rfl ?_
    obtain ⟨A9, k9, hv9, ho9⟩ := ho5.ext hE0
    refine TL_call rfl en163 (putNum_c (lo := w3.heap.size) (k := 4) ⟨A9, k9, hv9, ho9.wide (Nat.le_refl _) (by omega) (Nat.le_refl _)⟩ (by omega) (by omega) (by omega)) rfl rfl ?_
    intro v11 w11 ⟨c11, ho11⟩
    have hE11 : Ch (Iv w3.heap.size w9.heap.size) w9 w11 := hE.trans c11 (fun _ _ t => t) (fun i hi t => ⟨t.1, hi⟩)
    refine Jbq (TN_any hE11 ?_)
    refine TA_one 5 (by kernel_rfl) rfl ?_
    have hs11 := hE11.size
    refine TL_appendS Us.h Us.h rfl rfl ho11 (by omega) (by simp only [List.length_append, putR_length]; omega) rfl ?_
    intro w12 v12 c12 ho12
    have hE12 : Ch (Iv w3.heap.size w9.heap.size) w9 w12 := hE11.trans c12 (fun _ _ t => t) (fun i hi t => ⟨t.1, hi⟩)
    refine Jbq (TN_any hE12 ?_)
    clear hE hE11
    have hE := hE12
    (refine Jco 6 rfl (by kernel_rfl) (by kernel_rfl) (by kernel_rfl) (fun _ _ _ h => h) hE (by exact Jab rfl) rfl ?_; refine Jco 7 rfl (by kernel_rfl) (by kernel_rfl) (by kernel_rfl) (fun _ _ _ h => h) hE (by exact Jab rfl) rfl ?_)
    refine TA_done (by kernel_rfl) ?_
    repeat' (first | apply Jbr | apply Jbu)
    obtain ⟨A, c, hv, hown⟩ := ho12
    exact TR_of (res2 rfl rfl rfl) ⟨_, rfl, Ext.then_iv E hE12 (by omega), A, c, hv, hown.wide (by omega) (Nat.le_refl _) (Nat.le_refl _)⟩
theorem pPut_in {b : List UInt8} {n size : Int} (h : 1 ≤ size ∧ size ≤ 4 ∧ 0 ≤ n ∧ n < 256 ^ size.toNat ∧ (b.length : Int) + size ≤ 65536) : (pPut b n size).1 = b ++ putR n size.toNat := by rw [pPut_yes h]
theorem RB.nil (w : World) : RB w 0 0 (.slice none 0 0) [] := ⟨none, 0, rfl, Nat.le_refl _, by simp [u8s], Nat.zero_le _, fun h => by simp at h⟩
set_option maxHeartbeats 2000000 in
theorem specFrameBytes_c (e : Int × List UInt8) (w : World) :
    Ret Tryz.prog 121 #[.agg #[I e.1, S e.2]] w fun v w' => ∃ v', v = .tuple #[v', .bool (pFrame e).2] ∧ Ext w w' ∧ OB w' w.heap.size w'.heap.size v' (pFrame e).1 := by
  obtain ⟨num, text⟩ := e
  refine Ret_enter Tryz.func121 rfl rfl rfl ?_
  repeat' (first | apply Jbs | apply Jbt)
  refine TL_box (cs := [I num, S text]) rfl rfl ?_
  intro w1 g E hg hz1 hbk
  have hgw : g < w1.heap.size := by omega
  clear hz1
  repeat' (first | apply Jbq | apply Jbr | apply Jbs | apply Jbt | (apply Jcg; exact Jab rfl; exact rfl) | refine Jcg (Pu_loadAgg (cs := [I num, S text]) Us.h rfl Sz.h rfl (fun _ e j u hu => by rw [e, add0, hbk.cell]; exact hu)) rfl ?_)
  refine TL_call rfl en165 (specEntryOk_c num text _) rfl rfl ?_
  rintro _ w2 ⟨rfl, e2⟩
  replace hbk := hbk.ext e2
  replace E := E.ext e2
  cases hp : pEntry num text
  · rw [pFrame_no hp]
    repeat' (first | apply Jbq | apply Jbr | apply Jbs | apply Jbt | apply Jbu | apply Jbv | (refine Jce rfl ?_) | (apply Jcg; (first | exact Jab rfl | exact Jaj rfl); exact rfl))
    exact TR_of (res2 rfl rfl rfl) ⟨_, rfl, E, OB.nil _ _ E.size⟩
  · have hb := (pEntry_iff (e := (num, text))).1 hp
    simp only at hb
    rw [pFrame_yes hp]
    have hs2 := e2.size
    clear e2
    repeat' (first | apply Jbq | apply Jbr | apply Jbs | apply Jbt | apply Jbz | (refine Jcf rfl ?_) | (apply Jcg; (first | exact Jaj rfl | exact Jaq Us.h rfl | (apply Jbl; exact Us.h; exact rfl; exact Sz.h; exact rfl)); exact rfl) | refine Jcg (Pu_load Fl.h rfl (fun _ e => by rw [e]; exact hbk.ld rfl)) rfl ?_)
    refine TL_call rfl en166 (specPutNum_k (RB.nil _) (by simp)) rfl rfl ?_
    rintro _ w3 ⟨v3, rfl, e3, ho3⟩
    rw [pPut_in (by simp; omega)] at ho3
    replace hbk := hbk.ext e3
    replace E := E.ext e3
    have hs3 := e3.size
    clear e3
    repeat' (first | apply Jbq | apply Jbr | apply Jbs | apply Jbt | (apply Jcg; (first | exact Jaa rfl | exact Jab rfl | exact Jae rfl rfl | (apply Jbl; exact Us.h; exact rfl; exact Sz.h; exact rfl)); exact rfl) | refine Jcg (Pu_load Fl.h rfl (fun _ e => by rw [e]; exact hbk.ld rfl)) rfl ?_)
    refine TL_call rfl en166 (specPutNum_k ho3.rd (by simp)) rfl rfl ?_
    rintro _ w4 ⟨v4, rfl, e4, ho4⟩
    rw [pPut_in (by simp; omega), show [] ++ putR (text.length : Int) (2 : Int).toNat ++ putR num (4 : Int).toNat = headF (num, text) from by simp [headF]] at ho4
    replace hbk := hbk.ext e4
    replace E := E.ext e4
    have hs4 := e4.size
    clear e4 ho3
    have hhl := headF_length (num, text)
    repeat' (first | apply Jbq | apply Jbr | apply Jbs | (apply Jcg; (first | exact Jaa rfl | exact Jab rfl | exact Jae rfl rfl); exact rfl))
    refine TC_any mixed rfl ?_
    intro w5 hE hz5
    (refine Jco 1 rfl (by kernel_rfl) (by kernel_rfl) (by kernel_rfl) (fun _ _ _ h => h) hE (by exact Jaa rfl) rfl ?_; refine Jco 3 rfl (by kernel_rfl) (by kernel_rfl) (by kernel_rfl) (fun _ _ _ h => h) hE (by (apply Jbl; exact Us.h; exact rfl; exact Sz.h; exact rfl)) rfl ?_; refine Jco 4 rfl (by kernel_rfl) (by kernel_rfl) (by kernel_rfl) (fun _ _ _ h => h) hE (by exact Pu_load Fl.h rfl (fun _ e => Ext.cell e (hbk.ld rfl))) rfl ?_)
    refine TA_one 0 (by kernel_rfl) rfl ?_
    refine TL_buildSlice0 Us.h Sz.h rfl ?_
    intro w6 g6 e6 hg6 hz6 hown6
    have hE6 := hE.ext e6
    refine Jbq (TN_any hE6 ?_)
    refine TA_one 2 (by kernel_rfl) rfl ?_
    refine TL_appendB Us.h rfl rfl (OB_new (s := []) rfl hown6 hg6 hz6) (ho4.ext hE6).rd e6.size (by simp only [List.length_nil]; omega) rfl ?_
    intro w7 v7 c7 ho7
    have hE7 : Ext w4 w7 := Ext.then_iv hE6 c7 hE.size
    refine Jbq (TN_any hE7 ?_)
    refine TA_one 5 (by kernel_rfl) rfl ?_
    refine TL_appendS Us.h Us.h rfl rfl ho7 (by have := e6.size; have := c7.size; omega) (by simp only [List.nil_append]; omega) rfl ?_
    intro w8 v8 c8 ho8
    have hE8 : Ext w4 w8 := Ext.then_iv hE7 c8 hE.size
    refine Jbq (TN_any hE8 ?_)
    refine TA_one 6 (by kernel_rfl) rfl ?_
    refine TL_call rfl en167 (specCrc32_k ho8.rd (by simp only [List.nil_append, List.length_append]; omega)) rfl rfl ?_
    rintro _ w9 ⟨rfl, e9⟩
    have hE9 := hE8.ext e9
    refine Jbq (TN_any hE9 ?_)
    clear hE
    have hE := hE9
    (refine Jco 7 rfl (by kernel_rfl) (by kernel_rfl) (by kernel_rfl) (fun _ _ _ h => h) hE (by exact Jab rfl) rfl ?_)
    refine TA_done (by kernel_rfl) ?_
    rw [List.nil_append]
    have hcl := crc_lt (headF (num, text) ++ text)
    replace ho4 := ho4.ext hE9
    replace hbk := hbk.ext hE9
    replace E := E.ext hE9
    have hs9 := hE9.size
    clear hE hE6 hE7 hE8 hE9 ho7 ho8 c7 c8 e6 e9
    repeat' (first | apply Jbr | apply Jbs | apply Jbt | (apply Jcg; exact Jaa rfl; exact rfl))
    refine TL_call rfl en166 (specPutNum_k ho4.rd (by omega)) rfl rfl ?_
    rintro _ w10 ⟨v10, rfl, e10, ho10⟩
    rw [pPut_in (by simp; omega)] at ho10
    replace hbk := hbk.ext e10
    replace E := E.ext e10
    have hs10 := e10.size
    repeat' (first | apply Jbq | apply Jbr | apply Jbs | apply Jbt | (apply Jcg; (first | exact Jaa rfl | exact Jab rfl | exact Jae rfl rfl | (apply Jbl; exact Us.h; exact rfl; exact Sz.h; exact rfl)); exact rfl) | refine Jcg (Pu_load Fl.h rfl (fun _ e => by rw [e]; exact hbk.ld rfl)) rfl ?_)
    refine TL_appendS Us.h Us.h rfl rfl ho10 (by omega) (by simp only [List.length_append, putR_length]; omega) rfl ?_
    intro w11 v11 c11 ho11
    repeat' (first | apply Jbq | apply Jbr | apply Jbu | (apply Jcg; exact Jab rfl; exact rfl))
    obtain ⟨A, c, hv, hown⟩ := ho11
    exact TR_of (res2 rfl rfl rfl) ⟨_, rfl, Ext.then_iv E c11 (by omega), A, c, hv, hown.wide (by omega) (Nat.le_refl _) (Nat.le_refl _)⟩
end Go.Proofs.YtggaghghclomkaaGreat

/- Lists of records: the plain law. No condition. -/
namespace Go.Proofs.YtggaghghclomkaaGreat
open Go.RowKit

theorem readF_next {b : List UInt8} {i : Int} (h : (pReadF b i).2.2 = 0) : 0 ≤ i ∧ i + 10 < (pReadF b i).2.1 ∧ (pReadF b i).2.1 ≤ b.length ∧ pEntry (pReadF b i).1.1 (pReadF b i).1.2 = true ∧ (pReadF b i).2.1 = i + 10 + (pReadF b i).1.2.length := by
  unfold pReadF at *
  by_cases h1 : i < 0 ∨ b.length < i
  · rw [if_pos h1] at h; simp at h
  rw [if_neg h1] at h ⊢
  simp only at h ⊢
  by_cases h2 : b.length < i.toNat + 10
  · rw [if_pos h2] at h; simp at h
  rw [if_neg h2] at h ⊢
  by_cases h3 : getF b i.toNat 2 < 1 ∨ 1000 < getF b i.toNat 2
  · rw [if_pos h3] at h; simp at h
  rw [if_neg h3] at h ⊢
  by_cases h4 : (b.length : Int) < i.toNat + 10 + getF b i.toNat 2
  · rw [if_pos h4] at h; simp at h
  rw [if_neg h4] at h ⊢
  by_cases h5 : getF b (i.toNat + 2) 4 < 1 ∨ 1000000000 < getF b (i.toNat + 2) 4
  · rw [if_pos h5] at h; simp at h
  rw [if_neg h5] at h ⊢
  by_cases h6 : getF b (i.toNat + 6) 4 ≠ crc ((b.drop i.toNat).take 6 ++ textAt b i.toNat (getF b i.toNat 2).toNat)
  · rw [if_pos h6] at h; simp at h
  rw [if_neg h6] at h ⊢
  have hl : (textAt b i.toNat (getF b i.toNat 2).toNat).length = (getF b i.toNat 2).toNat := by unfold textAt; rw [List.length_take, List.length_drop]; omega
  refine ⟨by omega, by simp only; omega, by simp only; omega, pEntry_iff.2 ?_, by simp only; omega⟩
  simp only [hl]; omega
/-- Does the number that is read stand behind the last one? -/
def follows (p : Option Int) (n : Int) : Bool := match p with
  | none => true
  | some q => decide (q + 1 = n)
def scanFrom (b : List UInt8) (p : Option Int) (a : Nat) : List (Int × List UInt8) × Nat :=
  if h : (pReadF b a).2.2 = 0 ∧ follows p (pReadF b a).1.1 = true then
    ((pReadF b a).1 :: (scanFrom b (some (pReadF b a).1.1) (pReadF b a).2.1.toNat).1, (scanFrom b (some (pReadF b a).1.1) (pReadF b a).2.1.toNat).2)
  else ([], a)
termination_by b.length - a
decreasing_by all_goals (have := readF_next h.1; omega)
theorem scanFrom_end {b : List UInt8} {p : Option Int} {a : Nat} (h : ¬ ((pReadF b a).2.2 = 0 ∧ follows p (pReadF b a).1.1 = true)) : scanFrom b p a = ([], a) := by rw [scanFrom, dif_neg h]
theorem scanFrom_step {b : List UInt8} {p : Option Int} {a : Nat} (h : (pReadF b a).2.2 = 0) (h2 : follows p (pReadF b a).1.1 = true) :
    scanFrom b p a = ((pReadF b a).1 :: (scanFrom b (some (pReadF b a).1.1) (pReadF b a).2.1.toNat).1, (scanFrom b (some (pReadF b a).1.1) (pReadF b a).2.1.toNat).2) := by rw [scanFrom, dif_pos ⟨h, h2⟩]
def pScan (b : List UInt8) : List (Int × List UInt8) × Nat := scanFrom b none 0
def lastNum (l : List (Int × List UInt8)) : Option Int := l.getLast?.map (·.1)
theorem lastNum_snoc (l : List (Int × List UInt8)) (e : Int × List UInt8) : lastNum (l ++ [e]) = some e.1 := by simp [lastNum]
theorem scanFrom_len (b : List UInt8) : ∀ (n a : Nat) (p : Option Int), b.length - a ≤ n → a ≤ b.length → 10 * (scanFrom b p a).1.length ≤ b.length - a ∧ a ≤ (scanFrom b p a).2 ∧ (scanFrom b p a).2 ≤ b.length
  | 0, a, p, hn, ha => by
    rw [scanFrom_end (fun h => by have := readF_next h.1; omega)]
    simp only [List.length_nil]; omega
  | n + 1, a, p, hn, ha => by
    by_cases h : (pReadF b a).2.2 = 0 ∧ follows p (pReadF b a).1.1 = true
    · have h1 := readF_next h.1
      have ih := scanFrom_len b n (pReadF b a).2.1.toNat (some (pReadF b a).1.1) (by omega) (by omega)
      rw [scanFrom_step h.1 h.2]
      simp only [List.length_cons]
      omega
    · rw [scanFrom_end h]; simp only [List.length_nil]; omega

noncomputable def pLog (l : List (Int × List UInt8)) : List UInt8 × Bool := if pEntries l = true ∧ (l.flatMap frame).length ≤ 65536 then (l.flatMap frame, true) else ([], false)
theorem frames_take {l : List (Int × List UInt8)} {k : Nat} (h : k < l.length) : (l.take (k + 1)).flatMap frame = (l.take k).flatMap frame ++ frame l[k] := by
  rw [List.take_succ_eq_append_getElem h, List.flatMap_append]; simp
theorem frames_le (l : List (Int × List UInt8)) (k : Nat) : ((l.take k).flatMap frame).length ≤ (l.flatMap frame).length := by
  conv => rhs; rw [← List.take_append_drop k l]
  rw [List.flatMap_append, List.length_append]; omega
end Go.Proofs.YtggaghghclomkaaGreat

/- Contracts: a record read. -/
namespace Go.Proofs.YtggaghghclomkaaGreat
open Go.RowKit
attribute [local irreducible] TL TC TN TX TR TQ TA Pu Ret

theorem readF_out {b : List UInt8} {i : Int} (h : i < 0 ∨ b.length < i) : pReadF b i = (noE, 0, 1) := by unfold pReadF; rw [if_pos h]
theorem readF_nat {b : List UInt8} {a : Nat} (h : a ≤ b.length) : pReadF b a = if b.length < a + 10 then (noE, 0, 2) else
    if getF b a 2 < 1 ∨ 1000 < getF b a 2 then (noE, 0, 3) else if (b.length : Int) < a + 10 + getF b a 2 then (noE, 0, 4) else
    if getF b (a + 2) 4 < 1 ∨ 1000000000 < getF b (a + 2) 4 then (noE, 0, 5) else
    if getF b (a + 6) 4 ≠ crc ((b.drop a).take 6 ++ textAt b a (getF b a 2).toNat) then (noE, 0, 6) else
    ((getF b (a + 2) 4, textAt b a (getF b a 2).toNat), (a : Int) + 10 + getF b a 2, 0) := by
  unfold pReadF
  rw [if_neg (by omega)]
  simp only [Int.toNat_natCast]
theorem pGet_at {b : List UInt8} {a k : Nat} {i sz : Int} (hi : i = a) (hs : sz = k) (h : 1 ≤ k ∧ k ≤ 4 ∧ a + k ≤ b.length) : pGet b i sz = (getF b a k, true) := by
  subst hi hs
  rw [pGet_yes (by omega), Int.toNat_natCast, Int.toNat_natCast]
theorem getF_drop (b : List UInt8) (a j : Nat) : ∀ k, getF (b.drop a) j k = getF b (a + j) k
  | 0 => rfl
  | k + 1 => by
    simp only [getF]
    rw [getF_drop b a j k]
    congr 3
    simp only [List.getD_eq_getElem?_getD, List.getElem?_drop, Nat.add_assoc]
theorem seg_at {b : List UInt8} {p q : Nat} {x y : Int} (hx : x.toNat = p) (hy : y.toNat = p + q) : (b.take y.toNat).drop x.toNat = (b.drop p).take q := by
  rw [hx, hy, List.drop_take, Nat.add_sub_cancel_left]
set_option maxHeartbeats 8000000 in
theorem specFrameRead_c {lo hi : Nat} {vb : Value} {b : List UInt8} {i : Int} {w : World} (hR : RB w lo hi vb b) (hl : b.length ≤ 1048576) (hi63 : -9223372036854775808 ≤ i ∧ i ≤ 9223372036854775807) :
    Ret Tryz.prog 154 #[vb, I i] w fun v w' => v = .tuple #[.agg (entC (pReadF b i).1).toArray, I (pReadF b i).2.1, I (pReadF b i).2.2] ∧ Ext w w' := by
  obtain ⟨A, c, rfl, hc, hr⟩ := hR
  refine Ret_enter Tryz.func154 rfl rfl rfl ?_
  repeat' (first | apply Jbs | apply Jbt)
  refine TL_alloc Zs.h rfl rfl ?_
  intro w1 g E hg hz hbk
  have hgw : w.heap.size ≤ g := by omega
  have hgl := hbk.lt
  clear hg hz
  have hr1 := hr.ext E
  by_cases h1 : i < 0 ∨ b.length < i
  · rw [readF_out h1]
    repeat' (first | apply Jbq | apply Jbr | apply Jbs | apply Jbt | apply Jbu | apply Jbv | (refine Jce rfl ?_) | (apply Jcg; (first | exact Jaa rfl | exact Jab rfl | exact Jac Us.h rfl | exact Jad rfl rfl | exact Jah rfl rfl | exact Jai rfl rfl | exact Jam rfl rfl); exact rfl) | refine Jch rfl rfl rfl ?_ | refine Jci rfl rfl rfl rfl rfl ?_ | (refine Jcg (Pu_build (cs := entC noE) rfl (by kernel_rfl)) rfl ?_) | (refine TL_storeAgg rfl rfl Sz.h rfl hbk rfl ?_; intro w2 c2 hz2 hb2) | (refine Jcs rfl rfl (fun hb => ?_) (fun hb => ?_) <;> (try (exfalso; omega))) | (refine Jcx rfl (fun hb => ?_) (fun hb => ?_) <;> (try (exfalso; omega))))
    all_goals exact TR_of (resA2 rfl rfl rfl rfl hb2 Us.h rfl Sz.h) ⟨rfl, Ext.then_iv E c2 hgw⟩
  · obtain ⟨a, rfl⟩ := Int.eq_ofNat_of_zero_le (show 0 ≤ i by omega)
    rw [readF_nat (by omega)]
    by_cases h2 : b.length < a + 10
    · rw [if_pos h2]
      repeat' (first | apply Jbq | apply Jbr | apply Jbs | apply Jbt | apply Jbu | apply Jbv | apply Jbz | (apply Jcg; (first | exact Jaa rfl | exact Jab rfl | exact Jac Us.h rfl | exact Jad rfl rfl | exact Jai rfl rfl | exact Jam rfl rfl | exact Jap rfl rfl (by omega)); exact rfl) | refine Jch rfl rfl rfl ?_ | (refine Jcg (Pu_build (cs := entC noE) rfl (by kernel_rfl)) rfl ?_) | (refine TL_storeAgg rfl rfl Sz.h rfl hbk rfl ?_; intro w2 c2 hz2 hb2) | (refine Jcx rfl (fun hb => ?_) (fun hb => ?_) <;> (try (exfalso; omega))))
      all_goals exact TR_of (resA2 rfl rfl rfl rfl hb2 Us.h rfl Sz.h) ⟨rfl, Ext.then_iv E c2 hgw⟩
    rw [if_neg h2]
    repeat' (first | apply Jbq | apply Jbr | apply Jbs | apply Jbt | apply Jbz | (apply Jcg; (first | exact Jaa rfl | exact Jab rfl | exact Jac Us.h rfl | exact Jad rfl rfl | exact Jai rfl rfl | exact Jam rfl rfl | exact Jap rfl rfl (by omega)); exact rfl) | refine Jch rfl rfl rfl ?_ | (refine Jcx rfl (fun hb => ?_) (fun hb => ?_) <;> (try (exfalso; omega))))
    refine TL_call rfl en179 (specGetNum_k ⟨_, _, rfl, hc, hr1⟩ hl) rfl rfl ?_
    rintro _ w2 ⟨rfl, e2⟩
    rw [pGet_at (b := b) (i := (a : Int)) (sz := 2) (a := a) (k := 2) rfl rfl (by omega)]
    repeat' (first | apply Jbq | apply Jbr | apply Jbs | apply Jbt | (apply Jcg; (first | exact Jaa rfl | exact Jab rfl | exact Jae rfl rfl | exact Jaf rfl rfl (by omega)); exact rfl))
    refine TL_call rfl en179 (specGetNum_k ⟨_, _, rfl, hc, hr1.ext e2⟩ hl) rfl rfl ?_
    rintro _ w3 ⟨rfl, e3⟩
    rw [pGet_at (b := b) (i := (a : Int) + 2) (sz := 4) (a := a + 2) (k := 4) (by omega) rfl (by omega)]
    replace E := (E.ext e2).ext e3
    replace hbk := (hbk.ext e2).ext e3
    replace hr1 := (hr1.ext e2).ext e3
    have hs3 := (e2.ext e3).size
    clear e2 e3
    obtain ⟨n, hn⟩ : ∃ n, n = getF b a 2 := ⟨_, rfl⟩
    have hn0 := getF_nn b a 2
    have hn1 := getF_le b a 2 (by omega)
    rw [← hn] at hn0 hn1 ⊢
    obtain ⟨num, hnum⟩ : ∃ num, num = getF b (a + 2) 4 := ⟨_, rfl⟩
    have hm0 := getF_nn b (a + 2) 4
    have hm1 := getF_le b (a + 2) 4 (by omega)
    rw [← hnum] at hm0 hm1 ⊢
    by_cases h3 : n < 1 ∨ 1000 < n
    · rw [if_pos h3]
      repeat' (first | apply Jbq | apply Jbr | apply Jbs | apply Jbt | apply Jbu | apply Jbv | (refine Jce rfl ?_) | (apply Jcg; (first | exact Jaa rfl | exact Jab rfl | exact Jae rfl rfl | exact Jah rfl rfl | exact Jai rfl rfl | exact Jak rfl rfl | exact Jam rfl rfl); exact rfl) | refine Jch rfl rfl rfl ?_ | refine Jci rfl rfl rfl rfl rfl ?_ | (refine Jcg (Pu_build (cs := entC noE) rfl (by kernel_rfl)) rfl ?_) | (refine TL_storeAgg rfl rfl Sz.h rfl hbk rfl ?_; intro w4 c4 hz4 hb4) | (refine Jcs rfl rfl (fun hb => ?_) (fun hb => ?_) <;> (try (exfalso; omega))) | (refine Jcx rfl (fun hb => ?_) (fun hb => ?_) <;> (try (exfalso; omega))))
      all_goals exact TR_of (resA2 rfl rfl rfl rfl hb4 Us.h rfl Sz.h) ⟨rfl, Ext.then_iv E c4 hgw⟩
    rw [if_neg h3]
    by_cases h4 : (b.length : Int) < a + 10 + n
    · rw [if_pos h4]
      repeat' (first | apply Jbq | apply Jbr | apply Jbs | apply Jbt | apply Jbu | apply Jbv | apply Jbz | (apply Jcg; (first | exact Jaa rfl | exact Jab rfl | exact Jac Us.h rfl | exact Jae rfl rfl | exact Jai rfl rfl | exact Jak rfl rfl | exact Jam rfl rfl | exact Jap rfl rfl (by omega)); exact rfl) | refine Jch rfl rfl rfl ?_ | (refine Jcg (Pu_build (cs := entC noE) rfl (by kernel_rfl)) rfl ?_) | (refine TL_storeAgg rfl rfl Sz.h rfl hbk rfl ?_; intro w4 c4 hz4 hb4) | (refine Jcs rfl rfl (fun hb => ?_) (fun hb => ?_) <;> (try (exfalso; omega))) | (refine Jcx rfl (fun hb => ?_) (fun hb => ?_) <;> (try (exfalso; omega))))
      all_goals exact TR_of (resA2 rfl rfl rfl rfl hb4 Us.h rfl Sz.h) ⟨rfl, Ext.then_iv E c4 hgw⟩
    rw [if_neg h4]
    by_cases h5 : num < 1 ∨ 1000000000 < num
    · rw [if_pos h5]
      repeat' (first | apply Jbq | apply Jbr | apply Jbs | apply Jbt | apply Jbu | apply Jbv | apply Jbz | (refine Jce rfl ?_) | (apply Jcg; (first | exact Jaa rfl | exact Jab rfl | exact Jac Us.h rfl | exact Jae rfl rfl | exact Jah rfl rfl | exact Jai rfl rfl | exact Jak rfl rfl | exact Jam rfl rfl | exact Jap rfl rfl (by omega)); exact rfl) | refine Jch rfl rfl rfl ?_ | refine Jci rfl rfl rfl rfl rfl ?_ | (refine Jcg (Pu_build (cs := entC noE) rfl (by kernel_rfl)) rfl ?_) | (refine TL_storeAgg rfl rfl Sz.h rfl hbk rfl ?_; intro w4 c4 hz4 hb4) | (refine Jcs rfl rfl (fun hb => ?_) (fun hb => ?_) <;> (try (exfalso; omega))) | (refine Jcx rfl (fun hb => ?_) (fun hb => ?_) <;> (try (exfalso; omega))))
      all_goals exact TR_of (resA2 rfl rfl rfl rfl hb4 Us.h rfl Sz.h) ⟨rfl, Ext.then_iv E c4 hgw⟩
    rw [if_neg h5]
    obtain ⟨m, rfl⟩ := Int.eq_ofNat_of_zero_le hn0
    have hm := hr1.mid8 (a := (a : Int) + 10) (b := (a : Int) + 10 + m) (by omega) hc
    rw [seg_at (p := a + 10) (q := m) (by omega) (by omega)] at hm
    have hseg := hr1.mid8 (a := (a : Int)) (b := (a : Int) + 10 + m) (by omega) hc
    rw [seg_at (p := a) (q := 10 + m) (by omega) (by omega)] at hseg
    rw [Int.toNat_natCast]
    have htl : (textAt b a m).length = m := by unfold textAt; rw [List.length_take, List.length_drop]; omega
    have hen : pEntry num (textAt b a m) = true := (pEntry_iff (e := (num, textAt b a m))).2 (by simp only [htl]; omega)
    repeat' (first | apply Jbq | apply Jbr | apply Jbs | apply Jbt | apply Jbz | (apply Jcg; (first | exact Jaa rfl | exact Jab rfl | exact Jac Us.h rfl | exact Jae rfl rfl | exact Jaf rfl rfl (by omega) | exact Jai rfl rfl | exact Jak rfl rfl | exact Jam rfl rfl | exact Jap rfl rfl (by omega) | exact Jbc Us.h Sz.h rfl rfl rfl (by omega)); exact rfl) | refine Jch rfl rfl rfl ?_ | refine Jcg (Pu_string (s := textAt b a m) Us.h Us.h Us.h rfl (fun w' e => by rw [e]; exact ⟨_, _, hm⟩)) rfl ?_ | (refine Jcg (Pu_build (cs := entC (num, textAt b a m)) rfl (by kernel_rfl)) rfl ?_) | (refine Jcs rfl rfl (fun hb => ?_) (fun hb => ?_) <;> (try (exfalso; omega))) | (refine Jcx rfl (fun hb => ?_) (fun hb => ?_) <;> (try (exfalso; omega))))
    refine TL_alloc Zs.h rfl rfl ?_
    intro w4 g4 e4 hg4 hz4 hb4
    skip
    refine TL_storeAgg rfl rfl Sz.h rfl hb4 rfl ?_
    clear hb4
    intro w5 c5 hz5 hb4
    replace hbk := (hbk.ext e4).ch c5 (by simp only [Iv]; omega)
    replace E : Ext w w5 := Ext.then_iv (E.ext e4) c5 (by have := E.size; omega)
    replace hseg := (hseg.ext e4).ch c5 (by intro k _ hk; have := hr.hi_le; simp only [Iv]; omega)
    repeat' (first | apply Jbq | apply Jbr | apply Jbs | apply Jbt | refine Jcg (Pu_loadAgg (cs := entC (num, textAt b a m)) Us.h rfl Sz.h rfl (fun _ e j u hu => by rw [e, add0, hb4.cell]; exact hu)) rfl ?_)
    refine TL_call rfl en121 (specFrameBytes_c (num, textAt b a m) _) rfl rfl ?_
    rintro _ w6 ⟨v6, rfl, e6, ho6⟩
    rw [pFrame_yes hen] at ho6 ⊢
    obtain ⟨A6, c6, rfl, ho6⟩ := ho6
    replace hbk := hbk.ext e6
    replace hb4 := hb4.ext e6
    replace E := E.ext e6
    replace hseg := hseg.ext e6
    repeat' (first | apply Jbq | apply Jbr | apply Jbs | (apply Jcg; (first | exact Jaa rfl | exact Jab rfl | exact Jae rfl rfl); exact rfl))
    refine TC_quietExt mixed (by kernel_rfl) ?_
    repeat' (first | (apply Jck; (first | exact Jaa rfl | exact Jaf rfl rfl (by omega) | exact Jat rfl rfl | exact Jbc Us.h Sz.h rfl rfl rfl (by omega)); exact rfl) | refine Jck (Pu_string Us.h Us.h Us.h rfl (fun w' e => ⟨_, _, ho6.rd.ext e⟩)) rfl ?_ | refine Jck (Pu_string (s := (b.drop a).take (10 + m)) Us.h Us.h Us.h rfl (fun w' e => ⟨_, _, hseg.ext e⟩)) rfl ?_)
    refine TQ_nil fun w7 e7 => ?_
    replace hbk := hbk.ext e7
    replace hb4 := hb4.ext e7
    replace E := E.ext e7
    have hfr := frame_is (b := b) (a := a) (n := m) (by omega) hn.symm
    rw [← hnum] at hfr
    repeat' (apply Jbr)
    refine Jcy rfl (fun hne => ?_) (fun heq => ?_)
    · rw [if_pos (fun q => hne (hfr.2 q))]
      repeat' (first | apply Jbq | apply Jbr | apply Jbs | apply Jbt | apply Jbu | apply Jbv | (apply Jcg; exact Jab rfl; exact rfl) | (refine Jcg (Pu_build (cs := entC noE) rfl (by kernel_rfl)) rfl ?_) | (refine TL_storeAgg rfl rfl Sz.h rfl hbk rfl ?_; intro w8 c8 hz8 hb8))
      exact TR_of (resA2 rfl rfl rfl rfl hb8 Us.h rfl Sz.h) ⟨rfl, Ext.then_iv E c8 hgw⟩
    · rw [if_neg (fun q => q (hfr.1 heq))]
      repeat' (first | apply Jbq | apply Jbr | apply Jbs | apply Jbt | apply Jbu | apply Jbz | (apply Jcg; (first | exact Jaa rfl | exact Jab rfl | exact Jaf rfl rfl (by omega)); exact rfl) | refine Jcg (Pu_loadAgg (cs := entC (num, textAt b a m)) Us.h rfl Sz.h rfl (fun _ e j u hu => by rw [e, add0, hb4.cell]; exact hu)) rfl ?_ | (refine TL_storeAgg rfl rfl Sz.h rfl hbk rfl ?_; intro w8 c8 hz8 hb8))
      exact TR_of (resA2 rfl rfl rfl rfl hb8 Us.h rfl Sz.h) ⟨rfl, Ext.then_iv E c8 hgw⟩
set_option maxRecDepth 100000 in
set_option maxHeartbeats 8000000 in
theorem implFrameRead_c {lo hi : Nat} {vb : Value} {b : List UInt8} {i : Int} {w : World} (hR : RB w lo hi vb b) (hl : b.length ≤ 1048576) (hi63 : -9223372036854775808 ≤ i ∧ i ≤ 9223372036854775807) :
    Ret Tryz.prog 153 #[vb, I i] w fun v w' => v = .tuple #[.agg (entC (pReadF b i).1).toArray, I (pReadF b i).2.1, I (pReadF b i).2.2] ∧ Ext w w' := by
  obtain ⟨A, c, rfl, hc, hr⟩ := hR
  refine Ret_enter Tryz.func153 rfl rfl rfl ?_
  repeat' (first | apply Jbs | apply Jbt)
  refine TL_alloc Zs.h rfl rfl ?_
  intro w1 g E hg hz hbk
  have hgw : w.heap.size ≤ g := by omega
  have hgl := hbk.lt
  clear hg hz
  have hr1 := hr.ext E
  by_cases h1 : i < 0 ∨ b.length < i
  · rw [readF_out h1]
    repeat' (first | apply Jbq | apply Jbr | apply Jbs | apply Jbt | apply Jbu | apply Jbv | (refine Jce rfl ?_) | (apply Jcg; (first | exact Jaa rfl | exact Jab rfl | exact Jac Us.h rfl | exact Jad rfl rfl | exact Jah rfl rfl | exact Jai rfl rfl | exact Jam rfl rfl); exact rfl) | refine Jch rfl rfl rfl ?_ | refine Jci rfl rfl rfl rfl rfl ?_ | (refine Jcg (Pu_build (cs := entC noE) rfl (by kernel_rfl)) rfl ?_) | (refine TL_storeAgg rfl rfl Sz.h rfl hbk rfl ?_; intro w2 c2 hz2 hb2) | (refine Jcs rfl rfl (fun hb => ?_) (fun hb => ?_) <;> (try (exfalso; omega))) | (refine Jcx rfl (fun hb => ?_) (fun hb => ?_) <;> (try (exfalso; omega))))
    all_goals exact TR_of (resA2 rfl rfl rfl rfl hb2 Us.h rfl Sz.h) ⟨rfl, Ext.then_iv E c2 hgw⟩
  · obtain ⟨a, rfl⟩ := Int.eq_ofNat_of_zero_le (show 0 ≤ i by omega)
    rw [readF_nat (by omega)]
    by_cases h2 : b.length < a + 10
    · rw [if_pos h2]
      repeat' (first | apply Jbq | apply Jbr | apply Jbs | apply Jbt | apply Jbu | apply Jbv | apply Jbz | (apply Jcg; (first | exact Jaa rfl | exact Jab rfl | exact Jac Us.h rfl | exact Jad rfl rfl | exact Jai rfl rfl | exact Jam rfl rfl | exact Jbd Us.h Sz.h rfl rfl (by omega)); exact rfl) | refine Jch rfl rfl rfl ?_ | (refine Jcg (Pu_build (cs := entC noE) rfl (by kernel_rfl)) rfl ?_) | (refine TL_storeAgg rfl rfl Sz.h rfl hbk rfl ?_; intro w2 c2 hz2 hb2) | (refine Jcx rfl (fun hb => ?_) (fun hb => ?_) <;> (try (exfalso; omega))))
      all_goals exact TR_of (resA2 rfl rfl rfl rfl hb2 Us.h rfl Sz.h) ⟨rfl, Ext.then_iv E c2 hgw⟩
    rw [if_neg h2]
    have hfrom := RB.from (k := a) hr1 (by omega) hc
    repeat' (first | apply Jbq | apply Jbr | apply Jbs | apply Jbt | apply Jbz | (apply Jcg; (first | exact Jaa rfl | exact Jab rfl | exact Jac Us.h rfl | exact Jad rfl rfl | exact Jai rfl rfl | exact Jam rfl rfl | exact Jbd Us.h Sz.h rfl rfl (by omega)); exact rfl) | refine Jch rfl rfl rfl ?_ | (refine Jcx rfl (fun hb => ?_) (fun hb => ?_) <;> (try (exfalso; omega))))
    obtain ⟨s, hs⟩ : ∃ s, s = b.drop a := ⟨_, rfl⟩
    rw [show b.drop (a : Int).toNat = s from hs.symm] at hfrom
    obtain ⟨A1, c1, hv1, hc1, hs1⟩ := hfrom
    rw [hv1]
    have hsl : s.length = b.length - a := by rw [hs, List.length_drop]
    clear hv1
    refine TL_call rfl en178 (implGetNum_k ⟨_, _, rfl, hc1, hs1⟩ (by omega)) rfl rfl ?_
    rintro _ w2 ⟨rfl, e2⟩
    rw [pGet_at (b := s) (i := 0) (sz := 2) (a := 0) (k := 2) rfl rfl (by omega), show getF s 0 2 = getF b a 2 from by rw [hs, getF_drop]; rfl]
    repeat' (first | apply Jbq | apply Jbr | apply Jbs | apply Jbt | (apply Jcg; (first | exact Jaa rfl | exact Jab rfl | exact Jae rfl rfl); exact rfl))
    refine TL_call rfl en178 (implGetNum_k ⟨_, _, rfl, hc1, hs1.ext e2⟩ (by omega)) rfl rfl ?_
    rintro _ w3 ⟨rfl, e3⟩
    rw [pGet_at (b := s) (i := 2) (sz := 4) (a := 2) (k := 4) rfl rfl (by omega), show getF s 2 4 = getF b (a + 2) 4 from by rw [hs, getF_drop]]
    repeat' (first | apply Jbq | apply Jbr | apply Jbs | apply Jbt | (apply Jcg; (first | exact Jaa rfl | exact Jab rfl | exact Jae rfl rfl); exact rfl))
    refine TL_call rfl en178 (implGetNum_k ⟨_, _, rfl, hc1, (hs1.ext e2).ext e3⟩ (by omega)) rfl rfl ?_
    rintro _ w4 ⟨rfl, e4⟩
    rw [pGet_at (b := s) (i := 6) (sz := 4) (a := 6) (k := 4) rfl rfl (by omega), show getF s 6 4 = getF b (a + 6) 4 from by rw [hs, getF_drop]]
    replace E := ((E.ext e2).ext e3).ext e4
    replace hbk := ((hbk.ext e2).ext e3).ext e4
    replace hs1 := ((hs1.ext e2).ext e3).ext e4
    clear e2 e3 e4
    obtain ⟨n, hn⟩ : ∃ n, n = getF b a 2 := ⟨_, rfl⟩
    have hn0 := getF_nn b a 2
    have hn1 := getF_le b a 2 (by omega)
    rw [← hn] at hn0 hn1 ⊢
    obtain ⟨num, hnum⟩ : ∃ num, num = getF b (a + 2) 4 := ⟨_, rfl⟩
    rw [← hnum]
    by_cases h3 : n < 1 ∨ 1000 < n
    · rw [if_pos h3]
      repeat' (first | apply Jbq | apply Jbr | apply Jbs | apply Jbt | apply Jbu | apply Jbv | apply Jbw | apply Jby | (refine Jce rfl ?_) | (apply Jcg; (first | exact Jaa rfl | exact Jab rfl | exact Jae rfl rfl | exact Jaj rfl); exact rfl) | (refine TL_call rfl en101 (in_f _ (by omega)) rfl rfl ?_; rintro _ _ ⟨rfl, rfl⟩) | (refine Jcg (Pu_build (cs := entC noE) rfl (by kernel_rfl)) rfl ?_) | (refine TL_storeAgg rfl rfl Sz.h rfl hbk rfl ?_; intro w5 c5 hz5 hb5))
      all_goals exact TR_of (resA2 rfl rfl rfl rfl hb5 Us.h rfl Sz.h) ⟨rfl, Ext.then_iv E c5 hgw⟩
    rw [if_neg h3]
    by_cases h4 : (b.length : Int) < a + 10 + n
    · rw [if_pos h4]
      repeat' (first | apply Jbq | apply Jbr | apply Jbs | apply Jbt | apply Jbu | apply Jbv | apply Jbw | apply Jby | (refine Jcf rfl ?_) | (apply Jcg; (first | exact Jaa rfl | exact Jab rfl | exact Jac Us.h rfl | exact Jad rfl rfl | exact Jae rfl rfl | exact Jaf rfl rfl (by omega) | exact Jaj rfl); exact rfl) | (refine TL_call rfl en101 (in_t _ (by omega)) rfl rfl ?_; rintro _ _ ⟨rfl, rfl⟩) | (refine Jcg (Pu_build (cs := entC noE) rfl (by kernel_rfl)) rfl ?_) | (refine TL_storeAgg rfl rfl Sz.h rfl hbk rfl ?_; intro w5 c5 hz5 hb5) | (refine Jcx rfl (fun hb => ?_) (fun hb => ?_) <;> (try (exfalso; omega))))
      all_goals exact TR_of (resA2 rfl rfl rfl rfl hb5 Us.h rfl Sz.h) ⟨rfl, Ext.then_iv E c5 hgw⟩
    rw [if_neg h4]
    by_cases h5 : num < 1 ∨ 1000000000 < num
    · rw [if_pos h5]
      repeat' (first | apply Jbq | apply Jbr | apply Jbs | apply Jbt | apply Jbu | apply Jbv | apply Jbw | apply Jby | (refine Jce rfl ?_) | (refine Jcf rfl ?_) | (apply Jcg; (first | exact Jaa rfl | exact Jab rfl | exact Jac Us.h rfl | exact Jad rfl rfl | exact Jae rfl rfl | exact Jaf rfl rfl (by omega) | exact Jaj rfl); exact rfl) | (refine TL_call rfl en101 (in_t _ (by omega)) rfl rfl ?_; rintro _ _ ⟨rfl, rfl⟩) | (refine TL_call rfl en101 (in_f _ (by omega)) rfl rfl ?_; rintro _ _ ⟨rfl, rfl⟩) | (refine Jcg (Pu_build (cs := entC noE) rfl (by kernel_rfl)) rfl ?_) | (refine TL_storeAgg rfl rfl Sz.h rfl hbk rfl ?_; intro w5 c5 hz5 hb5) | (refine Jcx rfl (fun hb => ?_) (fun hb => ?_) <;> (try (exfalso; omega))))
      all_goals exact TR_of (resA2 rfl rfl rfl rfl hb5 Us.h rfl Sz.h) ⟨rfl, Ext.then_iv E c5 hgw⟩
    rw [if_neg h5]
    obtain ⟨m, rfl⟩ := Int.eq_ofNat_of_zero_le hn0
    rw [Int.toNat_natCast]
    have hm := hs1.mid8 (a := (10 : Int)) (b := (10 : Int) + m) (by omega) hc1
    have htx : ((s.take ((10 : Int) + m).toNat).drop (10 : Int).toNat) = textAt b a m := by
      rw [seg_at (p := 10) (q := m) rfl (by omega), hs, List.drop_drop]; rfl
    rw [htx] at hm
    have htl : (textAt b a m).length = m := by unfold textAt; rw [List.length_take, List.length_drop]; omega
    have h6 := RB.to (k := 6) hs1 (by omega) hc1
    have hs6 : s.take (6 : Int).toNat = (b.drop a).take 6 := by rw [hs]; rfl
    have hl6 : ((b.drop a).take 6).length = 6 := by rw [List.length_take, List.length_drop]; omega
    rw [hs6] at h6
    obtain ⟨A6, c6, hv6, hc6, hr6⟩ := h6
    repeat' (first | apply Jbq | apply Jbr | apply Jbs | apply Jbt | apply Jbx | apply Jby | apply Jbz | (refine Jcf rfl ?_) | (apply Jcg; (first | exact Jaa rfl | exact Jab rfl | exact Jac Us.h rfl | exact Jad rfl rfl | exact Jae rfl rfl | exact Jaf rfl rfl (by omega) | exact Jaj rfl | exact Jbc Us.h Sz.h rfl rfl rfl (by omega) | exact Jbe Us.h Sz.h rfl rfl (by omega)); exact rfl) | (refine TL_call rfl en101 (in_t _ (by omega)) rfl rfl ?_; rintro _ _ ⟨rfl, rfl⟩) | (refine Jcx rfl (fun hb => ?_) (fun hb => ?_) <;> (try (exfalso; omega))))
    rw [hv6]
    refine TL_call rfl en71 (copyBytes_c hr6 (by omega)) rfl rfl ?_
    rintro _ w5 ⟨A5, c5, rfl, e5, ho5⟩
    have hmRB : RB w5 _ _ (.slice (cutA A1 c1 (10 : Int).toNat 1) (((10 : Int) + m).toNat - (10 : Int).toNat) (c1 - (10 : Int).toNat)) (textAt b a m) := ⟨_, _, by rw [htl]; congr 1; omega, by rw [htl]; omega, by rw [show (textAt b a m).length = ((10 : Int) + m).toNat - (10 : Int).toNat by rw [htl]; omega]; exact hm.ext e5⟩
    repeat' ((apply Jcg; exact Jaa rfl; exact rfl))
    refine TL_appendB Us.h rfl rfl ⟨_, _, rfl, ho5⟩ hmRB e5.size (by omega) rfl ?_
    intro w6 v6 c6' ho6
    have hE6 : Ext w4 w6 := Ext.then_iv e5 c6' (Nat.le_refl _)
    refine TL_call rfl en164 (implCrc32_k ho6.rd (by simp only [List.length_append]; omega)) rfl rfl ?_
    rintro _ w7 ⟨rfl, e7⟩
    replace hE6 := hE6.ext e7
    replace hbk := hbk.ext hE6
    replace E := E.ext hE6
    replace hm := hm.ext hE6
    repeat' (first | apply Jbq | apply Jbr | (apply Jcg; exact Jal rfl rfl; exact rfl))
    refine Jcy rfl (fun hne => ?_) (fun heq => ?_)
    · rw [if_pos hne]
      repeat' (first | apply Jbq | apply Jbr | apply Jbs | apply Jbt | apply Jbu | apply Jbv | (apply Jcg; exact Jab rfl; exact rfl) | (refine Jcg (Pu_build (cs := entC noE) rfl (by kernel_rfl)) rfl ?_) | (refine TL_storeAgg rfl rfl Sz.h rfl hbk rfl ?_; intro w8 c8 hz8 hb8))
      exact TR_of (resA2 rfl rfl rfl rfl hb8 Us.h rfl Sz.h) ⟨rfl, Ext.then_iv E c8 hgw⟩
    · rw [if_neg (fun q => q heq)]
      repeat' (first | apply Jbq | apply Jbr | apply Jbs | apply Jbt | apply Jbu | apply Jbz | (apply Jcg; (first | exact Jaa rfl | exact Jab rfl | exact Jaf rfl rfl (by omega)); exact rfl) | refine Jcg (Pu_string (s := textAt b a m) Us.h Us.h Us.h rfl (fun w' e => by rw [e]; exact ⟨_, _, hm⟩)) rfl ?_ | (refine Jcg (Pu_build (cs := entC (num, textAt b a m)) rfl (by kernel_rfl)) rfl ?_) | (refine TL_storeAgg rfl rfl Sz.h rfl hbk rfl ?_; intro w8 c8 hz8 hb8))
      exact TR_of (resA2 rfl rfl rfl rfl hb8 Us.h rfl Sz.h) ⟨rfl, Ext.then_iv E c8 hgw⟩
theorem specFrameRead_k {lo hi : Nat} {vb : Value} {b : List UInt8} {i : Int} {w : World} (hR : RB w lo hi vb b) (hl : b.length ≤ 1048576) (hi63 : -9223372036854775808 ≤ i ∧ i ≤ 9223372036854775807) :
    Ret Tryz.prog 154 #[vb, I i] w fun v w' => v = .tuple #[.agg (entC (pReadF b i).1).toArray, I (pReadF b i).2.1, I (pReadF b i).2.2] ∧ Ext w w' := specFrameRead_c hR hl hi63
theorem implFrameRead_k {lo hi : Nat} {vb : Value} {b : List UInt8} {i : Int} {w : World} (hR : RB w lo hi vb b) (hl : b.length ≤ 1048576) (hi63 : -9223372036854775808 ≤ i ∧ i ≤ 9223372036854775807) :
    Ret Tryz.prog 153 #[vb, I i] w fun v w' => v = .tuple #[.agg (entC (pReadF b i).1).toArray, I (pReadF b i).2.1, I (pReadF b i).2.2] ∧ Ext w w' := implFrameRead_c hR hl hi63
end Go.Proofs.YtggaghghclomkaaGreat

/- Contracts: lists of entries, whether they are right, the last ones. -/
namespace Go.Proofs.YtggaghghclomkaaGreat
open Go.RowKit
attribute [local irreducible] TL TC TN TX TR TQ TA Pu Ret

theorem ents_drop (l : List Ent) (k : Nat) : (ents l).drop (k * 2) = ents (l.drop k) := cellsL_drop entC_len l k
theorem ents_append (l m : List Ent) : ents (l ++ m) = ents l ++ ents m := cellsL_append l m
theorem ents_one (l : List Ent) : ∀ u ∈ ents l, u.oneCell' = true := cellsL_one entC_one l
theorem RE.from {w : World} {lo hi c : Nat} {A : Option Addr} {l : List Ent} {a : Int} (h : Rd w lo hi 2 A l.length (ents l)) (ha : 0 ≤ a ∧ a ≤ l.length) (hc : l.length ≤ c) :
    RE w lo hi (.slice (cutA A c a.toNat 2) (l.length - a.toNat) (c - a.toNat)) (l.drop a.toNat) := by
  have h2 := h.cut (a := a.toNat) (b := l.length) (c := c) (by omega) (Nat.le_refl _) hc
  rw [← ents_length l, List.take_length, ents_drop] at h2
  exact ⟨_, _, by rw [List.length_drop], by rw [List.length_drop]; omega, by rw [List.length_drop]; exact h2⟩
theorem OE_new {w1 : World} {g : Nat} {s : List Ent} {w : World} {n : Nat} (hs : s.length = n) (h : Own w1 g (g + 1) 82 2 (some ⟨g, 0, none⟩) n n (ents s)) (hg : g = w.heap.size) (hz : w1.heap.size = g + 1) : OE w1 w.heap.size w1.heap.size (.slice (some ⟨g, 0, none⟩) n n) s := by
  subst hs; exact ⟨_, _, rfl, h.wide (by omega) (by omega) (Nat.le_refl _)⟩
theorem fillE (e : Ent) : Instr.fill (fun i => some (i * 2, 2)) ((Array.range (1 * 2)).map ((Value.agg #[.int .i64 0, .string ByteArray.empty]).cells[· % (Value.agg #[.int .i64 0, .string ByteArray.empty]).cells.size]!)) [(0, .agg (entC e).toArray)] = some (ents [e]).toArray := by kernel_rfl
section
variable {P : Program} {L : List Oper} {Q : Exit → Act → World → Prop} {n d : Nat} {l : Env} {w : World} {rest : List Oper} {ty : TypeId} {pos : String} {af : Array Edge} {v v2 : Value} {x y : Operand} {t : TypeId}
/-- Own entries are appended to. -/
theorem TL_appendE {lo hi lo2 hi2 : Nat} {s s2 : List Ent} (ht : Tryz.prog.underlying t = some (.slice 82)) (hx : ev l x = some v) (hy : ev l y = some v2) (ho : OE w lo hi v s) (hr : RE w lo2 hi2 v2 s2)
    (hlo : lo ≤ w.heap.size) (hm : s.length + s2.length ≤ 1099511627776) (hn : Nat.blt d n = true)
    (h : ∀ w' v', Ch (Iv lo hi) w w' → OE w' lo w'.heap.size v' (s ++ s2) → TL Tryz.prog L Q rest n ((d, v') :: l) w') :
    TL Tryz.prog L Q (⟨some d, .call { callee := .builtin .append, args := #[x, y], argTypes := #[t, t] }, ty, pos, af, none⟩ :: rest) n l w := by
  obtain ⟨A, c, rfl, ho⟩ := ho
  obtain ⟨A2, c2, rfl, _, hr⟩ := hr
  refine TL_append ht inf82 rfl rfl hx hy ho hr (ents_one s2) hlo (by omega) (by omega) hn ?_
  intro w1 hi1 A1 c1 hch h1 h2 h3 hown
  have hz := hch.size
  have hh := ho.hi_le
  exact h w1 _ hch ⟨A1, c1, by rw [List.length_append], (hown.wide (Nat.le_refl _) (by omega) (Nat.le_refl _)).cast (by rw [List.length_append]) (ents_append _ _).symm⟩
end
set_option maxHeartbeats 2000000 in
theorem implEntriesOk_k {lo hi : Nat} {v : Value} {l : List Ent} {w : World} (hR : RE w lo hi v l) (hl : l.length ≤ 1048576) :
    Ret Tryz.prog 109 #[v] w fun v' w' => v' = .bool (pEntries l) ∧ Ext w w' := by
  obtain ⟨A, c, rfl, hc, hr⟩ := hR
  refine Ret_enter Tryz.func109 rfl rfl rfl ?_
  repeat' (first | apply Jbq | apply Jbr | apply Jbs | apply Jbt | apply Jby | (apply Jcg; (first | exact Jaa rfl | exact Jab rfl | exact Jac Us.h rfl); exact rfl))
  refine TC_loop (ι := Nat) (fun k => [(0, .slice A l.length c), (5, .slice A l.length c), (6, I l.length), (7, I k)]) (fun k w' => k ≤ l.length ∧ entsOkTo l k ∧ Ext w w') (fun k => l.length - k) 0 (subEnv_cons rfl (subEnv_cons rfl (subEnv_cons rfl (subEnv_cons rfl (subEnv_nil _))))) ⟨Nat.zero_le _, entsOkTo_zero l, Ch.refl _ _⟩ ?_
  intro k w2 ⟨hk, hok, e2⟩
  repeat' (first | apply Jbq | apply Jbr | apply Jbs | apply Jbt | (apply Jcg; exact Jad rfl rfl; exact rfl))
  refine Jcx rfl (fun hlt => ?_) (fun hge => ?_)
  · have hlt : k < l.length := by omega
    obtain ⟨ad, rfl, hcell⟩ := Rd.elem entC_len (hr.ext e2) hlt
    repeat' (first | apply Jbq | apply Jbr | apply Jbs | apply Jbt | apply Jby | apply Jbz | (apply Jcg; (first | exact Jaa rfl | exact Jab rfl | exact Jar Us.h Sz.h rfl rfl (by omega)); exact rfl) | refine Jcg (Pu_loadAgg (cs := entC l[k]) Us.h rfl Sz.h rfl (fun _ e j u hu => by rw [e]; exact hcell j u hu)) rfl ?_ | (refine TL_alloc Zs.h rfl rfl ?_; intro w3 g3 e3 hg3 hz3 hb3) | (refine TL_storeAgg rfl rfl Sz.h rfl hb3 rfl ?_; intro w4 c4 hz4 hb4))
    have E4 : Ext w w4 := Ext.then_iv (e2.ext e3) c4 (by have := e2.size; omega)
    have hdk : ∀ w', Ext w4 w' → ∀ j u, (entC l[k])[j]? = some u → w'.cell? ((⟨g3, 0, none⟩ : Addr).add j) = some u := fun w' e j u hu => by rw [add0]; exact (e.cell ((hb4.cell j).trans hu))
    cases hp : pEntry l[k].1 l[k].2 with
    | false =>
      refine TC_any mixed rfl ?_
      intro w5 hE hz5
      (refine Jco 0 rfl (by kernel_rfl) (by kernel_rfl) (by kernel_rfl) (fun _ _ _ h => h) hE (by exact Pu_loadAgg (cs := entC l[k]) Us.h rfl Sz.h rfl hdk) rfl ?_)
      refine TA_one 1 (by kernel_rfl) rfl ?_
      refine TL_call rfl en155 (implEntryOk_c l[k].1 l[k].2 _) rfl rfl ?_
      rintro _ w6 ⟨rfl, e6⟩
      rw [hp]
      replace hE := hE.ext e6
      refine Jbq (TN_any hE ?_)
      (refine Jco 2 rfl (by kernel_rfl) (by kernel_rfl) (by kernel_rfl) (fun _ _ _ h => h) hE (by exact Jaj rfl) rfl ?_; refine Jco 3 rfl (by kernel_rfl) (by kernel_rfl) (by kernel_rfl) (fun _ _ _ h => h) hE (by exact Jaa rfl) rfl ?_; refine Jcq 4 rfl (by kernel_rfl) (by kernel_rfl) (by kernel_rfl) (fun _ _ _ h => h) hE rfl rfl rfl rfl rfl ?_; refine Jcq 5 rfl (by kernel_rfl) (by kernel_rfl) (by kernel_rfl) (fun _ _ _ h => h) hE rfl rfl rfl rfl rfl ?_; refine Jcq 6 rfl (by kernel_rfl) (by kernel_rfl) (by kernel_rfl) (fun _ _ _ h => h) hE rfl rfl rfl rfl rfl ?_; refine TA_pass_undef 7 rfl (by kernel_rfl) (by kernel_rfl) (by kernel_rfl) (fun _ _ _ h => h) hE rfl rfl rfl rfl ?_; refine TA_pass_undef 8 rfl (by kernel_rfl) (by kernel_rfl) (by kernel_rfl) (fun _ _ _ h => h) hE rfl rfl rfl rfl ?_; refine TA_pass_undef 9 rfl (by kernel_rfl) (by kernel_rfl) (by kernel_rfl) (fun _ _ _ h => h) hE rfl rfl rfl rfl ?_; refine TA_pass_undef 10 rfl (by kernel_rfl) (by kernel_rfl) (by kernel_rfl) (fun _ _ _ h => h) hE rfl rfl rfl rfl ?_; refine TA_pass_undef 11 rfl (by kernel_rfl) (by kernel_rfl) (by kernel_rfl) (fun _ _ _ h => h) hE rfl rfl rfl rfl ?_; refine TA_pass_undef 12 rfl (by kernel_rfl) (by kernel_rfl) (by kernel_rfl) (fun _ _ _ h => h) hE rfl rfl rfl rfl ?_; refine TA_pass_undef 13 rfl (by kernel_rfl) (by kernel_rfl) (by kernel_rfl) (fun _ _ _ h => h) hE rfl rfl rfl rfl ?_; refine TA_pass_undef 14 rfl (by kernel_rfl) (by kernel_rfl) (by kernel_rfl) (fun _ _ _ h => h) hE rfl rfl rfl rfl ?_; refine TA_pass_undef 15 rfl (by kernel_rfl) (by kernel_rfl) (by kernel_rfl) (fun _ _ _ h => h) hE rfl rfl rfl rfl ?_; refine TA_pass_undef 16 rfl (by kernel_rfl) (by kernel_rfl) (by kernel_rfl) (fun _ _ _ h => h) hE rfl rfl rfl rfl ?_; refine Jcq 17 rfl (by kernel_rfl) (by kernel_rfl) (by kernel_rfl) (fun _ _ _ h => h) hE rfl rfl rfl rfl rfl ?_; refine Jco 18 rfl (by kernel_rfl) (by kernel_rfl) (by kernel_rfl) (fun _ _ _ h => h) hE (by exact Jah rfl rfl) rfl ?_)
      refine TA_done (by kernel_rfl) ?_
      rw [pEntries_not (fun q => by have := q.1 k hlt hlt; rw [hp] at this; cases this)]
      repeat' (first | apply Jbq | apply Jbr | apply Jbs | apply Jbt | apply Jbu | apply Jbv | apply Jbw | (refine Jce rfl ?_) | (apply Jcg; exact Jab rfl; exact rfl))
      exact TR_of (res1 rfl rfl) ⟨rfl, E4.ext hE⟩
    | true =>
      have hb := pEntry_iff.1 hp
      by_cases hk0 : 0 < k
      · obtain ⟨_, h8, hcell2⟩ := Rd.elem entC_len (hr.ext E4) (show k - 1 < l.length by omega)
        injection h8 with h8
        subst h8
        have hpb := pEntry_iff.1 (hok.1 (k - 1) (by omega) (by omega))
        have hc1 : w4.cell? ((ad.add (((k : Int) - 1).toNat * 2)).add 0) = some (I (l[k - 1]'(by omega)).1) := by
          rw [show ((k : Int) - 1).toNat = k - 1 by omega]; exact hcell2 0 _ rfl
        have hkp : (0 : Int) < (k : Int) := by omega
        refine TC_any mixed rfl ?_
        intro w5 hE hz5
        (refine Jco 0 rfl (by kernel_rfl) (by kernel_rfl) (by kernel_rfl) (fun _ _ _ h => h) hE (by exact Pu_loadAgg (cs := entC l[k]) Us.h rfl Sz.h rfl hdk) rfl ?_)
        refine TA_one 1 (by kernel_rfl) rfl ?_
        refine TL_call rfl en155 (implEntryOk_c l[k].1 l[k].2 _) rfl rfl ?_
        rintro _ w6 ⟨rfl, e6⟩
        rw [hp]
        replace hE := hE.ext e6
        refine Jbq (TN_any hE ?_)
        (refine Jco 2 rfl (by kernel_rfl) (by kernel_rfl) (by kernel_rfl) (fun _ _ _ h => h) hE (by exact Jaj rfl) rfl ?_; refine Jco 3 rfl (by kernel_rfl) (by kernel_rfl) (by kernel_rfl) (fun _ _ _ h => h) hE (by exact Jaa rfl) rfl ?_; refine Jcp 4 rfl (by kernel_rfl) (by kernel_rfl) (by kernel_rfl) (fun _ _ _ h => h) hE rfl rfl rfl (by exact Jaa rfl) rfl ?_; refine Jcp 5 rfl (by kernel_rfl) (by kernel_rfl) (by kernel_rfl) (fun _ _ _ h => h) hE rfl rfl rfl (by exact Jam rfl rfl) rfl ?_; refine Jcp 6 rfl (by kernel_rfl) (by kernel_rfl) (by kernel_rfl) (fun _ _ _ h => h) hE rfl rfl rfl (by exact Jaa rfl) rfl ?_)
        rw [decide_eq_true hkp]
        (refine Jcp 7 rfl (by kernel_rfl) (by kernel_rfl) (by kernel_rfl) (fun _ _ _ h => h) hE rfl rfl rfl (by exact Jaa rfl) rfl ?_; refine Jcp 8 rfl (by kernel_rfl) (by kernel_rfl) (by kernel_rfl) (fun _ _ _ h => h) hE rfl rfl rfl (by exact Jaa rfl) rfl ?_; refine Jcp 9 rfl (by kernel_rfl) (by kernel_rfl) (by kernel_rfl) (fun _ _ _ h => h) hE rfl rfl rfl (by exact Jap rfl rfl (by omega)) rfl ?_; refine Jcp 10 rfl (by kernel_rfl) (by kernel_rfl) (by kernel_rfl) (fun _ _ _ h => h) hE rfl rfl rfl (by exact Jar Us.h Sz.h rfl rfl (by omega)) rfl ?_; refine Jcp 11 rfl (by kernel_rfl) (by kernel_rfl) (by kernel_rfl) (fun _ _ _ h => h) hE rfl rfl rfl (by (apply Jbl; exact Us.h; exact rfl; exact Sz.h; exact rfl)) rfl ?_; refine Jcp 12 rfl (by kernel_rfl) (by kernel_rfl) (by kernel_rfl) (fun _ _ _ h => h) hE rfl rfl rfl (by exact Pu_load Fl.h rfl (fun _ e => Ext.cell e hc1)) rfl ?_; refine Jcp 13 rfl (by kernel_rfl) (by kernel_rfl) (by kernel_rfl) (fun _ _ _ h => h) hE rfl rfl rfl (by exact Jaf rfl rfl (by omega)) rfl ?_; refine Jcp 14 rfl (by kernel_rfl) (by kernel_rfl) (by kernel_rfl) (fun _ _ _ h => h) hE rfl rfl rfl (by (apply Jbl; exact Us.h; exact rfl; exact Sz.h; exact rfl)) rfl ?_; refine Jcp 15 rfl (by kernel_rfl) (by kernel_rfl) (by kernel_rfl) (fun _ _ _ h => h) hE rfl rfl rfl (by exact Pu_load Fl.h rfl (fun _ e => Ext.cell e (hb4.ld (off := 0) rfl))) rfl ?_; refine Jcp 16 rfl (by kernel_rfl) (by kernel_rfl) (by kernel_rfl) (fun _ _ _ h => h) hE rfl rfl rfl (by exact Jal rfl rfl) rfl ?_; refine Jcp 17 rfl (by kernel_rfl) (by kernel_rfl) (by kernel_rfl) (fun _ _ _ h => h) hE rfl rfl rfl (by exact Jah rfl rfl) rfl ?_; refine Jco 18 rfl (by kernel_rfl) (by kernel_rfl) (by kernel_rfl) (fun _ _ _ h => h) hE (by exact Jai rfl rfl) rfl ?_)
        refine TA_done (by kernel_rfl) ?_
        repeat' (apply Jbr)
        refine Jcy rfl (fun hne => ?_) (fun heq => ?_)
        · rw [pEntries_not (fun q => by
            have := q.2 (k - 1) (by omega) (by omega)
            simp only [show k - 1 + 1 = k by omega] at this
            omega)]
          repeat' (first | apply Jbq | apply Jbr | apply Jbs | apply Jbt | apply Jbu | apply Jbv | apply Jbw | (apply Jcg; exact Jab rfl; exact rfl))
          exact TR_of (res1 rfl rfl) ⟨rfl, E4.ext hE⟩
        · repeat' (first | apply Jbq | apply Jbr | apply Jbt | apply Jbx | apply Jbz | (apply Jcg; (first | exact Jaa rfl | exact Jaf rfl rfl (by omega)); exact rfl))
          exact TN_round (k + 1) (subEnv_cons rfl (subEnv_cons rfl (subEnv_cons rfl (subEnv_cons rfl (subEnv_nil _))))) ⟨hlt, entsOkTo_succ hok hlt hp (fun _ => by omega), E4.ext hE⟩ (by omega)
      · obtain rfl : k = 0 := by omega
        refine TC_any mixed rfl ?_
        intro w5 hE hz5
        (refine Jco 0 rfl (by kernel_rfl) (by kernel_rfl) (by kernel_rfl) (fun _ _ _ h => h) hE (by exact Pu_loadAgg (cs := entC l[0]) Us.h rfl Sz.h rfl hdk) rfl ?_)
        refine TA_one 1 (by kernel_rfl) rfl ?_
        refine TL_call rfl en155 (implEntryOk_c l[0].1 l[0].2 _) rfl rfl ?_
        rintro _ w6 ⟨rfl, e6⟩
        rw [hp]
        replace hE := hE.ext e6
        refine Jbq (TN_any hE ?_)
        (refine Jco 2 rfl (by kernel_rfl) (by kernel_rfl) (by kernel_rfl) (fun _ _ _ h => h) hE (by exact Jaj rfl) rfl ?_; refine Jco 3 rfl (by kernel_rfl) (by kernel_rfl) (by kernel_rfl) (fun _ _ _ h => h) hE (by exact Jaa rfl) rfl ?_; refine Jcp 4 rfl (by kernel_rfl) (by kernel_rfl) (by kernel_rfl) (fun _ _ _ h => h) hE rfl rfl rfl (by exact Jaa rfl) rfl ?_; refine Jcp 5 rfl (by kernel_rfl) (by kernel_rfl) (by kernel_rfl) (fun _ _ _ h => h) hE rfl rfl rfl (by exact Jam rfl rfl) rfl ?_; refine Jcp 6 rfl (by kernel_rfl) (by kernel_rfl) (by kernel_rfl) (fun _ _ _ h => h) hE rfl rfl rfl (by exact Jaa rfl) rfl ?_; refine Jcq 7 rfl (by kernel_rfl) (by kernel_rfl) (by kernel_rfl) (fun _ _ _ h => h) hE rfl rfl rfl rfl rfl ?_; refine Jcq 8 rfl (by kernel_rfl) (by kernel_rfl) (by kernel_rfl) (fun _ _ _ h => h) hE rfl rfl rfl rfl rfl ?_; refine Jcq 9 rfl (by kernel_rfl) (by kernel_rfl) (by kernel_rfl) (fun _ _ _ h => h) hE rfl rfl rfl rfl rfl ?_; refine Jcq 10 rfl (by kernel_rfl) (by kernel_rfl) (by kernel_rfl) (fun _ _ _ h => h) hE rfl rfl rfl rfl rfl ?_; refine Jcq 11 rfl (by kernel_rfl) (by kernel_rfl) (by kernel_rfl) (fun _ _ _ h => h) hE rfl rfl rfl rfl rfl ?_; refine Jcq 12 rfl (by kernel_rfl) (by kernel_rfl) (by kernel_rfl) (fun _ _ _ h => h) hE rfl rfl rfl rfl rfl ?_; refine Jcq 13 rfl (by kernel_rfl) (by kernel_rfl) (by kernel_rfl) (fun _ _ _ h => h) hE rfl rfl rfl rfl rfl ?_; refine Jcq 14 rfl (by kernel_rfl) (by kernel_rfl) (by kernel_rfl) (fun _ _ _ h => h) hE rfl rfl rfl rfl rfl ?_; refine Jcq 15 rfl (by kernel_rfl) (by kernel_rfl) (by kernel_rfl) (fun _ _ _ h => h) hE rfl rfl rfl rfl rfl ?_; refine Jcq 16 rfl (by kernel_rfl) (by kernel_rfl) (by kernel_rfl) (fun _ _ _ h => h) hE rfl rfl rfl rfl rfl ?_; refine Jcp 17 rfl (by kernel_rfl) (by kernel_rfl) (by kernel_rfl) (fun _ _ _ h => h) hE rfl rfl rfl (by exact Jai rfl rfl) rfl ?_; refine Jco 18 rfl (by kernel_rfl) (by kernel_rfl) (by kernel_rfl) (fun _ _ _ h => h) hE (by exact Jai rfl rfl) rfl ?_)
        refine TA_done (by kernel_rfl) ?_
        repeat' (first | apply Jbq | apply Jbr | apply Jbt | apply Jbx | apply Jbz | (refine Jcf rfl ?_) | (apply Jcg; (first | exact Jaa rfl | exact Jaf rfl rfl (by omega)); exact rfl))
        exact TN_round 1 (subEnv_cons rfl (subEnv_cons rfl (subEnv_cons rfl (subEnv_cons rfl (subEnv_nil _))))) ⟨hlt, entsOkTo_succ hok hlt hp (fun q => by omega), E4.ext hE⟩ (by omega)
  · obtain rfl : k = l.length := by omega
    rw [pEntries_iff.2 hok]
    repeat' (first | apply Jbq | apply Jbr | apply Jbs | apply Jbt | apply Jbu | apply Jca | apply Jcb | apply Jcc | (apply Jcg; exact Jab rfl; exact rfl))
    exact TR_of (res1 rfl rfl) ⟨rfl, e2⟩
end Go.Proofs.YtggaghghclomkaaGreat

/- Contracts: lists of records, written and read. -/
namespace Go.Proofs.YtggaghghclomkaaGreat
open Go.RowKit
attribute [local irreducible] TL TC TN TX TR TQ TA Pu Ret

theorem pLog_no {l : List Ent} (h : ¬ (pEntries l = true ∧ (l.flatMap frame).length ≤ 65536)) : pLog l = ([], false) := by unfold pLog; rw [if_neg h]
theorem pLog_yes {l : List Ent} (h : pEntries l = true ∧ (l.flatMap frame).length ≤ 65536) : pLog l = (l.flatMap frame, true) := by unfold pLog; rw [if_pos h]
theorem pFrame_fst {e : Int × List UInt8} (h : pEntry e.1 e.2 = true) : (pFrame e).1 = frame e := by rw [pFrame_yes h]
theorem pFrame_snd {e : Int × List UInt8} (h : pEntry e.1 e.2 = true) : (pFrame e).2 = true := by rw [pFrame_yes h]
theorem OB.all {w : World} {lo hi : Nat} {v : Value} {s : List UInt8} (h : OB w lo hi v s) : OB w lo w.heap.size v s := by
  obtain ⟨A, c, h1, h2⟩ := h
  exact ⟨A, c, h1, h2.wide (Nat.le_refl _) h2.hi_le (Nat.le_refl _)⟩
set_option maxHeartbeats 4000000 in
theorem implLogBytes_k {lo hi : Nat} {v : Value} {l : List Ent} {w : World} (hR : RE w lo hi v l) (hl : l.length ≤ 1048576) :
    Ret Tryz.prog 110 #[v] w fun v w' => ∃ v', v = .tuple #[v', .bool (pLog l).2] ∧ Ext w w' ∧ OB w' w.heap.size w'.heap.size v' (pLog l).1 := by
  have hr0 := hR
  obtain ⟨A, c, rfl, hc, hr⟩ := hr0
  refine Ret_enter Tryz.func110 rfl rfl rfl ?_
  repeat' (first | apply Jbq | apply Jbr | apply Jbs | apply Jbt | (apply Jcg; (first | exact Jaa rfl | exact Jab rfl); exact rfl))
  refine TL_call rfl en109 (implEntriesOk_k hR hl) rfl rfl ?_
  rintro _ w1 ⟨rfl, E⟩
  cases hp : pEntries l
  · rw [pLog_no (by simp [hp])]
    repeat' (first | apply Jbq | apply Jbr | apply Jbs | apply Jbt | apply Jbu | apply Jbv | (refine Jce rfl ?_) | (apply Jcg; (first | exact Jab rfl | exact Jaj rfl); exact rfl))
    exact TR_of (res2 rfl rfl rfl) ⟨_, rfl, E, OB.nil _ _ E.size⟩
  · have hok := pEntries_iff.1 hp
    have hs1 := E.size
    repeat' (first | apply Jbq | apply Jbr | apply Jbs | apply Jbt | apply Jby | apply Jbz | (refine Jcf rfl ?_) | (apply Jcg; (first | exact Jaa rfl | exact Jab rfl | exact Jac Us.h rfl | exact Jaj rfl); exact rfl))
    refine TC_loop (ι := Nat × Value) (fun x => [(4, x.2), (12, .slice A l.length c), (13, I l.length), (14, I x.1)]) (fun x w' => x.1 ≤ l.length ∧ Ext w w' ∧ ((l.take x.1).flatMap frame).length ≤ 65536 ∧ OB w' w.heap.size w'.heap.size x.2 ((l.take x.1).flatMap frame)) (fun x => l.length - x.1) (0, _) (subEnv_cons rfl (subEnv_cons rfl (subEnv_cons rfl (subEnv_cons rfl (subEnv_nil _)))))
      ⟨Nat.zero_le _, E, by simp, OB.nil _ _ hs1⟩ ?_
    rintro ⟨k, va⟩ w3 ⟨hk, e3, hle, ho3⟩
    simp only at hk hle ho3
    repeat' (first | apply Jbq | apply Jbr | apply Jbs | apply Jbt | (apply Jcg; exact Jad rfl rfl; exact rfl))
    refine Jcx rfl (fun hlt0 => ?_) (fun hge => ?_)
    · have hlt : k < l.length := by omega
      obtain ⟨ad, rfl, hcell⟩ := Rd.elem entC_len (hr.ext e3) hlt
      have hek := hok.1 k hlt hlt
      have hfl := frame_length l[k]
      have hft := frames_take hlt
      have hfe := frames_le l (k + 1)
      have hek2 := pEntry_iff.1 hek
      repeat' (first | apply Jbq | apply Jbr | apply Jbs | apply Jbt | apply Jby | apply Jbz | (apply Jcg; exact Jar Us.h Sz.h rfl rfl (by omega); exact rfl) | refine Jcg (Pu_loadAgg (cs := entC l[k]) Us.h rfl Sz.h rfl (fun _ e j u hu => by rw [e]; exact hcell j u hu)) rfl ?_ | (refine TL_alloc Zs.h rfl rfl ?_; intro w4 g4 e4 hg4 hz4 hb4) | (refine TL_storeAgg rfl rfl Sz.h rfl hb4 rfl ?_; intro w5 c5 hz5 hb5) | refine Jcg (Pu_loadAgg (cs := entC l[k]) Us.h rfl Sz.h rfl (fun _ e j u hu => by rw [e, add0, hb5.cell]; exact hu)) rfl ?_)
      refine TL_call rfl en118 (implFrameBytes_c l[k] _) rfl rfl ?_
      rintro _ w6 ⟨v6, rfl, e6, ho6⟩
      rw [pFrame_fst hek] at ho6
      rw [pFrame_snd hek]
      have hs3 := e3.size
      have hs4 := e4.size
      have hs6 := e6.size
      have E6 : Ext w w6 := (Ext.then_iv (e3.ext e4) c5 (by omega)).ext e6
      have ho3' : OB w6 w.heap.size w3.heap.size va ((l.take k).flatMap frame) := ((ho3.ext e4).ch c5 (by intro k _ _; simp only [Iv]; omega)).ext e6
      repeat' (first | apply Jbq | apply Jbr | apply Jbs | apply Jbt | (apply Jcg; (first | exact Jaa rfl | exact Jab rfl | exact Jae rfl rfl); exact rfl))
      refine TL_appendB Us.h rfl rfl ho3' ho6.rd (by omega) (by omega) rfl ?_
      intro w7 v7 c7 ho7
      rw [← hft] at ho7
      have E7 : Ext w w7 := Ext.then_iv E6 c7 (Nat.le_refl _)
      obtain ⟨A7, c7', rfl, ho7⟩ := ho7
      repeat' (first | apply Jbq | apply Jbr | apply Jbs | apply Jbt | (apply Jcg; (first | exact Jaa rfl | exact Jab rfl | exact Jac Us.h rfl | exact Jam rfl rfl); exact rfl))
      refine Jcx rfl (fun hb => ?_) (fun hb => ?_)
      · rw [pLog_no (fun q => by have := q.2; omega)]
        repeat' (first | apply Jbq | apply Jbr | apply Jbs | apply Jbt | apply Jbu | apply Jbv | apply Jbw | (apply Jcg; exact Jab rfl; exact rfl))
        exact TR_of (res2 rfl rfl rfl) ⟨_, rfl, E7, OB.nil _ _ E7.size⟩
      · repeat' (first | apply Jbq | apply Jbr | apply Jbt | apply Jbx | apply Jbz | (apply Jcg; (first | exact Jaa rfl | exact Jaf rfl rfl (by omega)); exact rfl))
        exact TN_round (k + 1, .slice A7 _ c7') (subEnv_cons rfl (subEnv_cons rfl (subEnv_cons rfl (subEnv_cons rfl (subEnv_nil _))))) ⟨hlt, E7, by simp only; omega, ⟨A7, c7', rfl, ho7⟩⟩ (by simp only; omega)
    · obtain rfl : k = l.length := by omega
      rw [List.take_length] at hle ho3
      rw [pLog_yes ⟨hp, hle⟩]
      repeat' (first | apply Jbq | apply Jbr | apply Jbs | apply Jbt | apply Jbu | apply Jca | apply Jcb | apply Jcc | (apply Jcg; (first | exact Jaa rfl | exact Jab rfl); exact rfl))
      exact TR_of (res2 rfl rfl rfl) ⟨_, rfl, e3, ho3⟩
theorem follows_snoc {l : List Ent} {n : Int} (h : 0 < l.length) : follows (lastNum l) n = decide ((l[l.length - 1]'(by omega)).1 + 1 = n) := by
  unfold lastNum
  rw [List.getLast?_eq_getElem?, List.getElem?_eq_getElem (by omega)]
  rfl
theorem OE.all {w : World} {lo hi : Nat} {v : Value} {s : List Ent} (h : OE w lo hi v s) : OE w lo w.heap.size v s := by
  obtain ⟨A, c, h1, h2⟩ := h
  exact ⟨A, c, h1, h2.wide (Nat.le_refl _) h2.hi_le (Nat.le_refl _)⟩
set_option maxHeartbeats 8000000 in
theorem specScan_k {lo hi : Nat} {vb : Value} {b : List UInt8} {w : World} (hR : RB w lo hi vb b) (hl : b.length ≤ 1048576) :
    Ret Tryz.prog 107 #[vb] w fun v w' => ∃ v', v = .tuple #[v', I (pScan b).2] ∧ Ext w w' ∧ OE w' w.heap.size w'.heap.size v' (pScan b).1 := by
  obtain ⟨A, c, rfl, hc, hr⟩ := hR
  refine Ret_enter Tryz.func107 rfl rfl rfl ?_
  repeat' (first | apply Jbq | apply Jbr | apply Jbs | apply Jbt | apply Jby | (apply Jcg; exact Jab rfl; exact rfl) | (refine TL_buildSlice0 Us.h Sz.h rfl ?_; intro w1 g1 e1 hg1 hz1 hown1))
  refine TC_loop (ι := Nat × List Ent × Value) (fun x => [(0, .slice A b.length c), (4, x.2.2), (5, I x.1)])
    (fun x w' => x.1 ≤ b.length ∧ 10 * x.2.1.length ≤ x.1 ∧ (∀ e ∈ x.2.1, pEntry e.1 e.2 = true) ∧ pScan b = (x.2.1 ++ (scanFrom b (lastNum x.2.1) x.1).1, (scanFrom b (lastNum x.2.1) x.1).2) ∧ Ext w w' ∧ OE w' w.heap.size w'.heap.size x.2.2 x.2.1) (fun x => b.length - x.1) (0, [], _) (subEnv_cons rfl (subEnv_cons rfl (subEnv_cons rfl (subEnv_nil _))))
    ⟨Nat.zero_le _, Nat.le_refl _, by simp, rfl, by first | exact e1 | exact Ch.refl _ _, by first | exact OE_new (s := []) rfl hown1 hg1 hz1 | exact OE.nil _ _ (Nat.le_refl _)⟩ ?_
  rintro ⟨a, acc, va⟩ w2 ⟨ha, hacc, hall, heq, e2, ho2⟩
  simp only at ha hacc hall heq ho2
  repeat' (first | apply Jbs | apply Jbt | apply Jby | (apply Jcg; exact Jaa rfl; exact rfl))
  refine TL_call rfl en154 (specFrameRead_k (i := a) ⟨_, _, rfl, hc, hr.ext e2⟩ hl (by omega)) rfl rfl ?_
  rintro _ w3 ⟨rfl, e3⟩
  obtain ⟨r, hrr⟩ : ∃ r, r = pReadF b a := ⟨_, rfl⟩
  have hnx := fun h => readF_next (b := b) (i := a) h
  rw [← hrr] at hnx ⊢
  have hend := scanFrom_end (b := b) (p := lastNum acc) (a := a)
  have hstep := scanFrom_step (b := b) (p := lastNum acc) (a := a)
  rw [← hrr] at hend hstep
  replace e2 := e2.ext e3
  replace ho2 := ho2.ext e3
  have hs2 := e2.size
  have hh2 := ho2.hi_le
  clear e3 hrr
  repeat' ((apply Jcg; (first | exact Jaa rfl | exact Jae rfl rfl); exact rfl))
  refine TL_alloc Zs.h rfl rfl ?_
  intro w4 g4 e4 hg4 hz4 hb4
  skip
  refine TL_storeAgg rfl rfl Sz.h rfl hb4 rfl ?_
  clear hb4
  intro w5 c5 hz5 hb5
  have E5 : Ext w w5 := Ext.then_iv (e2.ext e4) c5 (by omega)
  replace ho2 := (ho2.ext e4).ch c5 (by intro k _ _; simp only [Iv]; omega)
  have hs5 : w3.heap.size + 1 = w5.heap.size := by omega
  have hgl := hb5.lt
  clear e2 e4 c5
  obtain ⟨A2, c2, rfl, hown2⟩ := ho2
  have hld : ∀ w', Ext w5 w' → w'.cell? ((⟨g4, 0, none⟩ : Addr).add 0) = some (I r.1.1) := fun w' e => (hb5.ext e).ld rfl
  have hrec : ∀ w', Ext w5 w' → ∀ j u, (entC r.1)[j]? = some u → w'.cell? ((⟨g4, 0, none⟩ : Addr).add j) = some u := fun w' e j u hu => by rw [add0]; exact e.cell ((hb5.cell j).trans hu)
  clear hb5
  repeat' (first | apply Jbq | apply Jbr | apply Jbs | (apply Jcg; exact Jab rfl; exact rfl))
  by_cases hcode : r.2.2 = 0
  · obtain ⟨_, hn1, hn2, hn3, hn4⟩ := hnx hcode
    have hent := pEntry_iff.1 hn3
    obtain ⟨nx, hnx2⟩ := Int.eq_ofNat_of_zero_le (show 0 ≤ r.2.1 by omega)
    have hnxn : r.2.1.toNat = nx := by omega
    -- what follows when the record is taken
    have go : follows (lastNum acc) r.1.1 = true → pScan b = ((acc ++ [r.1]) ++ (scanFrom b (lastNum (acc ++ [r.1])) nx).1, (scanFrom b (lastNum (acc ++ [r.1])) nx).2) := fun hf => by
      rw [heq, hstep hcode hf, lastNum_snoc, hnxn]; simp
    have hall' : ∀ e ∈ acc ++ [r.1], pEntry e.1 e.2 = true := fun e he => by
      rcases List.mem_append.1 he with h | h
      · exact hall e h
      · rw [List.mem_singleton.1 h]; exact hn3
    by_cases hac : 0 < acc.length
    · have hfs := follows_snoc (l := acc) (n := r.1.1) hac
      have hlast := pEntry_iff.1 (hall _ (List.getElem_mem (show acc.length - 1 < acc.length by omega)))
      obtain ⟨ad, rfl, hcell⟩ := Rd.elem entC_len hown2.rd (show acc.length - 1 < acc.length by omega)
      have hc1 : w5.cell? ((ad.add (((acc.length : Int) - 1).toNat * 2)).add 0) = some (I (acc[acc.length - 1]'(by omega)).1) := by
        rw [show ((acc.length : Int) - 1).toNat = acc.length - 1 by omega]; exact hcell 0 _ rfl
      refine TC_any mixed rfl ?_
      intro w6 hE hz6
      (refine Jco 0 rfl (by kernel_rfl) (by kernel_rfl) (by kernel_rfl) (fun _ _ _ h => h) hE (by exact Jaa rfl) rfl ?_; refine Jco 1 rfl (by kernel_rfl) (by kernel_rfl) (by kernel_rfl) (fun _ _ _ h => h) hE (by exact Jal rfl rfl) rfl ?_; refine Jco 2 rfl (by kernel_rfl) (by kernel_rfl) (by kernel_rfl) (fun _ _ _ h => h) hE (by exact Jaa rfl) rfl ?_)
      rw [show (!decide (r.2.2 = 0)) = false from by simp [hcode]]
      (refine Jcp 3 rfl (by kernel_rfl) (by kernel_rfl) (by kernel_rfl) (fun _ _ _ h => h) hE rfl rfl rfl (by exact Jaa rfl) rfl ?_; refine Jcp 4 rfl (by kernel_rfl) (by kernel_rfl) (by kernel_rfl) (fun _ _ _ h => h) hE rfl rfl rfl (by exact Jac Us.h rfl) rfl ?_; refine Jcp 5 rfl (by kernel_rfl) (by kernel_rfl) (by kernel_rfl) (fun _ _ _ h => h) hE rfl rfl rfl (by exact Jam rfl rfl) rfl ?_; refine Jcp 6 rfl (by kernel_rfl) (by kernel_rfl) (by kernel_rfl) (fun _ _ _ h => h) hE rfl rfl rfl (by exact Jaa rfl) rfl ?_)
      rw [decide_eq_true (show (0 : Int) < (acc.length : Int) by omega)]
      (refine Jcp 7 rfl (by kernel_rfl) (by kernel_rfl) (by kernel_rfl) (fun _ _ _ h => h) hE rfl rfl rfl (by (apply Jbl; exact Us.h; exact rfl; exact Sz.h; exact rfl)) rfl ?_; refine Jcp 8 rfl (by kernel_rfl) (by kernel_rfl) (by kernel_rfl) (fun _ _ _ h => h) hE rfl rfl rfl (by exact Pu_load Fl.h rfl hld) rfl ?_; refine Jcp 9 rfl (by kernel_rfl) (by kernel_rfl) (by kernel_rfl) (fun _ _ _ h => h) hE rfl rfl rfl (by exact Jap rfl rfl (by omega)) rfl ?_; refine Jcp 10 rfl (by kernel_rfl) (by kernel_rfl) (by kernel_rfl) (fun _ _ _ h => h) hE rfl rfl rfl (by exact Jaa rfl) rfl ?_; refine Jcp 11 rfl (by kernel_rfl) (by kernel_rfl) (by kernel_rfl) (fun _ _ _ h => h) hE rfl rfl rfl (by exact Jaa rfl) rfl ?_; refine Jcp 12 rfl (by kernel_rfl) (by kernel_rfl) (by kernel_rfl) (fun _ _ _ h => h) hE rfl rfl rfl (by exact Jac Us.h rfl) rfl ?_; refine Jcp 13 rfl (by kernel_rfl) (by kernel_rfl) (by kernel_rfl) (fun _ _ _ h => h) hE rfl rfl rfl (by exact Jap rfl rfl (by omega)) rfl ?_; refine Jcp 14 rfl (by kernel_rfl) (by kernel_rfl) (by kernel_rfl) (fun _ _ _ h => h) hE rfl rfl rfl (by exact Jar Us.h Sz.h rfl rfl (by omega)) rfl ?_; refine Jcp 15 rfl (by kernel_rfl) (by kernel_rfl) (by kernel_rfl) (fun _ _ _ h => h) hE rfl rfl rfl (by (apply Jbl; exact Us.h; exact rfl; exact Sz.h; exact rfl)) rfl ?_; refine Jcp 16 rfl (by kernel_rfl) (by kernel_rfl) (by kernel_rfl) (fun _ _ _ h => h) hE rfl rfl rfl (by exact Pu_load Fl.h rfl (fun _ e => Ext.cell e hc1)) rfl ?_; refine Jcp 17 rfl (by kernel_rfl) (by kernel_rfl) (by kernel_rfl) (fun _ _ _ h => h) hE rfl rfl rfl (by exact Jal rfl rfl) rfl ?_; refine Jcp 18 rfl (by kernel_rfl) (by kernel_rfl) (by kernel_rfl) (fun _ _ _ h => h) hE rfl rfl rfl (by exact Jah rfl rfl) rfl ?_; refine Jco 19 rfl (by kernel_rfl) (by kernel_rfl) (by kernel_rfl) (fun _ _ _ h => h) hE (by exact Jai rfl rfl) rfl ?_)
      refine TA_done (by kernel_rfl) ?_
      repeat' (apply Jbr)
      refine Jcy rfl (fun hne => ?_) (fun hfo => ?_)
      · have hend2 := hend (fun q => by have := q.2; rw [hfs] at this; have := of_decide_eq_true this; omega)
        rw [heq, hend2]
        repeat' (first | apply Jbq | apply Jbr | apply Jbs | apply Jbt | apply Jbu | apply Jbv | apply Jbw | (apply Jcg; (first | exact Jaa rfl | exact Jab rfl); exact rfl))
        exact TR_of (res2 rfl rfl rfl) ⟨_, by rw [List.append_nil], E5.ext hE, by rw [List.append_nil]; exact ⟨_, _, rfl, (hown2.ext hE).wide (Nat.le_refl _) (by have := hE.size; omega) (Nat.le_refl _)⟩⟩
      · have hgo := go (by rw [hfs]; exact decide_eq_true (by omega))
        have hrec2 := fun e => hrec w6 (hE.ext e)
        repeat' (first | apply Jbr | apply Jbs | apply Jbt | apply Jbz | (apply Jcg; exact Jaa rfl; exact rfl) | refine Jcg (Pu_loadAgg (cs := entC r.1) Us.h rfl Sz.h rfl (fun _ e j u hu => by rw [e]; exact hrec w6 hE j u hu)) rfl ?_)
        refine TL_buildSlice (us := ents [r.1]) Us.h Zi.h rfl rfl rfl rfl (fillE _) rfl rfl ?_
        intro w7 g7 e7 hg7 hz7 hown7
        refine TL_appendE Us.h rfl rfl ⟨_, _, rfl, (hown2.ext hE).ext e7⟩ (OE_new (s := [_]) rfl hown7 hg7 hz7).rd (by have := hE.size; have := e7.size; omega) (by simp only [List.length_cons, List.length_nil]; omega) rfl ?_
        intro w8 v8 c8 ho8
        have E8 : Ext w w8 := Ext.then_iv ((E5.ext hE).ext e7) c8 (Nat.le_refl _)
        repeat' (first | apply Jbq | apply Jbr | apply Jbt | apply Jbx | (apply Jcg; (first | exact Jaa rfl | exact Jab rfl); exact rfl))
        exact TN_round (nx, acc ++ [r.1], v8) (subEnv_cons rfl (subEnv_cons rfl (subEnv_cons (congrArg (fun z => some (I z)) hnx2) (subEnv_nil _)))) ⟨by simp only; omega, by simp only [List.length_append, List.length_cons, List.length_nil]; omega, hall', hgo, E8, ho8⟩ (by simp only; omega)
    · obtain rfl : acc = [] := List.eq_nil_of_length_eq_zero (by omega)
      refine TC_any mixed rfl ?_
      intro w6 hE hz6
      (refine Jco 0 rfl (by kernel_rfl) (by kernel_rfl) (by kernel_rfl) (fun _ _ _ h => h) hE (by exact Jaa rfl) rfl ?_; refine Jco 1 rfl (by kernel_rfl) (by kernel_rfl) (by kernel_rfl) (fun _ _ _ h => h) hE (by exact Jal rfl rfl) rfl ?_; refine Jco 2 rfl (by kernel_rfl) (by kernel_rfl) (by kernel_rfl) (fun _ _ _ h => h) hE (by exact Jaa rfl) rfl ?_)
      rw [show (!decide (r.2.2 = 0)) = false from by simp [hcode]]
      (refine Jcp 3 rfl (by kernel_rfl) (by kernel_rfl) (by kernel_rfl) (fun _ _ _ h => h) hE rfl rfl rfl (by exact Jaa rfl) rfl ?_; refine Jcp 4 rfl (by kernel_rfl) (by kernel_rfl) (by kernel_rfl) (fun _ _ _ h => h) hE rfl rfl rfl (by exact Jac Us.h rfl) rfl ?_; refine Jcp 5 rfl (by kernel_rfl) (by kernel_rfl) (by kernel_rfl) (fun _ _ _ h => h) hE rfl rfl rfl (by exact Jam rfl rfl) rfl ?_; refine Jcp 6 rfl (by kernel_rfl) (by kernel_rfl) (by kernel_rfl) (fun _ _ _ h => h) hE rfl rfl rfl (by exact Jaa rfl) rfl ?_; refine Jcq 7 rfl (by kernel_rfl) (by kernel_rfl) (by kernel_rfl) (fun _ _ _ h => h) hE rfl rfl rfl rfl rfl ?_; refine Jcq 8 rfl (by kernel_rfl) (by kernel_rfl) (by kernel_rfl) (fun _ _ _ h => h) hE rfl rfl rfl rfl rfl ?_; refine Jcq 9 rfl (by kernel_rfl) (by kernel_rfl) (by kernel_rfl) (fun _ _ _ h => h) hE rfl rfl rfl rfl rfl ?_; refine Jcq 10 rfl (by kernel_rfl) (by kernel_rfl) (by kernel_rfl) (fun _ _ _ h => h) hE rfl rfl rfl rfl rfl ?_; refine Jcq 11 rfl (by kernel_rfl) (by kernel_rfl) (by kernel_rfl) (fun _ _ _ h => h) hE rfl rfl rfl rfl rfl ?_; refine Jcq 12 rfl (by kernel_rfl) (by kernel_rfl) (by kernel_rfl) (fun _ _ _ h => h) hE rfl rfl rfl rfl rfl ?_; refine Jcq 13 rfl (by kernel_rfl) (by kernel_rfl) (by kernel_rfl) (fun _ _ _ h => h) hE rfl rfl rfl rfl rfl ?_; refine Jcq 14 rfl (by kernel_rfl) (by kernel_rfl) (by kernel_rfl) (fun _ _ _ h => h) hE rfl rfl rfl rfl rfl ?_; refine Jcq 15 rfl (by kernel_rfl) (by kernel_rfl) (by kernel_rfl) (fun _ _ _ h => h) hE rfl rfl rfl rfl rfl ?_; refine Jcq 16 rfl (by kernel_rfl) (by kernel_rfl) (by kernel_rfl) (fun _ _ _ h => h) hE rfl rfl rfl rfl rfl ?_; refine Jcq 17 rfl (by kernel_rfl) (by kernel_rfl) (by kernel_rfl) (fun _ _ _ h => h) hE rfl rfl rfl rfl rfl ?_; refine Jcp 18 rfl (by kernel_rfl) (by kernel_rfl) (by kernel_rfl) (fun _ _ _ h => h) hE rfl rfl rfl (by exact Jai rfl rfl) rfl ?_; refine Jco 19 rfl (by kernel_rfl) (by kernel_rfl) (by kernel_rfl) (fun _ _ _ h => h) hE (by exact Jai rfl rfl) rfl ?_)
      refine TA_done (by kernel_rfl) ?_
      have hgo := go rfl
      repeat' (first | apply Jbr | apply Jbs | apply Jbt | apply Jbz | (refine Jcf rfl ?_) | (apply Jcg; exact Jaa rfl; exact rfl) | refine Jcg (Pu_loadAgg (cs := entC r.1) Us.h rfl Sz.h rfl (fun _ e j u hu => by rw [e]; exact hrec w6 hE j u hu)) rfl ?_)
      refine TL_buildSlice (us := ents [r.1]) Us.h Zi.h rfl rfl rfl rfl (fillE _) rfl rfl ?_
      intro w7 g7 e7 hg7 hz7 hown7
      refine TL_appendE Us.h rfl rfl ⟨_, _, rfl, (hown2.ext hE).ext e7⟩ (OE_new (s := [_]) rfl hown7 hg7 hz7).rd (by have := hE.size; have := e7.size; omega) (by simp only [List.length_cons, List.length_nil]; omega) rfl ?_
      intro w8 v8 c8 ho8
      have E8 : Ext w w8 := Ext.then_iv ((E5.ext hE).ext e7) c8 (Nat.le_refl _)
      repeat' (first | apply Jbq | apply Jbr | apply Jbt | apply Jbx | (apply Jcg; (first | exact Jaa rfl | exact Jab rfl); exact rfl))
      exact TN_round (nx, [] ++ [r.1], v8) (subEnv_cons rfl (subEnv_cons rfl (subEnv_cons (congrArg (fun z => some (I z)) hnx2) (subEnv_nil _)))) ⟨by simp only; omega, by simp only [List.length_append, List.length_cons, List.length_nil]; omega, hall', hgo, E8, ho8⟩ (by simp only; omega)
  · refine TC_any mixed rfl ?_
    intro w6 hE hz6
    (refine Jco 0 rfl (by kernel_rfl) (by kernel_rfl) (by kernel_rfl) (fun _ _ _ h => h) hE (by exact Jaa rfl) rfl ?_; refine Jco 1 rfl (by kernel_rfl) (by kernel_rfl) (by kernel_rfl) (fun _ _ _ h => h) hE (by exact Jal rfl rfl) rfl ?_; refine Jco 2 rfl (by kernel_rfl) (by kernel_rfl) (by kernel_rfl) (fun _ _ _ h => h) hE (by exact Jaa rfl) rfl ?_)
    rw [show (!decide (r.2.2 = 0)) = true from by simp [hcode]]
    (refine Jcq 3 rfl (by kernel_rfl) (by kernel_rfl) (by kernel_rfl) (fun _ _ _ h => h) hE rfl rfl rfl rfl rfl ?_; refine Jcq 4 rfl (by kernel_rfl) (by kernel_rfl) (by kernel_rfl) (fun _ _ _ h => h) hE rfl rfl rfl rfl rfl ?_; refine Jcq 5 rfl (by kernel_rfl) (by kernel_rfl) (by kernel_rfl) (fun _ _ _ h => h) hE rfl rfl rfl rfl rfl ?_; refine Jcq 6 rfl (by kernel_rfl) (by kernel_rfl) (by kernel_rfl) (fun _ _ _ h => h) hE rfl rfl rfl rfl rfl ?_; refine TA_pass_undef 7 rfl (by kernel_rfl) (by kernel_rfl) (by kernel_rfl) (fun _ _ _ h => h) hE rfl rfl rfl rfl ?_; refine TA_pass_undef 8 rfl (by kernel_rfl) (by kernel_rfl) (by kernel_rfl) (fun _ _ _ h => h) hE rfl rfl rfl rfl ?_; refine TA_pass_undef 9 rfl (by kernel_rfl) (by kernel_rfl) (by kernel_rfl) (fun _ _ _ h => h) hE rfl rfl rfl rfl ?_; refine TA_pass_undef 10 rfl (by kernel_rfl) (by kernel_rfl) (by kernel_rfl) (fun _ _ _ h => h) hE rfl rfl rfl rfl ?_; refine TA_pass_undef 11 rfl (by kernel_rfl) (by kernel_rfl) (by kernel_rfl) (fun _ _ _ h => h) hE rfl rfl rfl rfl ?_; refine TA_pass_undef 12 rfl (by kernel_rfl) (by kernel_rfl) (by kernel_rfl) (fun _ _ _ h => h) hE rfl rfl rfl rfl ?_; refine TA_pass_undef 13 rfl (by kernel_rfl) (by kernel_rfl) (by kernel_rfl) (fun _ _ _ h => h) hE rfl rfl rfl rfl ?_; refine TA_pass_undef 14 rfl (by kernel_rfl) (by kernel_rfl) (by kernel_rfl) (fun _ _ _ h => h) hE rfl rfl rfl rfl ?_; refine TA_pass_undef 15 rfl (by kernel_rfl) (by kernel_rfl) (by kernel_rfl) (fun _ _ _ h => h) hE rfl rfl rfl rfl ?_; refine TA_pass_undef 16 rfl (by kernel_rfl) (by kernel_rfl) (by kernel_rfl) (fun _ _ _ h => h) hE rfl rfl rfl rfl ?_; refine TA_pass_undef 17 rfl (by kernel_rfl) (by kernel_rfl) (by kernel_rfl) (fun _ _ _ h => h) hE rfl rfl rfl rfl ?_; refine Jcq 18 rfl (by kernel_rfl) (by kernel_rfl) (by kernel_rfl) (fun _ _ _ h => h) hE rfl rfl rfl rfl rfl ?_; refine Jco 19 rfl (by kernel_rfl) (by kernel_rfl) (by kernel_rfl) (fun _ _ _ h => h) hE (by exact Jah rfl rfl) rfl ?_)
    refine TA_done (by kernel_rfl) ?_
    rw [heq, hend (fun q => hcode q.1)]
    repeat' (first | apply Jbq | apply Jbr | apply Jbs | apply Jbt | apply Jbu | apply Jbv | apply Jbw | (refine Jce rfl ?_) | (apply Jcg; (first | exact Jaa rfl | exact Jab rfl); exact rfl))
    exact TR_of (res2 rfl rfl rfl) ⟨_, by rw [List.append_nil], E5.ext hE, by rw [List.append_nil]; exact ⟨_, _, rfl, (hown2.ext hE).wide (Nat.le_refl _) (by have := hE.size; omega) (Nat.le_refl _)⟩⟩
set_option maxHeartbeats 8000000 in
theorem implScan_k {lo hi : Nat} {vb : Value} {b : List UInt8} {w : World} (hR : RB w lo hi vb b) (hl : b.length ≤ 1048576) :
    Ret Tryz.prog 103 #[vb] w fun v w' => ∃ v', v = .tuple #[v', I (pScan b).2] ∧ Ext w w' ∧ OE w' w.heap.size w'.heap.size v' (pScan b).1 := by
  obtain ⟨A, c, rfl, hc, hr⟩ := hR
  refine Ret_enter Tryz.func103 rfl rfl rfl ?_
  repeat' (first | apply Jbq | apply Jbr | apply Jbs | apply Jbt | apply Jby | (apply Jcg; exact Jab rfl; exact rfl))
  refine TC_loop (ι := Nat × List Ent × Value) (fun x => [(0, .slice A b.length c), (4, x.2.2), (5, I x.1)])
    (fun x w' => x.1 ≤ b.length ∧ 10 * x.2.1.length ≤ x.1 ∧ (∀ e ∈ x.2.1, pEntry e.1 e.2 = true) ∧ pScan b = (x.2.1 ++ (scanFrom b (lastNum x.2.1) x.1).1, (scanFrom b (lastNum x.2.1) x.1).2) ∧ Ext w w' ∧ OE w' w.heap.size w'.heap.size x.2.2 x.2.1) (fun x => b.length - x.1) (0, [], _) (subEnv_cons rfl (subEnv_cons rfl (subEnv_cons rfl (subEnv_nil _))))
    ⟨Nat.zero_le _, Nat.le_refl _, by simp, rfl, by first | exact e1 | exact Ch.refl _ _, by first | exact OE_new (s := []) rfl hown1 hg1 hz1 | exact OE.nil _ _ (Nat.le_refl _)⟩ ?_
  rintro ⟨a, acc, va⟩ w2 ⟨ha, hacc, hall, heq, e2, ho2⟩
  simp only at ha hacc hall heq ho2
  repeat' (first | apply Jbs | apply Jbt | apply Jby | (apply Jcg; exact Jaa rfl; exact rfl))
  refine TL_call rfl en153 (implFrameRead_k (i := a) ⟨_, _, rfl, hc, hr.ext e2⟩ hl (by omega)) rfl rfl ?_
  rintro _ w3 ⟨rfl, e3⟩
  obtain ⟨r, hrr⟩ : ∃ r, r = pReadF b a := ⟨_, rfl⟩
  have hnx := fun h => readF_next (b := b) (i := a) h
  rw [← hrr] at hnx ⊢
  have hend := scanFrom_end (b := b) (p := lastNum acc) (a := a)
  have hstep := scanFrom_step (b := b) (p := lastNum acc) (a := a)
  rw [← hrr] at hend hstep
  replace e2 := e2.ext e3
  replace ho2 := ho2.ext e3
  have hs2 := e2.size
  have hh2 := ho2.hi_le
  clear e3 hrr
  repeat' ((apply Jcg; (first | exact Jaa rfl | exact Jae rfl rfl); exact rfl))
  refine TL_alloc Zs.h rfl rfl ?_
  intro w4 g4 e4 hg4 hz4 hb4
  skip
  refine TL_storeAgg rfl rfl Sz.h rfl hb4 rfl ?_
  clear hb4
  intro w5 c5 hz5 hb5
  have E5 : Ext w w5 := Ext.then_iv (e2.ext e4) c5 (by omega)
  replace ho2 := (ho2.ext e4).ch c5 (by intro k _ _; simp only [Iv]; omega)
  have hs5 : w3.heap.size + 1 = w5.heap.size := by omega
  have hgl := hb5.lt
  clear e2 e4 c5
  obtain ⟨A2, c2, rfl, hown2⟩ := ho2
  have hld : ∀ w', Ext w5 w' → w'.cell? ((⟨g4, 0, none⟩ : Addr).add 0) = some (I r.1.1) := fun w' e => (hb5.ext e).ld rfl
  have hrec : ∀ w', Ext w5 w' → ∀ j u, (entC r.1)[j]? = some u → w'.cell? ((⟨g4, 0, none⟩ : Addr).add j) = some u := fun w' e j u hu => by rw [add0]; exact e.cell ((hb5.cell j).trans hu)
  clear hb5
  repeat' (first | apply Jbq | apply Jbr | apply Jbs | (apply Jcg; exact Jab rfl; exact rfl))
  by_cases hcode : r.2.2 = 0
  · obtain ⟨_, hn1, hn2, hn3, hn4⟩ := hnx hcode
    have hent := pEntry_iff.1 hn3
    obtain ⟨nx, hnx2⟩ := Int.eq_ofNat_of_zero_le (show 0 ≤ r.2.1 by omega)
    have hnxn : r.2.1.toNat = nx := by omega
    -- what follows when the record is taken
    have go : follows (lastNum acc) r.1.1 = true → pScan b = ((acc ++ [r.1]) ++ (scanFrom b (lastNum (acc ++ [r.1])) nx).1, (scanFrom b (lastNum (acc ++ [r.1])) nx).2) := fun hf => by
      rw [heq, hstep hcode hf, lastNum_snoc, hnxn]; simp
    have hall' : ∀ e ∈ acc ++ [r.1], pEntry e.1 e.2 = true := fun e he => by
      rcases List.mem_append.1 he with h | h
      · exact hall e h
      · rw [List.mem_singleton.1 h]; exact hn3
    by_cases hac : 0 < acc.length
    · have hfs := follows_snoc (l := acc) (n := r.1.1) hac
      have hlast := pEntry_iff.1 (hall _ (List.getElem_mem (show acc.length - 1 < acc.length by omega)))
      obtain ⟨ad, rfl, hcell⟩ := Rd.elem entC_len hown2.rd (show acc.length - 1 < acc.length by omega)
      have hc1 : w5.cell? ((ad.add (((acc.length : Int) - 1).toNat * 2)).add 0) = some (I (acc[acc.length - 1]'(by omega)).1) := by
        rw [show ((acc.length : Int) - 1).toNat = acc.length - 1 by omega]; exact hcell 0 _ rfl
      refine TC_any mixed rfl ?_
      intro w6 hE hz6
      (refine Jco 0 rfl (by kernel_rfl) (by kernel_rfl) (by kernel_rfl) (fun _ _ _ h => h) hE (by exact Jaa rfl) rfl ?_; refine Jco 1 rfl (by kernel_rfl) (by kernel_rfl) (by kernel_rfl) (fun _ _ _ h => h) hE (by exact Jal rfl rfl) rfl ?_; refine Jco 2 rfl (by kernel_rfl) (by kernel_rfl) (by kernel_rfl) (fun _ _ _ h => h) hE (by exact Jaa rfl) rfl ?_)
      rw [show (!decide (r.2.2 = 0)) = false from by simp [hcode]]
      (refine Jcp 3 rfl (by kernel_rfl) (by kernel_rfl) (by kernel_rfl) (fun _ _ _ h => h) hE rfl rfl rfl (by exact Jaa rfl) rfl ?_; refine Jcp 4 rfl (by kernel_rfl) (by kernel_rfl) (by kernel_rfl) (fun _ _ _ h => h) hE rfl rfl rfl (by exact Jac Us.h rfl) rfl ?_; refine Jcp 5 rfl (by kernel_rfl) (by kernel_rfl) (by kernel_rfl) (fun _ _ _ h => h) hE rfl rfl rfl (by exact Jam rfl rfl) rfl ?_; refine Jcp 6 rfl (by kernel_rfl) (by kernel_rfl) (by kernel_rfl) (fun _ _ _ h => h) hE rfl rfl rfl (by exact Jaa rfl) rfl ?_)
      rw [decide_eq_true (show (0 : Int) < (acc.length : Int) by omega)]
      (refine Jcp 7 rfl (by kernel_rfl) (by kernel_rfl) (by kernel_rfl) (fun _ _ _ h => h) hE rfl rfl rfl (by exact Jaa rfl) rfl ?_; refine Jcp 8 rfl (by kernel_rfl) (by kernel_rfl) (by kernel_rfl) (fun _ _ _ h => h) hE rfl rfl rfl (by exact Jaa rfl) rfl ?_; refine Jcp 9 rfl (by kernel_rfl) (by kernel_rfl) (by kernel_rfl) (fun _ _ _ h => h) hE rfl rfl rfl (by exact Jac Us.h rfl) rfl ?_; refine Jcp 10 rfl (by kernel_rfl) (by kernel_rfl) (by kernel_rfl) (fun _ _ _ h => h) hE rfl rfl rfl (by exact Jap rfl rfl (by omega)) rfl ?_; refine Jcp 11 rfl (by kernel_rfl) (by kernel_rfl) (by kernel_rfl) (fun _ _ _ h => h) hE rfl rfl rfl (by exact Jar Us.h Sz.h rfl rfl (by omega)) rfl ?_; refine Jcp 12 rfl (by kernel_rfl) (by kernel_rfl) (by kernel_rfl) (fun _ _ _ h => h) hE rfl rfl rfl (by (apply Jbl; exact Us.h; exact rfl; exact Sz.h; exact rfl)) rfl ?_; refine Jcp 13 rfl (by kernel_rfl) (by kernel_rfl) (by kernel_rfl) (fun _ _ _ h => h) hE rfl rfl rfl (by exact Pu_load Fl.h rfl (fun _ e => Ext.cell e hc1)) rfl ?_; refine Jcp 14 rfl (by kernel_rfl) (by kernel_rfl) (by kernel_rfl) (fun _ _ _ h => h) hE rfl rfl rfl (by exact Jaf rfl rfl (by omega)) rfl ?_; refine Jcp 15 rfl (by kernel_rfl) (by kernel_rfl) (by kernel_rfl) (fun _ _ _ h => h) hE rfl rfl rfl (by (apply Jbl; exact Us.h; exact rfl; exact Sz.h; exact rfl)) rfl ?_; refine Jcp 16 rfl (by kernel_rfl) (by kernel_rfl) (by kernel_rfl) (fun _ _ _ h => h) hE rfl rfl rfl (by exact Pu_load Fl.h rfl hld) rfl ?_; refine Jcp 17 rfl (by kernel_rfl) (by kernel_rfl) (by kernel_rfl) (fun _ _ _ h => h) hE rfl rfl rfl (by exact Jal rfl rfl) rfl ?_; refine Jcp 18 rfl (by kernel_rfl) (by kernel_rfl) (by kernel_rfl) (fun _ _ _ h => h) hE rfl rfl rfl (by exact Jah rfl rfl) rfl ?_; refine Jco 19 rfl (by kernel_rfl) (by kernel_rfl) (by kernel_rfl) (fun _ _ _ h => h) hE (by exact Jai rfl rfl) rfl ?_)
      refine TA_done (by kernel_rfl) ?_
      repeat' (apply Jbr)
      refine Jcy rfl (fun hne => ?_) (fun hfo => ?_)
      · have hend2 := hend (fun q => by have := q.2; rw [hfs] at this; have := of_decide_eq_true this; omega)
        rw [heq, hend2]
        repeat' (first | apply Jbq | apply Jbr | apply Jbs | apply Jbt | apply Jbu | apply Jbv | apply Jbw | (apply Jcg; (first | exact Jaa rfl | exact Jab rfl); exact rfl))
        exact TR_of (res2 rfl rfl rfl) ⟨_, by rw [List.append_nil], E5.ext hE, by rw [List.append_nil]; exact ⟨_, _, rfl, (hown2.ext hE).wide (Nat.le_refl _) (by have := hE.size; omega) (Nat.le_refl _)⟩⟩
      · have hgo := go (by rw [hfs]; exact decide_eq_true (by omega))
        have hrec2 := fun e => hrec w6 (hE.ext e)
        repeat' (first | apply Jbr | apply Jbs | apply Jbt | apply Jbz | (apply Jcg; exact Jaa rfl; exact rfl) | refine Jcg (Pu_loadAgg (cs := entC r.1) Us.h rfl Sz.h rfl (fun _ e j u hu => by rw [e]; exact hrec w6 hE j u hu)) rfl ?_)
        refine TL_buildSlice (us := ents [r.1]) Us.h Zi.h rfl rfl rfl rfl (fillE _) rfl rfl ?_
        intro w7 g7 e7 hg7 hz7 hown7
        refine TL_appendE Us.h rfl rfl ⟨_, _, rfl, (hown2.ext hE).ext e7⟩ (OE_new (s := [_]) rfl hown7 hg7 hz7).rd (by have := hE.size; have := e7.size; omega) (by simp only [List.length_cons, List.length_nil]; omega) rfl ?_
        intro w8 v8 c8 ho8
        have E8 : Ext w w8 := Ext.then_iv ((E5.ext hE).ext e7) c8 (Nat.le_refl _)
        repeat' (first | apply Jbq | apply Jbr | apply Jbt | apply Jbx | (apply Jcg; (first | exact Jaa rfl | exact Jab rfl); exact rfl))
        exact TN_round (nx, acc ++ [r.1], v8) (subEnv_cons rfl (subEnv_cons rfl (subEnv_cons (congrArg (fun z => some (I z)) hnx2) (subEnv_nil _)))) ⟨by simp only; omega, by simp only [List.length_append, List.length_cons, List.length_nil]; omega, hall', hgo, E8, ho8⟩ (by simp only; omega)
    · obtain rfl : acc = [] := List.eq_nil_of_length_eq_zero (by omega)
      refine TC_any mixed rfl ?_
      intro w6 hE hz6
      (refine Jco 0 rfl (by kernel_rfl) (by kernel_rfl) (by kernel_rfl) (fun _ _ _ h => h) hE (by exact Jaa rfl) rfl ?_; refine Jco 1 rfl (by kernel_rfl) (by kernel_rfl) (by kernel_rfl) (fun _ _ _ h => h) hE (by exact Jal rfl rfl) rfl ?_; refine Jco 2 rfl (by kernel_rfl) (by kernel_rfl) (by kernel_rfl) (fun _ _ _ h => h) hE (by exact Jaa rfl) rfl ?_)
      rw [show (!decide (r.2.2 = 0)) = false from by simp [hcode]]
      (refine Jcp 3 rfl (by kernel_rfl) (by kernel_rfl) (by kernel_rfl) (fun _ _ _ h => h) hE rfl rfl rfl (by exact Jaa rfl) rfl ?_; refine Jcp 4 rfl (by kernel_rfl) (by kernel_rfl) (by kernel_rfl) (fun _ _ _ h => h) hE rfl rfl rfl (by exact Jac Us.h rfl) rfl ?_; refine Jcp 5 rfl (by kernel_rfl) (by kernel_rfl) (by kernel_rfl) (fun _ _ _ h => h) hE rfl rfl rfl (by exact Jam rfl rfl) rfl ?_; refine Jcp 6 rfl (by kernel_rfl) (by kernel_rfl) (by kernel_rfl) (fun _ _ _ h => h) hE rfl rfl rfl (by exact Jaa rfl) rfl ?_; refine Jcq 7 rfl (by kernel_rfl) (by kernel_rfl) (by kernel_rfl) (fun _ _ _ h => h) hE rfl rfl rfl rfl rfl ?_; refine Jcq 8 rfl (by kernel_rfl) (by kernel_rfl) (by kernel_rfl) (fun _ _ _ h => h) hE rfl rfl rfl rfl rfl ?_; refine Jcq 9 rfl (by kernel_rfl) (by kernel_rfl) (by kernel_rfl) (fun _ _ _ h => h) hE rfl rfl rfl rfl rfl ?_; refine Jcq 10 rfl (by kernel_rfl) (by kernel_rfl) (by kernel_rfl) (fun _ _ _ h => h) hE rfl rfl rfl rfl rfl ?_; refine Jcq 11 rfl (by kernel_rfl) (by kernel_rfl) (by kernel_rfl) (fun _ _ _ h => h) hE rfl rfl rfl rfl rfl ?_; refine Jcq 12 rfl (by kernel_rfl) (by kernel_rfl) (by kernel_rfl) (fun _ _ _ h => h) hE rfl rfl rfl rfl rfl ?_; refine Jcq 13 rfl (by kernel_rfl) (by kernel_rfl) (by kernel_rfl) (fun _ _ _ h => h) hE rfl rfl rfl rfl rfl ?_; refine Jcq 14 rfl (by kernel_rfl) (by kernel_rfl) (by kernel_rfl) (fun _ _ _ h => h) hE rfl rfl rfl rfl rfl ?_; refine Jcq 15 rfl (by kernel_rfl) (by kernel_rfl) (by kernel_rfl) (fun _ _ _ h => h) hE rfl rfl rfl rfl rfl ?_; refine Jcq 16 rfl (by kernel_rfl) (by kernel_rfl) (by kernel_rfl) (fun _ _ _ h => h) hE rfl rfl rfl rfl rfl ?_; refine Jcq 17 rfl (by kernel_rfl) (by kernel_rfl) (by kernel_rfl) (fun _ _ _ h => h) hE rfl rfl rfl rfl rfl ?_; refine Jcp 18 rfl (by kernel_rfl) (by kernel_rfl) (by kernel_rfl) (fun _ _ _ h => h) hE rfl rfl rfl (by exact Jai rfl rfl) rfl ?_; refine Jco 19 rfl (by kernel_rfl) (by kernel_rfl) (by kernel_rfl) (fun _ _ _ h => h) hE (by exact Jai rfl rfl) rfl ?_)
      refine TA_done (by kernel_rfl) ?_
      have hgo := go rfl
      repeat' (first | apply Jbr | apply Jbs | apply Jbt | apply Jbz | (refine Jcf rfl ?_) | (apply Jcg; exact Jaa rfl; exact rfl) | refine Jcg (Pu_loadAgg (cs := entC r.1) Us.h rfl Sz.h rfl (fun _ e j u hu => by rw [e]; exact hrec w6 hE j u hu)) rfl ?_)
      refine TL_buildSlice (us := ents [r.1]) Us.h Zi.h rfl rfl rfl rfl (fillE _) rfl rfl ?_
      intro w7 g7 e7 hg7 hz7 hown7
      refine TL_appendE Us.h rfl rfl ⟨_, _, rfl, (hown2.ext hE).ext e7⟩ (OE_new (s := [_]) rfl hown7 hg7 hz7).rd (by have := hE.size; have := e7.size; omega) (by simp only [List.length_cons, List.length_nil]; omega) rfl ?_
      intro w8 v8 c8 ho8
      have E8 : Ext w w8 := Ext.then_iv ((E5.ext hE).ext e7) c8 (Nat.le_refl _)
      repeat' (first | apply Jbq | apply Jbr | apply Jbt | apply Jbx | (apply Jcg; (first | exact Jaa rfl | exact Jab rfl); exact rfl))
      exact TN_round (nx, [] ++ [r.1], v8) (subEnv_cons rfl (subEnv_cons rfl (subEnv_cons (congrArg (fun z => some (I z)) hnx2) (subEnv_nil _)))) ⟨by simp only; omega, by simp only [List.length_append, List.length_cons, List.length_nil]; omega, hall', hgo, E8, ho8⟩ (by simp only; omega)
  · refine TC_any mixed rfl ?_
    intro w6 hE hz6
    (refine Jco 0 rfl (by kernel_rfl) (by kernel_rfl) (by kernel_rfl) (fun _ _ _ h => h) hE (by exact Jaa rfl) rfl ?_; refine Jco 1 rfl (by kernel_rfl) (by kernel_rfl) (by kernel_rfl) (fun _ _ _ h => h) hE (by exact Jal rfl rfl) rfl ?_; refine Jco 2 rfl (by kernel_rfl) (by kernel_rfl) (by kernel_rfl) (fun _ _ _ h => h) hE (by exact Jaa rfl) rfl ?_)
    rw [show (!decide (r.2.2 = 0)) = true from by simp [hcode]]
    (refine Jcq 3 rfl (by kernel_rfl) (by kernel_rfl) (by kernel_rfl) (fun _ _ _ h => h) hE rfl rfl rfl rfl rfl ?_; refine Jcq 4 rfl (by kernel_rfl) (by kernel_rfl) (by kernel_rfl) (fun _ _ _ h => h) hE rfl rfl rfl rfl rfl ?_; refine Jcq 5 rfl (by kernel_rfl) (by kernel_rfl) (by kernel_rfl) (fun _ _ _ h => h) hE rfl rfl rfl rfl rfl ?_; refine Jcq 6 rfl (by kernel_rfl) (by kernel_rfl) (by kernel_rfl) (fun _ _ _ h => h) hE rfl rfl rfl rfl rfl ?_; refine TA_pass_undef 7 rfl (by kernel_rfl) (by kernel_rfl) (by kernel_rfl) (fun _ _ _ h => h) hE rfl rfl rfl rfl ?_; refine TA_pass_undef 8 rfl (by kernel_rfl) (by kernel_rfl) (by kernel_rfl) (fun _ _ _ h => h) hE rfl rfl rfl rfl ?_; refine TA_pass_undef 9 rfl (by kernel_rfl) (by kernel_rfl) (by kernel_rfl) (fun _ _ _ h => h) hE rfl rfl rfl rfl ?_; refine TA_pass_undef 10 rfl (by kernel_rfl) (by kernel_rfl) (by kernel_rfl) (fun _ _ _ h => h) hE rfl rfl rfl rfl ?_; refine TA_pass_undef 11 rfl (by kernel_rfl) (by kernel_rfl) (by kernel_rfl) (fun _ _ _ h => h) hE rfl rfl rfl rfl ?_; refine TA_pass_undef 12 rfl (by kernel_rfl) (by kernel_rfl) (by kernel_rfl) (fun _ _ _ h => h) hE rfl rfl rfl rfl ?_; refine TA_pass_undef 13 rfl (by kernel_rfl) (by kernel_rfl) (by kernel_rfl) (fun _ _ _ h => h) hE rfl rfl rfl rfl ?_; refine TA_pass_undef 14 rfl (by kernel_rfl) (by kernel_rfl) (by kernel_rfl) (fun _ _ _ h => h) hE rfl rfl rfl rfl ?_; refine TA_pass_undef 15 rfl (by kernel_rfl) (by kernel_rfl) (by kernel_rfl) (fun _ _ _ h => h) hE rfl rfl rfl rfl ?_; refine TA_pass_undef 16 rfl (by kernel_rfl) (by kernel_rfl) (by kernel_rfl) (fun _ _ _ h => h) hE rfl rfl rfl rfl ?_; refine TA_pass_undef 17 rfl (by kernel_rfl) (by kernel_rfl) (by kernel_rfl) (fun _ _ _ h => h) hE rfl rfl rfl rfl ?_; refine Jcq 18 rfl (by kernel_rfl) (by kernel_rfl) (by kernel_rfl) (fun _ _ _ h => h) hE rfl rfl rfl rfl rfl ?_; refine Jco 19 rfl (by kernel_rfl) (by kernel_rfl) (by kernel_rfl) (fun _ _ _ h => h) hE (by exact Jah rfl rfl) rfl ?_)
    refine TA_done (by kernel_rfl) ?_
    rw [heq, hend (fun q => hcode q.1)]
    repeat' (first | apply Jbq | apply Jbr | apply Jbs | apply Jbt | apply Jbu | apply Jbv | apply Jbw | (refine Jce rfl ?_) | (apply Jcg; (first | exact Jaa rfl | exact Jab rfl); exact rfl))
    exact TR_of (res2 rfl rfl rfl) ⟨_, by rw [List.append_nil], E5.ext hE, by rw [List.append_nil]; exact ⟨_, _, rfl, (hown2.ext hE).wide (Nat.le_refl _) (by have := hE.size; omega) (Nat.le_refl _)⟩⟩
end Go.Proofs.YtggaghghclomkaaGreat

/- Contracts: the entries of a disk. -/
namespace Go.Proofs.YtggaghghclomkaaGreat
open Go.RowKit
def histT : List UInt8 := [104, 105, 115, 116]
def tempT : List UInt8 := [116, 101, 109, 112]
attribute [local irreducible] TL TC TN TX TR TQ TA Pu Ret
end Go.Proofs.YtggaghghclomkaaGreat
