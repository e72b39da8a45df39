/- Texts of this proof laid together, in the order in which they build; what each proves stands ahead of it. No condition but those told there. -/
import Derived.Test.YtggaghghclomkaaGreatQFT8e

/- Contracts: disks are copied. -/
namespace Go.Proofs.YtggaghghclomkaaGreat
open Go.RowKit
theorem Own.narrow2 {w : World} {lo hi size n c : Nat} {e : TypeId} {A : Option Addr} {xs : List Value} (h : Own w lo hi e size A n c xs) : ∃ lo' hi', lo' ≤ w.heap.size ∧ Own w lo' hi' e size A n c xs ∧ ∀ k, lo' ≤ k → k < hi' → k ∈ blk (.slice A n c) := by
  rcases h.row.2 with ⟨hv, h0⟩ | ⟨g, cap, cur, hv, h3, h4, h5⟩
  · have hA : A = none := by injection hv
    subst hA
    exact ⟨0, 0, Nat.zero_le _, ⟨Nat.zero_le _, ⟨h.len, .inl ⟨hv, h0⟩⟩, fun ad ha => by cases ha⟩, fun k _ hk => absurd hk (Nat.not_lt_zero _)⟩
  · have hA : A = some ⟨g, 0, none⟩ := by injection hv
    subst hA
    have hg := (Array.getElem?_eq_some_iff.1 h4).1
    exact ⟨g, g + 1, Nat.le_of_lt hg, ⟨hg, ⟨h.len, .inr ⟨g, cap, cur, hv, Nat.le_refl _, h4, h5⟩⟩, fun ad ha => by injection ha with ha; subst ha; exact Nat.lt_succ_self _⟩, fun k h1 h2 => by
      obtain rfl : k = g := by omega
      exact List.mem_singleton.2 rfl⟩
theorem OBx.one {w : World} {v : Value} {s : List UInt8} (h : OBx w v s) : v.oneCell' = true := by obtain ⟨_, _, ⟨_, _, rfl, _⟩, _⟩ := h; rfl
theorem fillN (id : Int) (A A' : Option Addr) (m c m' c' : Nat) : Instr.fill (fun i => some (i * 3, 3)) ((Array.range (1 * 3)).map ((Value.agg #[.int .i64 0, .slice none 0 0, .slice none 0 0]).cells[· % (Value.agg #[.int .i64 0, .slice none 0 0, .slice none 0 0]).cells.size]!)) [(0, .agg #[I id, .slice A m c, .slice A' m' c'])] = some #[I id, .slice A m c, .slice A' m' c'] := by kernel_rfl
theorem ONx.empty (w : World) : ONx w (.slice none 0 0) [] := ⟨(RowO.nil w 0 (Nat.zero_le _)).x, fun d hd => by (cases hd), by simp [bksN, blk]⟩
section
variable {L : List Oper} {Q : Exit → Act → World → Prop} {n d : Nat} {l : Env} {w : World} {rest : List Oper} {ty : TypeId} {pos : String} {af : Array Edge} {v v2 : Value} {x y : Operand} {t : TypeId}
/-- A node is appended to own nodes. -/
theorem TL_appendN {lo2 hi2 : Nat} {ds : List Nd} {d' : Nd} (ht : Tryz.prog.underlying t = some (.slice 98)) (hx : ev l x = some v) (hy : ev l y = some v2) (h : ONx w v ds) (hr : RowR NdC 3 w lo2 hi2 v2 [d']) (hb : OBx w d'.vb d'.body) (hs : OBx w d'.vs d'.safe)
    (hnd : (bksN v ds ++ bkd d').Nodup) (hlt : ∀ b ∈ bksN v ds ++ bkd d', b < w.heap.size) (hl : ds.length ≤ 2000000) (hn : Nat.blt d n = true)
    (k : ∀ w' v', Ch (fun j => j ∈ blk v) w w' → (blk v' = blk v ∨ (blk v' = [w.heap.size] ∧ w.heap.size < w'.heap.size)) → ONx w' v' (ds ++ [d']) → TL Tryz.prog L Q rest n ((d, v') :: l) w') :
    TL Tryz.prog L Q (⟨some d, .call { callee := .builtin .append, args := #[x, y], argTypes := #[t, t] }, ty, pos, af, none⟩ :: rest) n l w := by
  obtain ⟨⟨l1, h1, ⟨A, c, rfl, ho0⟩, _⟩, hok, _⟩ := h
  obtain ⟨lo, hi, hlo, ho, hin⟩ := ho0.narrow2
  obtain ⟨A2, c2, rfl, _, hr⟩ := hr
  have hone : ∀ u ∈ cellsL NdC [d'], u.oneCell' = true := by
    intro u hu
    simp [cellsL, NdC] at hu
    rcases hu with rfl | rfl | rfl
    · rfl
    · exact hb.one
    · exact hs.one
  unfold bksN at hnd hlt
  have hap : ∀ b ∈ blk (.slice A ds.length c), (∀ d ∈ ds, b ∉ bkd d) ∧ b ∉ bkd d' := fun b hb' => by
    rw [List.append_assoc, List.nodup_append] at hnd
    exact ⟨fun d hd hbd => hnd.2.2 b hb' b (List.mem_append.2 (.inl (List.mem_flatMap.2 ⟨d, hd, hbd⟩))) rfl, fun hbd => hnd.2.2 b hb' b (List.mem_append.2 (.inr hbd)) rfl⟩
  refine TL_append ht inf98 rfl rfl hx hy ho hr hone hlo (by simp only [List.length_cons, List.length_nil]; omega) (by simp only [List.length_cons, List.length_nil]; omega) hn ?_
  intro w1 hi1 A1 c1 hch h1 h2 h3 hown
  have hch' : Ch (fun j => j ∈ blk (.slice A ds.length c)) w w1 := hch.mono (fun j hj => hin j hj.1 hj.2)
  have hloc : blk (.slice A1 (ds.length + [d'].length) c1) = blk (.slice A ds.length c) ∨ (blk (.slice A1 (ds.length + [d'].length) c1) = [w.heap.size] ∧ w.heap.size < w1.heap.size) := by
    rcases h3 with rfl | rfl
    · left; cases A1 <;> rfl
    · right; exact ⟨rfl, Nat.lt_of_lt_of_le (hown.lt _ rfl) hown.hi_le⟩
  have hrow : RowO NdC 98 3 w1 lo hi1 (.slice A1 (ds.length + [d'].length) c1) (ds ++ [d']) := ⟨A1, c1, by rw [List.length_append], hown.cast (by rw [List.length_append]) (cellsL_append _ _).symm⟩
  refine k w1 _ hch' hloc ⟨hrow.x, fun e he => ?_, ?_⟩
  · rcases List.mem_append.1 he with he | he
    · exact ⟨(hok e he).1.ch hch' (fun b hb' hv => (hap b hv).1 e he (List.mem_append.2 (.inl hb'))), (hok e he).2.ch hch' (fun b hb' hv => (hap b hv).1 e he (List.mem_append.2 (.inr hb')))⟩
    · rw [List.mem_singleton.1 he]
      exact ⟨hb.ch hch' (fun b hb' hv => (hap b hv).2 (List.mem_append.2 (.inl hb'))), hs.ch hch' (fun b hb' hv => (hap b hv).2 (List.mem_append.2 (.inr hb')))⟩
  · unfold bksN
    rw [List.flatMap_append]
    have hf : [d'].flatMap bkd = bkd d' := by simp
    rw [hf]
    rcases hloc with h | ⟨h, _⟩
    · rw [h, ← List.append_assoc]; exact hnd
    · rw [h, List.singleton_append, List.nodup_cons]
      rw [List.append_assoc] at hnd hlt
      refine ⟨fun hm => absurd (hlt _ (List.mem_append.2 (.inr hm))) (Nat.lt_irrefl _), ?_⟩
      rw [List.nodup_append] at hnd
      exact hnd.2.1
end
/-- The blocks of nodes behind an append. -/
theorem bks_after {v v' : Value} {ds : List Nd} {d' : Nd} {lo m hi : Nat} (h : blk v' = blk v ∨ (blk v' = [m] ∧ m < hi)) (h1 : ∀ b ∈ bksN v ds, lo ≤ b ∧ b < hi) (h2 : ∀ b ∈ bkd d', lo ≤ b ∧ b < hi) (h3 : lo ≤ m) : ∀ b ∈ bksN v' (ds ++ [d']), lo ≤ b ∧ b < hi := by
  intro b hb
  unfold bksN at hb h1
  rw [List.flatMap_append] at hb
  rcases List.mem_append.1 hb with hb | hb
  · rcases h with h | ⟨h, hm⟩
    · rw [h] at hb; exact h1 b (List.mem_append.2 (.inl hb))
    · rw [h] at hb; rw [List.mem_singleton.1 hb]; exact ⟨h3, hm⟩
  · rcases List.mem_append.1 hb with hb | hb
    · exact h1 b (List.mem_append.2 (.inr hb))
    · exact h2 b (by simpa using hb)
theorem nd_apart {v : Value} {ds : List Nd} {d' : Nd} {lo m hi : Nat} (h : (bksN v ds).Nodup) (h1 : ∀ b ∈ bksN v ds, lo ≤ b ∧ b < m) (h2 : (bkd d').Nodup) (h3 : ∀ b ∈ bkd d', m ≤ b ∧ b < hi) : (bksN v ds ++ bkd d').Nodup := by
  rw [List.nodup_append]
  exact ⟨h, h2, fun x hx y hy => by have := h1 x hx; have := h3 y hy; omega⟩
section
variable {L : List Oper} {Q : Exit → Act → World → Prop} {n d : Nat} {l : Env} {w : World} {rest : List Oper} {ty : TypeId} {pos : String} {af : Array Edge} {v v2 : Value} {x y : Operand} {t : TypeId}
/-- Own bytes are appended to: where they lie then. -/
theorem TL_appendBx {lo2 hi2 : Nat} {s s2 : List UInt8} (ht : Tryz.prog.underlying t = some (.slice 5)) (hx : ev l x = some v) (hy : ev l y = some v2) (h : OBx w v s) (hr : RB w lo2 hi2 v2 s2) (hl : s.length + s2.length ≤ 17592186044416) (hn : Nat.blt d n = true)
    (k : ∀ w' A' c', Ch (fun j => j ∈ blk v) w w' → (blk (.slice A' (s ++ s2).length c') = blk v ∨ (blk (.slice A' (s ++ s2).length c') = [w.heap.size] ∧ w.heap.size < w'.heap.size)) → OBx w' (.slice A' (s ++ s2).length c') (s ++ s2) → TL Tryz.prog L Q rest n ((d, .slice A' (s ++ s2).length c') :: l) w') :
    TL Tryz.prog L Q (⟨some d, .call { callee := .builtin .append, args := #[x, y], argTypes := #[t, t] }, ty, pos, af, none⟩ :: rest) n l w := by
  obtain ⟨l1, h1, ⟨A, c, rfl, ho0⟩, _⟩ := h
  obtain ⟨lo, hi, hlo, ho, hin⟩ := ho0.narrow2
  obtain ⟨A2, c2, rfl, _, hr⟩ := hr
  refine TL_append ht inf5 rfl rfl hx hy ho hr (u8s_one s2) hlo (by omega) (by omega) hn ?_
  intro w1 hi1 A1 c1 hch h1 h2 h3 hown
  have hch' : Ch (fun j => j ∈ blk (.slice A s.length c)) w w1 := hch.mono (fun j hj => hin j hj.1 hj.2)
  have hlen : s.length + s2.length = (s ++ s2).length := List.length_append.symm
  have hown' : Own w1 lo hi1 5 1 A1 (s ++ s2).length c1 (u8s (s ++ s2)) := hown.cast hlen (by simp [u8s])
  rw [hlen]
  refine k w1 A1 c1 hch' ?_ (OB.x ⟨A1, c1, rfl, hown'⟩)
  rcases h3 with rfl | rfl
  · left; cases A1 <;> rfl
  · right; exact ⟨rfl, Nat.lt_of_lt_of_le (hown.lt _ rfl) hown.hi_le⟩
end
theorem loc_in {v v' : Value} {lo m hi : Nat} (h : blk v' = blk v ∨ (blk v' = [m] ∧ m < hi)) (h1 : ∀ b ∈ blk v, lo ≤ b ∧ b < m) (hm : lo ≤ m) (hh : m ≤ hi) : ∀ b ∈ blk v', lo ≤ b ∧ b < hi := by
  intro b hb
  rcases h with h | ⟨h, h2⟩
  · rw [h] at hb; have := h1 b hb; omega
  · rw [h] at hb; rw [List.mem_singleton.1 hb]; omega
theorem loc_dis {v v' u : Value} {m hi : Nat} (h : blk v' = blk v ∨ (blk v' = [m] ∧ m < hi)) (hd : ∀ b ∈ blk v, b ∉ blk u) (hu : ∀ b ∈ blk u, b < m) : ∀ b ∈ blk v', b ∉ blk u := by
  intro b hb
  rcases h with h | ⟨h, h2⟩
  · rw [h] at hb; exact hd b hb
  · rw [h] at hb; rw [List.mem_singleton.1 hb]; intro hm; exact Nat.lt_irrefl _ (hu m hm)
theorem dis_sym {a b : Value} (h : ∀ x ∈ blk a, x ∉ blk b) : ∀ x ∈ blk b, x ∉ blk a := fun x hx hy => h x hy hx
theorem bk_of {a b : Value} (h : ∀ x ∈ blk a, x ∉ blk b) : (blk a ++ blk b).Nodup := by
  rw [List.nodup_append]
  exact ⟨blk_nodup a, blk_nodup b, fun x hx y hy e => h x hx (e ▸ hy)⟩
theorem OBx.new {w1 : World} {g : Nat} {w : World} (h : Own w1 g (g + 1) 5 1 (some ⟨g, 0, none⟩) 0 0 (u8s [])) (hg : g = w.heap.size) (hz : w1.heap.size = g + 1) : OBx w1 (.slice (some ⟨g, 0, none⟩) 0 0) [] := (OB_new (s := []) rfl h hg hz).x
attribute [local irreducible] TL TC TN TX TR TQ TA Pu Ret
set_option maxRecDepth 100000 in
set_option maxHeartbeats 8000000 in
theorem implcopyDisk_c {w : World} {lo hi : Nat} {d : DiskP} {sn sk st : Value} (h : RDk w lo hi d sn sk st) (hl : totD d ≤ 1048576) :
    Ret Tryz.prog 66 #[.agg (dskC d sn sk st).toArray] w fun v' w' => ∃ sn' sk' st', v' = .agg (dskC d sn' sk' st').toArray ∧ Ext w w' ∧ ODk w' w.heap.size w'.heap.size d sn' sk' st' := by
  obtain ⟨l1, l2, l3⟩ := totD_parts hl
  have nn1 := totNd_nn d.nodes
  have nn2 := totLk_nn d.kept
  have nn3 := totTn_nn d.turns
  have h0 := h
  obtain ⟨ds, A, c, hm, rfl, hc, hr, hok⟩ := h.1
  have hln : d.nodes.length = ds.length := by rw [← hm, List.length_map]
  have hone0 := h.one
  refine Ret_enter Tryz.func66 rfl rfl rfl ?_
  repeat' (first | apply Jbs | apply Jbt)
  refine TL_box (cs := dskC d (.slice A ds.length c) sk st) rfl rfl ?_
  intro w1 g1 e1 hg1 hz1 hb1
  skip
  refine TL_alloc Zs.h rfl rfl ?_
  intro w2 g2 e2 hg2 hz2 hb2
  replace hb1 := hb1.ext e2
  repeat' (first | apply Jbq | apply Jbr | apply Jbs | apply Jbt | refine Jcg (Pu_loadAgg (cs := dskC d (.slice A ds.length c) sk st) Us.h rfl Sz.h rfl (fun _ e j u hu => by rw [e, add0, hb1.cell]; exact hu)) rfl ?_)
  refine TL_alloc Zs.h rfl rfl ?_
  intro w3 g3 e3 hg3 hz3 hb3
  replace hb1 := hb1.ext e3
  replace hb2 := hb2.ext e3
  skip
  refine TL_storeAgg rfl rfl Sz.h hone0 hb3 rfl ?_
  clear hb3
  intro w4 c4 hz4 hb3
  replace hb1 := hb1.ch c4 (by simp only [Iv]; omega)
  replace hb2 := hb2.ch c4 (by simp only [Iv]; omega)
  have E4 : Ext w w4 := Ext.then_iv ((e1.ext e2).ext e3) c4 (by omega)
  repeat' (first | apply Jbq | apply Jbr | apply Jbs | apply Jbt | (apply Jcg; (apply Jbl; exact Us.h; exact rfl; exact Sz.h; exact rfl); exact rfl))
  refine TL_store rfl rfl Sz.h rfl hb3 rfl ?_
  clear hb3
  intro w5 c5 hz5 hb3
  replace hb3 : Blk w5 g3 33 (dskC d (.slice none 0 0) sk st) := hb3
  replace hb1 := hb1.ch c5 (by simp only [Iv]; omega)
  replace hb2 := hb2.ch c5 (by simp only [Iv]; omega)
  have E5 : Ext w w5 := Ext.then_iv E4 c5 (by omega)
  have hgg : w.heap.size = g1 ∧ g2 = g1 + 1 ∧ g3 = g2 + 1 ∧ w5.heap.size = g3 + 1 := by omega
  clear hg1 hg2 hg3 hz1 hz2 hz3 hz4 hz5 e1 e2 e3 c4 c5 E4
  repeat' (first | apply Jbq | apply Jbr | apply Jbs | apply Jbt | apply Jby | (apply Jcg; (first | exact Jaa rfl | exact Jac Us.h rfl | (apply Jbl; exact Us.h; exact rfl; exact Sz.h; exact rfl)); exact rfl) | refine Jcg (Pu_load Fl.h rfl (fun _ e => by rw [e]; exact hb1.ld rfl)) rfl ?_)
  refine TC_loop (ι := Nat × Value × List Nd) (fun x => [(1, .pointer (some ⟨g1, 0, none⟩)), (2, .pointer (some ⟨g2, 0, none⟩)), (3, .pointer (some ⟨g3, 0, none⟩)), (9, .slice A ds.length c), (10, I ds.length), (11, I x.1)])
    (fun x w' => x.1 ≤ ds.length ∧ Ch (Iv g3 (g3 + 1)) w5 w' ∧ Blk w' g3 33 (dskC d x.2.1 sk st) ∧ x.2.2.map NdP = d.nodes.take x.1 ∧ ONx w' x.2.1 x.2.2 ∧ ∀ b ∈ bksN x.2.1 x.2.2, w5.heap.size ≤ b ∧ b < w'.heap.size) (fun x => ds.length - x.1) (0, .slice none 0 0, []) (subEnv_cons rfl (subEnv_cons rfl (subEnv_cons rfl (subEnv_cons rfl (subEnv_cons rfl (subEnv_cons rfl (subEnv_nil _))))))) ⟨Nat.zero_le _, Ch.refl _ _, hb3, by simp, ONx.empty _, by simp [bksN, blk]⟩ ?_
  rintro ⟨k, vn, ys⟩ w6 ⟨hk, c6, hb6, hys, hx6, hbk6⟩
  simp only at hk hb6 hys hx6 hbk6
  have hyl : ys.length = k := by have := congrArg List.length hys; rw [List.length_map, List.length_take] at this; omega
  have E6 : Ext w w6 := Ext.then_iv E5 c6 (by omega)
  have hs6 := c6.size
  show TC _ _ _ _ [(1, .pointer (some ⟨g1, 0, none⟩)), (2, .pointer (some ⟨g2, 0, none⟩)), (3, .pointer (some ⟨g3, 0, none⟩)), (9, .slice A ds.length c), (10, I ds.length), (11, I (k : Int))] w6
  repeat' (first | apply Jbq | apply Jbr | apply Jbs | apply Jbt | (apply Jcg; exact Jad rfl rfl; exact rfl))
  refine Jcx rfl (fun hlt0 => ?_) (fun hge => ?_)
  · have hlt : k < ds.length := by omega
    obtain ⟨ad, rfl, hcell⟩ := Rd.elem NdC_len (hr.ext E6) hlt
    have hnk : d.nodes[k]'(by omega) = NdP ds[k] := by simp only [← hm, List.getElem_map]
    have hwk := totNd_mem (List.getElem_mem (show k < d.nodes.length by omega))
    rw [hnk] at hwk
    have htk : d.nodes.take (k + 1) = d.nodes.take k ++ [NdP ds[k]] := by rw [List.take_succ_eq_append_getElem (by omega), hnk]
    obtain ⟨⟨Ab, cb, hvb, hcb, hrb⟩, ⟨As, cs, hvs, hcs, hrs⟩⟩ := hok _ (List.getElem_mem hlt)
    obtain ⟨x, hx⟩ : ∃ x, x = ds[k] := ⟨_, rfl⟩
    rw [← hx] at hcell hwk htk hvb hvs hcb hcs hrb hrs
    obtain ⟨id, body, safe, vb, vs⟩ := x
    simp only at hvb hvs hcb hcs hrb hrs
    subst hvb hvs
    simp only [NdW, NdP] at hwk
    replace hcell : ∀ j u, [I id, .slice Ab body.length cb, .slice As safe.length cs][j]? = some u → w6.cell? ((ad.add (k * 3)).add j) = some u := hcell
    repeat' (first | apply Jbq | apply Jbr | apply Jbs | apply Jbt | apply Jby | apply Jbz | (apply Jcg; exact Jar Us.h Sz.h rfl rfl (by omega); exact rfl) | refine Jcg (Pu_loadAgg (cs := [I id, .slice Ab body.length cb, .slice As safe.length cs]) Us.h rfl Sz.h rfl (fun _ e j u hu => by rw [e]; exact hcell j u hu)) rfl ?_ | (refine TL_alloc Zs.h rfl rfl ?_; intro w7 g7 e7 hg7 hz7 hb7) | (refine TL_storeAgg rfl rfl Sz.h rfl hb7 rfl ?_; intro w8 c8 hz8 hb8))
    have c8' : Ext w6 w8 := Ext.then_iv e7 c8 (by omega)
    have hs8 := c8'.size
    have hb68 := hb6.ext c8'
    have hx8 := hx6.ext c8'
    have E8 := E6.ext c8'
    have hvnb : ∀ j ∈ blk vn, w5.heap.size ≤ j ∧ j < w6.heap.size := fun j hj => hbk6 j (List.mem_append.2 (.inl hj))
    have hT7 : ¬ (g7 ∈ blk vn ∨ g7 = g3) := by rintro (h | h); (have := hvnb g7 h; omega); omega
    refine TC_anyB (fun w' => Ch (fun j => j ∈ blk vn ∨ j = g3) w8 w') (fun w' => Blk w' g3 33 (dskC d vn sk st)) 12 mixed rfl (Ch.refl _ _).drew (hb68.ext (Ch.refl _ _).drew) ?_
    intro w9 hE hz9 hA hB
    (refine TB_take 0 rfl rfl rfl (by kernel_rfl) (by kernel_rfl) (by kernel_rfl) (fun _ _ _ h => h) ⟨hA, fun _ => hB⟩ (by (apply Jbl; exact Us.h; exact rfl; exact Sz.h; exact rfl)) rfl ?_; refine TB_take 2 rfl rfl rfl (by kernel_rfl) (by kernel_rfl) (by kernel_rfl) (fun _ _ _ h => h) ⟨hA, fun _ => hB⟩ (by (apply Jbl; exact Us.h; exact rfl; exact Sz.h; exact rfl)) rfl ?_; refine TB_take 3 rfl rfl rfl (by kernel_rfl) (by kernel_rfl) (by kernel_rfl) (fun _ _ _ h => h) ⟨hA, fun _ => hB⟩ (by exact Pu_load Fl.h rfl (fun _ e => (hb8.ch e hT7).ld rfl)) rfl ?_; refine TB_take 4 rfl rfl rfl (by kernel_rfl) (by kernel_rfl) (by kernel_rfl) (fun _ _ _ h => h) ⟨hA, fun _ => hB⟩ (by (apply Jbl; exact Us.h; exact rfl; exact Sz.h; exact rfl)) rfl ?_; refine TB_take 5 rfl rfl rfl (by kernel_rfl) (by kernel_rfl) (by kernel_rfl) (fun _ _ _ h => h) ⟨hA, fun _ => hB⟩ (by exact Pu_load Fl.h rfl (fun _ e => (hb8.ch e hT7).ld rfl)) rfl ?_; refine TB_take 7 rfl rfl rfl (by kernel_rfl) (by kernel_rfl) (by kernel_rfl) (fun _ _ _ h => h) ⟨hA, fun _ => hB⟩ (by (apply Jbl; exact Us.h; exact rfl; exact Sz.h; exact rfl)) rfl ?_; refine TB_take 8 rfl rfl rfl (by kernel_rfl) (by kernel_rfl) (by kernel_rfl) (fun _ _ _ h => h) ⟨hA, fun _ => hB⟩ (by exact Pu_load Fl.h rfl (fun _ e => (hb8.ch e hT7).ld rfl)) rfl ?_)
    (refine TB_takeB 1 rfl rfl rfl (by kernel_rfl) rfl (by kernel_rfl) (by kernel_rfl) (by kernel_rfl) (fun _ _ _ h => h) ⟨hA, fun _ => hB⟩ (by exact Pu_load Fl.h rfl (fun _ e => e.2.ld rfl)) rfl ?_)
    refine TB_one 6 (by kernel_rfl) rfl ?_
    refine TL_call rfl en71 (copyBytes_c (hrb.ext (E8.ext hE)) (by omega)) rfl rfl ?_
    rintro _ w10 ⟨A10, c10, rfl, e10, ho10⟩
    have hE1 := hE.ext e10
    have hs9 := hE.size
    replace hB := hB.ext e10
    replace hA := hA.ext e10
    refine Jbq (TN_anyB ⟨hA, fun _ => hB⟩ ?_)
    refine TB_one 9 (by kernel_rfl) rfl ?_
    refine TL_call rfl en71 (copyBytes_c (hrs.ext (E8.ext hE1)) (by omega)) rfl rfl ?_
    rintro _ w11 ⟨A11, c11, rfl, e11, ho11⟩
    have hs10 := e10.size
    have hs11 := e11.size
    clear hE
    have hE := hE1.ext e11
    replace hB := hB.ext e11
    replace hA := hA.ext e11
    refine Jbq (TN_anyB ⟨hA, fun _ => hB⟩ ?_)
    have o1 : OB w11 _ _ (.slice A10 body.length c10) body := ⟨_, _, rfl, ho10.ext e11⟩
    have o2 : OB w11 _ _ (.slice A11 safe.length c11) safe := ⟨_, _, rfl, ho11⟩
    have hbd : (bkd (⟨id, body, safe, .slice A10 body.length c10, .slice A11 safe.length c11⟩ : Nd)).Nodup := bk2 o1.bin (fun b hb => (o2.bin b hb).1)
    have hbi : ∀ b ∈ bkd (⟨id, body, safe, .slice A10 body.length c10, .slice A11 safe.length c11⟩ : Nd), w9.heap.size ≤ b ∧ b < w11.heap.size := fun b hb => by
      rcases List.mem_append.1 hb with hb | hb
      · have := o1.bin b hb; omega
      · have := o2.bin b hb; omega
    (refine TB_take 10 rfl rfl rfl (by kernel_rfl) (by kernel_rfl) (by kernel_rfl) (fun _ _ _ h => h) ⟨hA, fun _ => hB⟩ (by exact Pu_build (cs := [I id, .slice A10 body.length c10, .slice A11 safe.length c11]) rfl (by kernel_rfl)) rfl ?_)
    refine TB_one 11 (by kernel_rfl) rfl ?_
    refine TL_buildSlice Us.h Zi.h rfl rfl rfl rfl (fillN id A10 A11 body.length c10 safe.length c11) rfl rfl ?_
    intro w12 g12 e12 hg12 hz12 hown12
    have hE3 := hE.ext e12
    clear hE
    have hE := hE3
    replace hB := hB.ext e12
    replace hA := hA.ext e12
    refine Jbq (TN_anyB ⟨hA, fun _ => hB⟩ ?_)
    have hx12 : ONx w12 vn ys := hx8.ext hE
    have hrow : RowO NdC 98 3 w12 w11.heap.size w12.heap.size _ [(⟨id, body, safe, .slice A10 body.length c10, .slice A11 safe.length c11⟩ : Nd)] := RowO.new (l := [(⟨id, body, safe, .slice A10 body.length c10, .slice A11 safe.length c11⟩ : Nd)]) rfl hown12 hg12 hz12
    have hlt6 : ∀ b ∈ bksN vn ys, w5.heap.size ≤ b ∧ b < w9.heap.size := fun b hb => by have := hbk6 b hb; omega
    have hs12 := e12.size
    refine TB_one 12 (by kernel_rfl) rfl ?_
    refine TL_appendN Us.h rfl rfl hx12 hrow.rd (o1.x.ext e12) (o2.x.ext e12) (nd_apart hx8.nd hlt6 hbd hbi) (fun b hb => by
      rcases List.mem_append.1 hb with hb | hb
      · have := hlt6 b hb; omega
      · have := hbi b hb; omega) (by omega) rfl ?_
    intro w13 v13 c13 hloc hx13
    have hs13 := c13.size
    have hone13 : v13.oneCell' = true := hx13.row.one
    replace hA := hA.then (c13.mono (fun j hj => by first | exact hj | exact .inl hj))
    refine Jbq (TN_anyB ⟨hA, fun h => nomatch (show true = false from h)⟩ ?_)
    have hbk13 : ∀ b ∈ bksN v13 (ys ++ [(⟨id, body, safe, .slice A10 body.length c10, .slice A11 safe.length c11⟩ : Nd)]), w5.heap.size ≤ b ∧ b < w13.heap.size := bks_after (m := w12.heap.size) hloc (fun b hb => by have := hlt6 b hb; omega) (fun b hb => by have := hbi b hb; omega) (by omega)
    have hys13 : (ys ++ [(⟨id, body, safe, .slice A10 body.length c10, .slice A11 safe.length c11⟩ : Nd)]).map NdP = d.nodes.take (k + 1) := by rw [List.map_append, hys, htk]; rfl
    (refine TB_take 13 rfl rfl rfl (by kernel_rfl) (by kernel_rfl) (by kernel_rfl) (fun _ _ _ h => h) ⟨hA, fun h => nomatch (show true = false from h)⟩ (by (apply Jbl; exact Us.h; exact rfl; exact Sz.h; exact rfl)) rfl ?_)
    refine TB_one 14 (by kernel_rfl) rfl ?_
    have hb13 : Blk w13 g3 33 (dskC d vn sk st) := hB.ch c13 (fun h => by have := hvnb g3 h; omega)
    refine TL_store rfl rfl Sz.h hone13 hb13 rfl ?_
    intro w14 c14 hz14 hb14
    replace hb14 : Blk w14 g3 33 (dskC d v13 sk st) := hb14
    replace hA := hA.then (c14.mono (fun j hj => .inr (by simp only [Iv] at hj; omega)))
    refine Jbq (TN_anyB ⟨hA, fun h => nomatch (show true = false from h)⟩ ?_)
    refine TB_done (by kernel_rfl) ?_
    repeat' (first | apply Jbq | apply Jbr | apply Jbt | apply Jbx | (apply Jcg; (first | exact Jaa rfl | exact Jaf rfl rfl (by omega)); exact rfl))
    exact TN_round (k + 1, v13, _) (subEnv_cons rfl (subEnv_cons rfl (subEnv_cons rfl (subEnv_cons rfl (subEnv_cons rfl (subEnv_cons rfl (subEnv_nil _))))))) ⟨hlt, c6.trans (c8'.trans hA (fun j hj t => t.elim) (fun j hj t => t)) (fun j hj t => t) (fun j hj t => by
      rcases t with t | t
      · have := hvnb j t; omega
      · simp only [Iv]; omega), hb14, hys13, hx13.ch c14 (fun b hb => by have := hbk13 b hb; simp only [Iv]; omega), fun b hb => by have := hbk13 b hb; omega⟩ (by simp only; omega)
  · obtain rfl : k = ds.length := by omega
    rw [List.take_of_length_le (by omega)] at hys
    have hb16 := hb1.ch c6 (by simp only [Iv]; omega)
    have hb26 := hb2.ch c6 (by simp only [Iv]; omega)
    repeat' (first | apply Jbr | apply Jbs | apply Jbt | apply Jca | apply Jcb | apply Jcc | (apply Jcg; (apply Jbl; exact Us.h; exact rfl; exact Sz.h; exact rfl); exact rfl) | refine Jcg (Pu_load Fl.h rfl (fun _ e => by rw [e]; exact hb16.ld rfl)) rfl ?_)
    refine TL_appendRow Us.h Inf.h rfl rfl rfl LkC_one rfl rfl (RowO.nil w6 w6.heap.size (Nat.le_refl _)) (h0.2.1.row.ext E6) (Nat.le_refl _) (by simp only [List.length_nil]; omega) rfl ?_
    intro w7 vk c7 hok7
    rw [List.nil_append] at hok7
    have c7' : Ext w6 w7 := Ext.then_iv (Ch.refl _ _) c7 (Nat.le_refl _)
    have hs7 := c7'.size
    have hb7 := hb6.ext c7'
    have hb17 := hb16.ext c7'
    have hb27 := hb26.ext c7'
    repeat' ((apply Jcg; (apply Jbl; exact Us.h; exact rfl; exact Sz.h; exact rfl); exact rfl))
    refine TL_store rfl rfl Sz.h hok7.rd.one hb7 rfl ?_
    intro w8 c8 hz8 hb8
    replace hb8 : Blk w8 g3 33 (dskC d vn vk st) := hb8
    have hb18 := hb17.ch c8 (by simp only [Iv]; omega)
    have hb28 := hb27.ch c8 (by simp only [Iv]; omega)
    have hok8 := hok7.ch c8 (by intro j _ _; simp only [Iv]; omega)
    have E8 : Ext w w8 := Ext.then_iv (E6.ext c7') c8 (by omega)
    repeat' (first | apply Jbq | apply Jbr | apply Jbs | apply Jbt | (apply Jcg; (apply Jbl; exact Us.h; exact rfl; exact Sz.h; exact rfl); exact rfl) | refine Jcg (Pu_load Fl.h rfl (fun _ e => by rw [e]; exact hb18.ld rfl)) rfl ?_)
    refine TL_appendRow Us.h Inf.h rfl rfl rfl TnC_one rfl rfl (RowO.nil w8 w8.heap.size (Nat.le_refl _)) (h0.2.2.row.ext E8) (Nat.le_refl _) (by simp only [List.length_nil]; omega) rfl ?_
    intro w9 vt c9 hot9
    rw [List.nil_append] at hot9
    have c9' : Ext w8 w9 := Ext.then_iv (Ch.refl _ _) c9 (Nat.le_refl _)
    have hs9 := c9'.size
    have hb9 := hb8.ext c9'
    have hb29 := hb28.ext c9'
    have hok9 := hok8.ext c9'
    repeat' ((apply Jcg; (apply Jbl; exact Us.h; exact rfl; exact Sz.h; exact rfl); exact rfl))
    refine TL_store rfl rfl Sz.h hot9.rd.one hb9 rfl ?_
    intro w10 c10 hz10 hb10
    replace hb10 : Blk w10 g3 33 (dskC d vn vk vt) := hb10
    have hb210 := hb29.ch c10 (by simp only [Iv]; omega)
    have hok10 := hok9.ch c10 (by intro j _ _; simp only [Iv]; omega)
    have hot10 := hot9.ch c10 (by intro j _ _; simp only [Iv]; omega)
    have E10 : Ext w w10 := Ext.then_iv (E8.ext c9') c10 (by omega)
    have hx10 : ONx w10 vn ys := (((hx6.ext c7').ch c8 (fun b hb => by have := hbk6 b hb; simp only [Iv]; omega)).ext c9').ch c10 (fun b hb => by have := hbk6 b hb; simp only [Iv]; omega)
    repeat' (first | apply Jbq | apply Jbr | apply Jbs | apply Jbt | refine Jcg (Pu_loadAgg (cs := dskC d vn vk vt) Us.h rfl Sz.h rfl (fun _ e j u hu => by rw [e, add0, hb10.cell]; exact hu)) rfl ?_)
    refine TL_storeAgg rfl rfl Sz.h (by show ((dskC d vn vk vt).all (·.oneCell')) = true; simp only [dskC, List.all_cons, List.all_nil, hx10.row.one, hok10.rd.one, hot10.rd.one]; rfl) hb210 rfl ?_
    intro w11 c11 hz11 hb11
    have hok11 := hok10.ch c11 (by intro j _ _; simp only [Iv]; omega)
    have hot11 := hot10.ch c11 (by intro j _ _; simp only [Iv]; omega)
    have hx11 := hx10.ch c11 (fun b hb => by have := hbk6 b hb; simp only [Iv]; omega)
    repeat' (first | apply Jbq | apply Jbr | apply Jbu)
    exact TR_of (resA rfl rfl hb11 Us.h rfl Sz.h) ⟨vn, vk, vt, rfl, Ext.then_iv E10 c11 (by omega), (ODk.of (m1 := w6.heap.size) ⟨ys, hys, hx11, hbk6⟩ hok11 hot11 (Nat.le_refl _) (by omega) (by omega) hs7 (by omega) (by omega)).wide (by omega) (by omega) (Nat.le_refl _)⟩
set_option maxRecDepth 100000 in
set_option maxHeartbeats 16000000 in
theorem specl03Copy_c {w : World} {lo hi : Nat} {d : DiskP} {sn sk st : Value} (h : RDk w lo hi d sn sk st) (hl : totD d ≤ 1048576) :
    Ret Tryz.prog 58 #[.agg (dskC d sn sk st).toArray] w fun v' w' => ∃ sn' sk' st', v' = .agg (dskC d sn' sk' st').toArray ∧ Ext w w' ∧ ODk w' w.heap.size w'.heap.size d sn' sk' st' := by
  obtain ⟨l1, l2, l3⟩ := totD_parts hl
  have nn1 := totNd_nn d.nodes
  have nn2 := totLk_nn d.kept
  have nn3 := totTn_nn d.turns
  have h0 := h
  obtain ⟨ds, A, c, hm, rfl, hc, hr, hok⟩ := h.1
  have hln : d.nodes.length = ds.length := by rw [← hm, List.length_map]
  refine Ret_enter Tryz.func58 rfl rfl rfl ?_
  repeat' (first | apply Jbs | apply Jbt)
  refine TL_box (cs := dskC d (.slice A ds.length c) sk st) rfl rfl ?_
  intro w1 g1 e1 hg1 hz1 hb1
  skip
  refine TL_alloc Zs.h rfl rfl ?_
  intro w5 g2 e2 hg2 hz2 hb2
  replace hb1 := hb1.ext e2
  have E5 : Ext w w5 := e1.ext e2
  have hgg : w.heap.size = g1 ∧ g2 = g1 + 1 ∧ w5.heap.size = g2 + 1 := by omega
  clear hg1 hg2 hz1 hz2 e1 e2
  have hb15 := hb1
  have hb25 := hb2
  repeat' (first | apply Jbq | apply Jbr | apply Jbs | apply Jbt)
  refine TL_buildSlice0 Us.h Sz.h rfl ?_
  intro w4 g4 e4 hg4 hz4 hown4
  replace hb1 := hb1.ext e4
  replace hb2 := hb2.ext e4
  have hx4 : ONx w4 (.slice (some ⟨g4, 0, none⟩) 0 0) [] := ⟨(RowO.new (f := NdC) (l := []) rfl hown4 hg4 hz4).x, fun d hd => (by cases hd), by simp [bksN, blk]⟩
  repeat' (first | apply Jbq | apply Jbr | apply Jbs | apply Jbt | apply Jby | (apply Jcg; (first | exact Jaa rfl | exact Jab rfl | exact Jac Us.h rfl | (apply Jbl; exact Us.h; exact rfl; exact Sz.h; exact rfl)); exact rfl) | refine Jcg (Pu_load Fl.h rfl (fun _ e => by rw [e]; exact hb1.ld rfl)) rfl ?_)
  refine TC_loop (ι := Nat × Value × List Nd) (fun x => [(1, .pointer (some ⟨g1, 0, none⟩)), (2, .pointer (some ⟨g2, 0, none⟩)), (3, x.2.1), (8, .slice A ds.length c), (9, I ds.length), (10, I x.1)])
    (fun x w' => x.1 ≤ ds.length ∧ Ext w5 w' ∧ x.2.2.map NdP = d.nodes.take x.1 ∧ ONx w' x.2.1 x.2.2 ∧ ∀ b ∈ bksN x.2.1 x.2.2, w5.heap.size ≤ b ∧ b < w'.heap.size) (fun x => ds.length - x.1) (0, _, []) (subEnv_cons rfl (subEnv_cons rfl (subEnv_cons rfl (subEnv_cons rfl (subEnv_cons rfl (subEnv_cons rfl (subEnv_nil _))))))) ⟨Nat.zero_le _, e4, by simp, hx4, fun b hb => by
      have : b = g4 := by simpa [bksN, blk] using hb
      omega⟩ ?_
  rintro ⟨k, vn, ys⟩ w6 ⟨hk, c6, hys, hx6, hbk6⟩
  simp only at hk hys hx6 hbk6
  have hyl : ys.length = k := by have := congrArg List.length hys; rw [List.length_map, List.length_take] at this; omega
  have E6 : Ext w w6 := E5.ext c6
  have hs6 := c6.size
  have hs4 := e4.size
  show TC _ _ _ _ [(1, .pointer (some ⟨g1, 0, none⟩)), (2, .pointer (some ⟨g2, 0, none⟩)), (3, vn), (8, .slice A ds.length c), (9, I ds.length), (10, I (k : Int))] w6
  repeat' (first | apply Jbq | apply Jbr | apply Jbs | apply Jbt | (apply Jcg; exact Jad rfl rfl; exact rfl))
  refine Jcx rfl (fun hlt0 => ?_) (fun hge => ?_)
  · have hlt : k < ds.length := by omega
    obtain ⟨ad, rfl, hcell⟩ := Rd.elem NdC_len (hr.ext E6) hlt
    have hnk : d.nodes[k]'(by omega) = NdP ds[k] := by simp only [← hm, List.getElem_map]
    have hwk := totNd_mem (List.getElem_mem (show k < d.nodes.length by omega))
    rw [hnk] at hwk
    have htk : d.nodes.take (k + 1) = d.nodes.take k ++ [NdP ds[k]] := by rw [List.take_succ_eq_append_getElem (by omega), hnk]
    obtain ⟨⟨Ab, cb, hvb, hcb, hrb⟩, ⟨As, cs, hvs, hcs, hrs⟩⟩ := hok _ (List.getElem_mem hlt)
    obtain ⟨x, hx⟩ : ∃ x, x = ds[k] := ⟨_, rfl⟩
    rw [← hx] at hcell hwk htk hvb hvs hcb hcs hrb hrs
    obtain ⟨id, body, safe, vb, vs⟩ := x
    simp only at hvb hvs hcb hcs hrb hrs
    subst hvb hvs
    simp only [NdW, NdP] at hwk
    replace hcell : ∀ j u, [I id, .slice Ab body.length cb, .slice As safe.length cs][j]? = some u → w6.cell? ((ad.add (k * 3)).add j) = some u := hcell
    repeat' (first | apply Jbq | apply Jbr | apply Jbs | apply Jbt | apply Jby | apply Jbz | (apply Jcg; exact Jar Us.h Sz.h rfl rfl (by omega); exact rfl) | refine Jcg (Pu_loadAgg (cs := [I id, .slice Ab body.length cb, .slice As safe.length cs]) Us.h rfl Sz.h rfl (fun _ e j u hu => by rw [e]; exact hcell j u hu)) rfl ?_ | (refine TL_alloc Zs.h rfl rfl ?_; intro w7 g7 e7 hg7 hz7 hb7) | (refine TL_storeAgg rfl rfl Sz.h rfl hb7 rfl ?_; intro w8 c8 hz8 hb8))
    have c8' : Ext w6 w8 := Ext.then_iv e7 c8 (by omega)
    have hs8 := c8'.size
    have hx8 := hx6.ext c8'
    have E8 := E6.ext c8'
    have hvnb : ∀ j ∈ blk vn, w5.heap.size ≤ j ∧ j < w6.heap.size := fun j hj => hbk6 j (List.mem_append.2 (.inl hj))
    have hT7 : ¬ (g7 ∈ blk vn) := by intro h; have := hvnb g7 h; omega
    refine TC_anyB (fun w' => Ch (fun j => j ∈ blk vn) w8 w') (fun _ => True) 13 mixed rfl (Ch.refl _ _).drew trivial ?_
    intro w9 hE hz9 hA hB
    (refine TB_take 0 rfl rfl rfl (by kernel_rfl) (by kernel_rfl) (by kernel_rfl) (fun _ _ _ h => h) ⟨hA, fun _ => hB⟩ (by exact Jaa rfl) rfl ?_; refine TB_take 1 rfl rfl rfl (by kernel_rfl) (by kernel_rfl) (by kernel_rfl) (fun _ _ _ h => h) ⟨hA, fun _ => hB⟩ (by (apply Jbl; exact Us.h; exact rfl; exact Sz.h; exact rfl)) rfl ?_; refine TB_take 2 rfl rfl rfl (by kernel_rfl) (by kernel_rfl) (by kernel_rfl) (fun _ _ _ h => h) ⟨hA, fun _ => hB⟩ (by exact Pu_load Fl.h rfl (fun _ e => (hb8.ch e hT7).ld rfl)) rfl ?_; refine TB_take 4 rfl rfl rfl (by kernel_rfl) (by kernel_rfl) (by kernel_rfl) (fun _ _ _ h => h) ⟨hA, fun _ => hB⟩ (by (apply Jbl; exact Us.h; exact rfl; exact Sz.h; exact rfl)) rfl ?_; refine TB_take 5 rfl rfl rfl (by kernel_rfl) (by kernel_rfl) (by kernel_rfl) (fun _ _ _ h => h) ⟨hA, fun _ => hB⟩ (by exact Pu_load Fl.h rfl (fun _ e => (hb8.ch e hT7).ld rfl)) rfl ?_; refine TB_take 8 rfl rfl rfl (by kernel_rfl) (by kernel_rfl) (by kernel_rfl) (fun _ _ _ h => h) ⟨hA, fun _ => hB⟩ (by (apply Jbl; exact Us.h; exact rfl; exact Sz.h; exact rfl)) rfl ?_; refine TB_take 9 rfl rfl rfl (by kernel_rfl) (by kernel_rfl) (by kernel_rfl) (fun _ _ _ h => h) ⟨hA, fun _ => hB⟩ (by exact Pu_load Fl.h rfl (fun _ e => (hb8.ch e hT7).ld rfl)) rfl ?_)
    have hs9 := hE.size
    refine TB_two 3 7 (by kernel_rfl) rfl rfl ?_ ?_
    · refine TL_buildSlice0 Us.h Sz.h rfl ?_
      intro w10 gb f9 hgb hzb hownb
      have xb := OBx.new hownb hgb hzb
      have ib : ∀ b ∈ blk (.slice (some ⟨gb, 0, none⟩) 0 0), w9.heap.size ≤ b ∧ b < w10.heap.size := fun b hb => by have hb := List.mem_singleton.1 hb; simp only at hb; omega
      replace hE := hE.ext f9
      replace hA : Ch (fun j => j ∈ blk vn) w8 w10 := Ch.mono hE (fun _ t => t.elim)
      refine Jbq (TN_anyB ⟨hA, fun _ => trivial⟩ ?_)
      refine TB_two 6 7 (by kernel_rfl) rfl rfl ?_ ?_
      · refine TL_appendBx Us.h rfl rfl xb ⟨_, _, rfl, hcb, hrb.ext (E8.ext hE)⟩ (by simp only [List.length_nil]; omega) rfl ?_
        intro w11 A1b c1b f10 locb xb
        have z10 := f10.size
        replace hE : Ext w8 w11 := hE.trans f10 (fun _ _ t => t) (fun j hj t => by have := ib j t; omega)
        replace ib := loc_in locb ib (by omega) (by omega)
        replace hA : Ch (fun j => j ∈ blk vn) w8 w11 := Ch.mono hE (fun _ t => t.elim)
        refine Jbq (TN_anyB ⟨hA, fun _ => trivial⟩ ?_)
        refine TB_one 7 (by kernel_rfl) rfl ?_
        refine TL_buildSlice0 Us.h Sz.h rfl ?_
        intro w12 gs f11 hgs hzs howns
        have xs := OBx.new howns hgs hzs
        have is : ∀ b ∈ blk (.slice (some ⟨gs, 0, none⟩) 0 0), w9.heap.size ≤ b ∧ b < w12.heap.size := fun b hb => by have hb := List.mem_singleton.1 hb; simp only at hb; omega
        replace xb := xb.ext f11
        have dsb : ∀ x ∈ blk (.slice (some ⟨gs, 0, none⟩) 0 0), x ∉ blk _ := fun x hx hy => by have := ib x hy; have hx := List.mem_singleton.1 hx; simp only at hx; omega
        have dbs := dis_sym dsb
        replace ib := fun b hb => (by have := ib b hb; omega : w9.heap.size ≤ b ∧ b < w12.heap.size)
        replace hE := hE.ext f11
        replace hA : Ch (fun j => j ∈ blk vn) w8 w12 := Ch.mono hE (fun _ t => t.elim)
        refine Jbq (TN_anyB ⟨hA, fun _ => trivial⟩ ?_)
        refine TB_one 10 (by kernel_rfl) rfl ?_
        refine TL_appendBx Us.h rfl rfl xs ⟨_, _, rfl, hcs, hrs.ext (E8.ext hE)⟩ (by simp only [List.length_nil]; omega) rfl ?_
        intro w13 A1s c1s f12 locs xs
        have z12 := f12.size
        replace xb := xb.ch f12 (fun b hb hn => dbs b hb hn)
        replace dsb := loc_dis locs dsb (fun b hb => (ib b hb).2)
        replace dbs := dis_sym dsb
        replace ib := fun b hb => (by have := ib b hb; omega : w9.heap.size ≤ b ∧ b < w13.heap.size)
        replace hE : Ext w8 w13 := hE.trans f12 (fun _ _ t => t) (fun j hj t => by have := is j t; omega)
        replace is := loc_in locs is (by omega) (by omega)
        replace hA : Ch (fun j => j ∈ blk vn) w8 w13 := Ch.mono hE (fun _ t => t.elim)
        refine Jbq (TN_anyB ⟨hA, fun _ => trivial⟩ ?_)
        have hbd : (bkd (⟨id, [] ++ body, [] ++ safe, .slice A1b ([] ++ body).length c1b, .slice A1s ([] ++ safe).length c1s⟩ : Nd)).Nodup := bk_of dbs
        have hbi : ∀ b ∈ bkd (⟨id, [] ++ body, [] ++ safe, .slice A1b ([] ++ body).length c1b, .slice A1s ([] ++ safe).length c1s⟩ : Nd), w9.heap.size ≤ b ∧ b < w13.heap.size := fun b hb => by
          rcases List.mem_append.1 hb with hb | hb
          · have := ib b hb; omega
          · have := is b hb; omega
        (refine TB_take 11 rfl rfl rfl (by kernel_rfl) (by kernel_rfl) (by kernel_rfl) (fun _ _ _ h => h) ⟨hA, fun _ => hB⟩ (by exact Pu_build (cs := [I id, .slice A1b ([] ++ body).length c1b, .slice A1s ([] ++ safe).length c1s]) rfl (by kernel_rfl)) rfl ?_)
        refine TB_one 12 (by kernel_rfl) rfl ?_
        refine TL_buildSlice Us.h Zi.h rfl rfl rfl rfl (fillN id A1b A1s _ c1b _ c1s) rfl rfl ?_
        intro wE gE eE hgE hzE hownE
        have hE3 := hE.ext eE
        clear hE
        have hE := hE3
        replace hA := hA.ext eE
        refine Jbq (TN_anyB ⟨hA, fun _ => hB⟩ ?_)
        have hxE : ONx wE vn ys := hx8.ext hE
        have hrow : RowO NdC 98 3 wE w13.heap.size wE.heap.size _ [(⟨id, [] ++ body, [] ++ safe, .slice A1b ([] ++ body).length c1b, .slice A1s ([] ++ safe).length c1s⟩ : Nd)] := RowO.new (l := [(⟨id, [] ++ body, [] ++ safe, .slice A1b ([] ++ body).length c1b, .slice A1s ([] ++ safe).length c1s⟩ : Nd)]) rfl hownE hgE hzE
        have hlt6 : ∀ b ∈ bksN vn ys, w5.heap.size ≤ b ∧ b < w9.heap.size := fun b hb => by have := hbk6 b hb; omega
        have hsE := eE.size
        refine TB_one 13 (by kernel_rfl) rfl ?_
        refine TL_appendN Us.h rfl rfl hxE hrow.rd (xb.ext eE) (xs.ext eE) (nd_apart hx8.nd hlt6 hbd hbi) (fun b hb => by
          rcases List.mem_append.1 hb with hb | hb
          · have := hlt6 b hb; omega
          · have := hbi b hb; omega) (by omega) rfl ?_
        intro w13 v13 c13 hloc hx13
        have hs13 := c13.size
        have hone13 : v13.oneCell' = true := hx13.row.one
        replace hA := hA.then (c13.mono (fun j hj => by first | exact hj | exact .inl hj))
        refine Jbq (TN_anyB ⟨hA, fun h => nomatch (show true = false from h)⟩ ?_)
        have hbk13 : ∀ b ∈ bksN v13 (ys ++ [(⟨id, [] ++ body, [] ++ safe, .slice A1b ([] ++ body).length c1b, .slice A1s ([] ++ safe).length c1s⟩ : Nd)]), w5.heap.size ≤ b ∧ b < w13.heap.size := bks_after (m := wE.heap.size) hloc (fun b hb => by have := hlt6 b hb; omega) (fun b hb => by have := hbi b hb; omega) (by omega)
        have hys13 : (ys ++ [(⟨id, [] ++ body, [] ++ safe, .slice A1b ([] ++ body).length c1b, .slice A1s ([] ++ safe).length c1s⟩ : Nd)]).map NdP = d.nodes.take (k + 1) := by rw [List.map_append, hys, htk]; rfl
        (refine TB_take 14 rfl rfl rfl (by kernel_rfl) (by kernel_rfl) (by kernel_rfl) (fun _ _ _ h => h) ⟨hA, fun h => nomatch (show true = false from h)⟩ (by exact Jab rfl) rfl ?_)
        refine TB_done (by kernel_rfl) ?_
        repeat' (first | apply Jbq | apply Jbr | apply Jbt | apply Jbx | (apply Jcg; (first | exact Jaa rfl | exact Jaf rfl rfl (by omega)); exact rfl))
        exact TN_round (k + 1, v13, _) (subEnv_cons rfl (subEnv_cons rfl (subEnv_cons rfl (subEnv_cons rfl (subEnv_cons rfl (subEnv_cons rfl (subEnv_nil _))))))) ⟨hlt, c6.trans (c8'.trans hA (fun j hj t => t.elim) (fun j hj t => t)) (fun j hj t => t) (fun j hj t => by have := hvnb j t; omega), hys13, hx13, hbk13⟩ (by simp only; omega)
      · refine TL_buildSlice0 Us.h Sz.h rfl ?_
        intro w11 gs f10 hgs hzs howns
        have xs := OBx.new howns hgs hzs
        have is : ∀ b ∈ blk (.slice (some ⟨gs, 0, none⟩) 0 0), w9.heap.size ≤ b ∧ b < w11.heap.size := fun b hb => by have hb := List.mem_singleton.1 hb; simp only at hb; omega
        replace xb := xb.ext f10
        have dsb : ∀ x ∈ blk (.slice (some ⟨gs, 0, none⟩) 0 0), x ∉ blk _ := fun x hx hy => by have := ib x hy; have hx := List.mem_singleton.1 hx; simp only at hx; omega
        have dbs := dis_sym dsb
        replace ib := fun b hb => (by have := ib b hb; omega : w9.heap.size ≤ b ∧ b < w11.heap.size)
        replace hE := hE.ext f10
        replace hA : Ch (fun j => j ∈ blk vn) w8 w11 := Ch.mono hE (fun _ t => t.elim)
        refine Jbq (TN_anyB ⟨hA, fun _ => trivial⟩ ?_)
        refine TB_one 6 (by kernel_rfl) rfl ?_
        refine TL_appendBx Us.h rfl rfl xb ⟨_, _, rfl, hcb, hrb.ext (E8.ext hE)⟩ (by simp only [List.length_nil]; omega) rfl ?_
        intro w12 A1b c1b f11 locb xb
        have z11 := f11.size
        replace xs := xs.ch f11 (fun b hb hn => dsb b hb hn)
        replace dbs := loc_dis locb dbs (fun b hb => (is b hb).2)
        replace dsb := dis_sym dbs
        replace is := fun b hb => (by have := is b hb; omega : w9.heap.size ≤ b ∧ b < w12.heap.size)
        replace hE : Ext w8 w12 := hE.trans f11 (fun _ _ t => t) (fun j hj t => by have := ib j t; omega)
        replace ib := loc_in locb ib (by omega) (by omega)
        replace hA : Ch (fun j => j ∈ blk vn) w8 w12 := Ch.mono hE (fun _ t => t.elim)
        refine Jbq (TN_anyB ⟨hA, fun _ => trivial⟩ ?_)
        refine TB_one 10 (by kernel_rfl) rfl ?_
        refine TL_appendBx Us.h rfl rfl xs ⟨_, _, rfl, hcs, hrs.ext (E8.ext hE)⟩ (by simp only [List.length_nil]; omega) rfl ?_
        intro w13 A1s c1s f12 locs xs
        have z12 := f12.size
        replace xb := xb.ch f12 (fun b hb hn => dbs b hb hn)
        replace dsb := loc_dis locs dsb (fun b hb => (ib b hb).2)
        replace dbs := dis_sym dsb
        replace ib := fun b hb => (by have := ib b hb; omega : w9.heap.size ≤ b ∧ b < w13.heap.size)
        replace hE : Ext w8 w13 := hE.trans f12 (fun _ _ t => t) (fun j hj t => by have := is j t; omega)
        replace is := loc_in locs is (by omega) (by omega)
        replace hA : Ch (fun j => j ∈ blk vn) w8 w13 := Ch.mono hE (fun _ t => t.elim)
        refine Jbq (TN_anyB ⟨hA, fun _ => trivial⟩ ?_)
        have hbd : (bkd (⟨id, [] ++ body, [] ++ safe, .slice A1b ([] ++ body).length c1b, .slice A1s ([] ++ safe).length c1s⟩ : Nd)).Nodup := bk_of dbs
        have hbi : ∀ b ∈ bkd (⟨id, [] ++ body, [] ++ safe, .slice A1b ([] ++ body).length c1b, .slice A1s ([] ++ safe).length c1s⟩ : Nd), w9.heap.size ≤ b ∧ b < w13.heap.size := fun b hb => by
          rcases List.mem_append.1 hb with hb | hb
          · have := ib b hb; omega
          · have := is b hb; omega
        (refine TB_take 11 rfl rfl rfl (by kernel_rfl) (by kernel_rfl) (by kernel_rfl) (fun _ _ _ h => h) ⟨hA, fun _ => hB⟩ (by exact Pu_build (cs := [I id, .slice A1b ([] ++ body).length c1b, .slice A1s ([] ++ safe).length c1s]) rfl (by kernel_rfl)) rfl ?_)
        refine TB_one 12 (by kernel_rfl) rfl ?_
        refine TL_buildSlice Us.h Zi.h rfl rfl rfl rfl (fillN id A1b A1s _ c1b _ c1s) rfl rfl ?_
        intro wE gE eE hgE hzE hownE
        have hE3 := hE.ext eE
        clear hE
        have hE := hE3
        replace hA := hA.ext eE
        refine Jbq (TN_anyB ⟨hA, fun _ => hB⟩ ?_)
        have hxE : ONx wE vn ys := hx8.ext hE
        have hrow : RowO NdC 98 3 wE w13.heap.size wE.heap.size _ [(⟨id, [] ++ body, [] ++ safe, .slice A1b ([] ++ body).length c1b, .slice A1s ([] ++ safe).length c1s⟩ : Nd)] := RowO.new (l := [(⟨id, [] ++ body, [] ++ safe, .slice A1b ([] ++ body).length c1b, .slice A1s ([] ++ safe).length c1s⟩ : Nd)]) rfl hownE hgE hzE
        have hlt6 : ∀ b ∈ bksN vn ys, w5.heap.size ≤ b ∧ b < w9.heap.size := fun b hb => by have := hbk6 b hb; omega
        have hsE := eE.size
        refine TB_one 13 (by kernel_rfl) rfl ?_
        refine TL_appendN Us.h rfl rfl hxE hrow.rd (xb.ext eE) (xs.ext eE) (nd_apart hx8.nd hlt6 hbd hbi) (fun b hb => by
          rcases List.mem_append.1 hb with hb | hb
          · have := hlt6 b hb; omega
          · have := hbi b hb; omega) (by omega) rfl ?_
        intro w13 v13 c13 hloc hx13
        have hs13 := c13.size
        have hone13 : v13.oneCell' = true := hx13.row.one
        replace hA := hA.then (c13.mono (fun j hj => by first | exact hj | exact .inl hj))
        refine Jbq (TN_anyB ⟨hA, fun h => nomatch (show true = false from h)⟩ ?_)
        have hbk13 : ∀ b ∈ bksN v13 (ys ++ [(⟨id, [] ++ body, [] ++ safe, .slice A1b ([] ++ body).length c1b, .slice A1s ([] ++ safe).length c1s⟩ : Nd)]), w5.heap.size ≤ b ∧ b < w13.heap.size := bks_after (m := wE.heap.size) hloc (fun b hb => by have := hlt6 b hb; omega) (fun b hb => by have := hbi b hb; omega) (by omega)
        have hys13 : (ys ++ [(⟨id, [] ++ body, [] ++ safe, .slice A1b ([] ++ body).length c1b, .slice A1s ([] ++ safe).length c1s⟩ : Nd)]).map NdP = d.nodes.take (k + 1) := by rw [List.map_append, hys, htk]; rfl
        (refine TB_take 14 rfl rfl rfl (by kernel_rfl) (by kernel_rfl) (by kernel_rfl) (fun _ _ _ h => h) ⟨hA, fun h => nomatch (show true = false from h)⟩ (by exact Jab rfl) rfl ?_)
        refine TB_done (by kernel_rfl) ?_
        repeat' (first | apply Jbq | apply Jbr | apply Jbt | apply Jbx | (apply Jcg; (first | exact Jaa rfl | exact Jaf rfl rfl (by omega)); exact rfl))
        exact TN_round (k + 1, v13, _) (subEnv_cons rfl (subEnv_cons rfl (subEnv_cons rfl (subEnv_cons rfl (subEnv_cons rfl (subEnv_cons rfl (subEnv_nil _))))))) ⟨hlt, c6.trans (c8'.trans hA (fun j hj t => t.elim) (fun j hj t => t)) (fun j hj t => t) (fun j hj t => by have := hvnb j t; omega), hys13, hx13, hbk13⟩ (by simp only; omega)
    · refine TL_buildSlice0 Us.h Sz.h rfl ?_
      intro w10 gs f9 hgs hzs howns
      have xs := OBx.new howns hgs hzs
      have is : ∀ b ∈ blk (.slice (some ⟨gs, 0, none⟩) 0 0), w9.heap.size ≤ b ∧ b < w10.heap.size := fun b hb => by have hb := List.mem_singleton.1 hb; simp only at hb; omega
      replace hE := hE.ext f9
      replace hA : Ch (fun j => j ∈ blk vn) w8 w10 := Ch.mono hE (fun _ t => t.elim)
      refine Jbq (TN_anyB ⟨hA, fun _ => trivial⟩ ?_)
      refine TB_one 3 (by kernel_rfl) rfl ?_
      refine TL_buildSlice0 Us.h Sz.h rfl ?_
      intro w11 gb f10 hgb hzb hownb
      have xb := OBx.new hownb hgb hzb
      have ib : ∀ b ∈ blk (.slice (some ⟨gb, 0, none⟩) 0 0), w9.heap.size ≤ b ∧ b < w11.heap.size := fun b hb => by have hb := List.mem_singleton.1 hb; simp only at hb; omega
      replace xs := xs.ext f10
      have dbs : ∀ x ∈ blk (.slice (some ⟨gb, 0, none⟩) 0 0), x ∉ blk _ := fun x hx hy => by have := is x hy; have hx := List.mem_singleton.1 hx; simp only at hx; omega
      have dsb := dis_sym dbs
      replace is := fun b hb => (by have := is b hb; omega : w9.heap.size ≤ b ∧ b < w11.heap.size)
      replace hE := hE.ext f10
      replace hA : Ch (fun j => j ∈ blk vn) w8 w11 := Ch.mono hE (fun _ t => t.elim)
      refine Jbq (TN_anyB ⟨hA, fun _ => trivial⟩ ?_)
      refine TB_one 6 (by kernel_rfl) rfl ?_
      refine TL_appendBx Us.h rfl rfl xb ⟨_, _, rfl, hcb, hrb.ext (E8.ext hE)⟩ (by simp only [List.length_nil]; omega) rfl ?_
      intro w12 A1b c1b f11 locb xb
      have z11 := f11.size
      replace xs := xs.ch f11 (fun b hb hn => dsb b hb hn)
      replace dbs := loc_dis locb dbs (fun b hb => (is b hb).2)
      replace dsb := dis_sym dbs
      replace is := fun b hb => (by have := is b hb; omega : w9.heap.size ≤ b ∧ b < w12.heap.size)
      replace hE : Ext w8 w12 := hE.trans f11 (fun _ _ t => t) (fun j hj t => by have := ib j t; omega)
      replace ib := loc_in locb ib (by omega) (by omega)
      replace hA : Ch (fun j => j ∈ blk vn) w8 w12 := Ch.mono hE (fun _ t => t.elim)
      refine Jbq (TN_anyB ⟨hA, fun _ => trivial⟩ ?_)
      refine TB_one 10 (by kernel_rfl) rfl ?_
      refine TL_appendBx Us.h rfl rfl xs ⟨_, _, rfl, hcs, hrs.ext (E8.ext hE)⟩ (by simp only [List.length_nil]; omega) rfl ?_
      intro w13 A1s c1s f12 locs xs
      have z12 := f12.size
      replace xb := xb.ch f12 (fun b hb hn => dbs b hb hn)
      replace dsb := loc_dis locs dsb (fun b hb => (ib b hb).2)
      replace dbs := dis_sym dsb
      replace ib := fun b hb => (by have := ib b hb; omega : w9.heap.size ≤ b ∧ b < w13.heap.size)
      replace hE : Ext w8 w13 := hE.trans f12 (fun _ _ t => t) (fun j hj t => by have := is j t; omega)
      replace is := loc_in locs is (by omega) (by omega)
      replace hA : Ch (fun j => j ∈ blk vn) w8 w13 := Ch.mono hE (fun _ t => t.elim)
      refine Jbq (TN_anyB ⟨hA, fun _ => trivial⟩ ?_)
      have hbd : (bkd (⟨id, [] ++ body, [] ++ safe, .slice A1b ([] ++ body).length c1b, .slice A1s ([] ++ safe).length c1s⟩ : Nd)).Nodup := bk_of dbs
      have hbi : ∀ b ∈ bkd (⟨id, [] ++ body, [] ++ safe, .slice A1b ([] ++ body).length c1b, .slice A1s ([] ++ safe).length c1s⟩ : Nd), w9.heap.size ≤ b ∧ b < w13.heap.size := fun b hb => by
        rcases List.mem_append.1 hb with hb | hb
        · have := ib b hb; omega
        · have := is b hb; omega
      (refine TB_take 11 rfl rfl rfl (by kernel_rfl) (by kernel_rfl) (by kernel_rfl) (fun _ _ _ h => h) ⟨hA, fun _ => hB⟩ (by exact Pu_build (cs := [I id, .slice A1b ([] ++ body).length c1b, .slice A1s ([] ++ safe).length c1s]) rfl (by kernel_rfl)) rfl ?_)
      refine TB_one 12 (by kernel_rfl) rfl ?_
      refine TL_buildSlice Us.h Zi.h rfl rfl rfl rfl (fillN id A1b A1s _ c1b _ c1s) rfl rfl ?_
      intro wE gE eE hgE hzE hownE
      have hE3 := hE.ext eE
      clear hE
      have hE := hE3
      replace hA := hA.ext eE
      refine Jbq (TN_anyB ⟨hA, fun _ => hB⟩ ?_)
      have hxE : ONx wE vn ys := hx8.ext hE
      have hrow : RowO NdC 98 3 wE w13.heap.size wE.heap.size _ [(⟨id, [] ++ body, [] ++ safe, .slice A1b ([] ++ body).length c1b, .slice A1s ([] ++ safe).length c1s⟩ : Nd)] := RowO.new (l := [(⟨id, [] ++ body, [] ++ safe, .slice A1b ([] ++ body).length c1b, .slice A1s ([] ++ safe).length c1s⟩ : Nd)]) rfl hownE hgE hzE
      have hlt6 : ∀ b ∈ bksN vn ys, w5.heap.size ≤ b ∧ b < w9.heap.size := fun b hb => by have := hbk6 b hb; omega
      have hsE := eE.size
      refine TB_one 13 (by kernel_rfl) rfl ?_
      refine TL_appendN Us.h rfl rfl hxE hrow.rd (xb.ext eE) (xs.ext eE) (nd_apart hx8.nd hlt6 hbd hbi) (fun b hb => by
        rcases List.mem_append.1 hb with hb | hb
        · have := hlt6 b hb; omega
        · have := hbi b hb; omega) (by omega) rfl ?_
      intro w13 v13 c13 hloc hx13
      have hs13 := c13.size
      have hone13 : v13.oneCell' = true := hx13.row.one
      replace hA := hA.then (c13.mono (fun j hj => by first | exact hj | exact .inl hj))
      refine Jbq (TN_anyB ⟨hA, fun h => nomatch (show true = false from h)⟩ ?_)
      have hbk13 : ∀ b ∈ bksN v13 (ys ++ [(⟨id, [] ++ body, [] ++ safe, .slice A1b ([] ++ body).length c1b, .slice A1s ([] ++ safe).length c1s⟩ : Nd)]), w5.heap.size ≤ b ∧ b < w13.heap.size := bks_after (m := wE.heap.size) hloc (fun b hb => by have := hlt6 b hb; omega) (fun b hb => by have := hbi b hb; omega) (by omega)
      have hys13 : (ys ++ [(⟨id, [] ++ body, [] ++ safe, .slice A1b ([] ++ body).length c1b, .slice A1s ([] ++ safe).length c1s⟩ : Nd)]).map NdP = d.nodes.take (k + 1) := by rw [List.map_append, hys, htk]; rfl
      (refine TB_take 14 rfl rfl rfl (by kernel_rfl) (by kernel_rfl) (by kernel_rfl) (fun _ _ _ h => h) ⟨hA, fun h => nomatch (show true = false from h)⟩ (by exact Jab rfl) rfl ?_)
      refine TB_done (by kernel_rfl) ?_
      repeat' (first | apply Jbq | apply Jbr | apply Jbt | apply Jbx | (apply Jcg; (first | exact Jaa rfl | exact Jaf rfl rfl (by omega)); exact rfl))
      exact TN_round (k + 1, v13, _) (subEnv_cons rfl (subEnv_cons rfl (subEnv_cons rfl (subEnv_cons rfl (subEnv_cons rfl (subEnv_cons rfl (subEnv_nil _))))))) ⟨hlt, c6.trans (c8'.trans hA (fun j hj t => t.elim) (fun j hj t => t)) (fun j hj t => t) (fun j hj t => by have := hvnb j t; omega), hys13, hx13, hbk13⟩ (by simp only; omega)
  · obtain rfl : k = ds.length := by omega
    rw [List.take_of_length_le (by omega)] at hys
    have hb16 := hb15.ext c6
    have hb26 := hb25.ext c6
    repeat' (first | apply Jbr | apply Jbs | apply Jbt | apply Jca | apply Jcb | apply Jcc | (apply Jcg; (first | exact Jaa rfl | (apply Jbl; exact Us.h; exact rfl; exact Sz.h; exact rfl)); exact rfl))
    refine TL_store rfl rfl Sz.h hx6.row.one hb16 rfl ?_
    intro w7 c7 hz7 hb7
    replace hb7 : Blk w7 g1 33 (dskC d vn sk st) := hb7
    have hb27 := hb26.ch c7 (by simp only [Iv]; omega)
    have hx7 := hx6.ch c7 (fun b hb => by have := hbk6 b hb; simp only [Iv]; omega)
    have E7 : Ext w w7 := Ext.then_iv E6 c7 (by omega)
    repeat' (first | apply Jbq | apply Jbr | apply Jbs | apply Jbt)
    refine TL_buildSlice0 Us.h Sz.h rfl ?_
    intro w8 g8 e8 hg8 hz8 hown8
    have hb8 := hb7.ext e8
    repeat' (first | (apply Jcg; (apply Jbl; exact Us.h; exact rfl; exact Sz.h; exact rfl); exact rfl) | refine Jcg (Pu_load Fl.h rfl (fun _ e => by rw [e]; exact hb8.ld rfl)) rfl ?_)
    refine TL_appendRow Us.h Inf.h rfl rfl rfl LkC_one rfl rfl (RowO.new (l := []) rfl hown8 hg8 hz8) (h0.2.1.row.ext (E7.ext e8)) e8.size (by simp only [List.length_nil]; omega) rfl ?_
    intro w9 vk c9 hok9
    rw [List.nil_append] at hok9
    have c9' : Ext w7 w9 := Ext.then_iv e8 c9 (Nat.le_refl _)
    have hs9 := c9'.size
    have hb9 := hb7.ext c9'
    have hb29 := hb27.ext c9'
    have hx9 := hx7.ext c9'
    repeat' ((apply Jcg; (apply Jbl; exact Us.h; exact rfl; exact Sz.h; exact rfl); exact rfl))
    refine TL_store rfl rfl Sz.h hok9.rd.one hb9 rfl ?_
    intro w10 c10 hz10 hb10
    replace hb10 : Blk w10 g1 33 (dskC d vn vk st) := hb10
    have hb210 := hb29.ch c10 (by simp only [Iv]; omega)
    have hok10 := hok9.ch c10 (by intro j _ _; simp only [Iv]; omega)
    have hx10 := hx9.ch c10 (fun b hb => by have := hbk6 b hb; simp only [Iv]; omega)
    have E10 : Ext w w10 := Ext.then_iv (E7.ext c9') c10 (by omega)
    repeat' (first | apply Jbq | apply Jbr | apply Jbs | apply Jbt)
    refine TL_buildSlice0 Us.h Sz.h rfl ?_
    intro w11 g11 e11 hg11 hz11 hown11
    have hb11 := hb10.ext e11
    repeat' (first | (apply Jcg; (apply Jbl; exact Us.h; exact rfl; exact Sz.h; exact rfl); exact rfl) | refine Jcg (Pu_load Fl.h rfl (fun _ e => by rw [e]; exact hb11.ld rfl)) rfl ?_)
    refine TL_appendRow Us.h Inf.h rfl rfl rfl TnC_one rfl rfl (RowO.new (l := []) rfl hown11 hg11 hz11) (h0.2.2.row.ext (E10.ext e11)) e11.size (by simp only [List.length_nil]; omega) rfl ?_
    intro w12 vt c12 hot12
    rw [List.nil_append] at hot12
    have c12' : Ext w10 w12 := Ext.then_iv e11 c12 (Nat.le_refl _)
    have hs12 := c12'.size
    have hb12 := hb10.ext c12'
    have hb212 := hb210.ext c12'
    have hok12 := hok10.ext c12'
    have hx12 := hx10.ext c12'
    repeat' ((apply Jcg; (apply Jbl; exact Us.h; exact rfl; exact Sz.h; exact rfl); exact rfl))
    refine TL_store rfl rfl Sz.h hot12.rd.one hb12 rfl ?_
    intro w13 c13 hz13 hb13
    replace hb13 : Blk w13 g1 33 (dskC d vn vk vt) := hb13
    have hb213 := hb212.ch c13 (by simp only [Iv]; omega)
    have hok13 := hok12.ch c13 (by intro j _ _; simp only [Iv]; omega)
    have hot13 := hot12.ch c13 (by intro j _ _; simp only [Iv]; omega)
    have hx13 := hx12.ch c13 (fun b hb => by have := hbk6 b hb; simp only [Iv]; omega)
    have E13 : Ext w w13 := Ext.then_iv (E10.ext c12') c13 (by omega)
    repeat' (first | apply Jbq | apply Jbr | apply Jbs | apply Jbt | refine Jcg (Pu_loadAgg (cs := dskC d vn vk vt) Us.h rfl Sz.h rfl (fun _ e j u hu => by rw [e, add0, hb13.cell]; exact hu)) rfl ?_)
    refine TL_storeAgg rfl rfl Sz.h (by show ((dskC d vn vk vt).all (·.oneCell')) = true; simp only [dskC, List.all_cons, List.all_nil, hx13.row.one, hok13.rd.one, hot13.rd.one]; rfl) hb213 rfl ?_
    intro w14 c14 hz14 hb14
    have hok14 := hok13.ch c14 (by intro j _ _; simp only [Iv]; omega)
    have hot14 := hot13.ch c14 (by intro j _ _; simp only [Iv]; omega)
    have hx14 := hx13.ch c14 (fun b hb => by have := hbk6 b hb; simp only [Iv]; omega)
    repeat' (first | apply Jbq | apply Jbr | apply Jbu)
    exact TR_of (resA rfl rfl hb14 Us.h rfl Sz.h) ⟨vn, vk, vt, rfl, Ext.then_iv E13 c14 (by omega), (ODk.of (m1 := w6.heap.size) ⟨ys, hys, hx14, hbk6⟩ hok14 hot14 (by omega) (by omega) (by omega) (by omega) (by omega) (by omega)).wide (by omega) (by omega) (Nat.le_refl _)⟩
end Go.Proofs.YtggaghghclomkaaGreat

/- Contracts: the nodes that a directory links. -/
namespace Go.Proofs.YtggaghghclomkaaGreat
open Go.RowKit
/-- A node's contents are slices. -/
def SlN (d : Nd) : Prop := (∃ A m c, d.vb = .slice A m c) ∧ ∃ A m c, d.vs = .slice A m c
theorem NdOk.sl {w : World} {lo hi : Nat} {d : Nd} (h : NdOk w lo hi d) : SlN d := by
  obtain ⟨⟨A, c, h1, _⟩, ⟨A', c', h2, _⟩⟩ := h
  exact ⟨⟨A, _, c, h1⟩, ⟨A', _, c', h2⟩⟩
theorem SlN.one {d : Nd} (h : SlN d) : ∀ u ∈ NdC d, u.oneCell' = true := by
  obtain ⟨⟨A, m, c, h1⟩, ⟨A', m', c', h2⟩⟩ := h
  intro u hu
  simp [NdC] at hu
  rcases hu with rfl | rfl | rfl
  · rfl
  · rw [h1]; rfl
  · rw [h2]; rfl
theorem nd_new {w1 : World} {g n : Nat} {d : Nd} {e : TypeId} {w : World} {us : List Value} (h : Own w1 g (g + 1) e 3 (some ⟨g, 0, none⟩) n n us) (hu : us = NdC d) (hn : n = 1) (hg : g = w.heap.size) (hz : w1.heap.size = g + 1) : RowO NdC e 3 w1 w.heap.size w1.heap.size (.slice (some ⟨g, 0, none⟩) n n) [d] :=
  RowO.new (by rw [hn]; rfl) (by rw [show cellsL NdC [d] = NdC d by simp [cellsL], ← hu]; exact h) hg hz
section
variable {α : Type} {f : α → List Value} {e : TypeId} {P : Program} {L : List Oper} {Q : Exit → Act → World → Prop} {n d : Nat} {l : Env} {w : World} {rest : List Oper} {ty : TypeId} {pos : String} {af : Array Edge} {v v2 : Value} {x y : Operand} {t : TypeId}
/-- Own records are appended to, by records of one cell each field. -/
theorem TL_appendRow1 {lo hi lo2 hi2 size bytes : Nat} {z : Value} {s s2 : List α} (ht : P.underlying t = some (.slice e)) (hi0 : (P.info? e).map (fun i => (i.zero, i.size, i.bytes)) = some (some z, size, bytes)) (hzs : z.cells.size = size) (hpos : Nat.blt 0 size = true) (hby : Nat.ble bytes 1024 = true)
    (hone : ∀ u ∈ cellsL f s2, u.oneCell' = true) (hx : ev l x = some v) (hy : ev l y = some v2) (ho : RowO f e size w lo hi v s) (hr : RowR f size w lo2 hi2 v2 s2)
    (hlo : lo ≤ w.heap.size) (hm : s.length + s2.length ≤ 1073741824) (hn : Nat.blt d n = true)
    (h : ∀ w' v', Ch (Iv lo hi) w w' → RowO f e size w' lo w'.heap.size v' (s ++ s2) → TL P L Q rest n ((d, v') :: l) w') :
    TL P L Q (⟨some d, .call { callee := .builtin .append, args := #[x, y], argTypes := #[t, t] }, ty, pos, af, none⟩ :: rest) n l w := by
  obtain ⟨A, c, rfl, ho⟩ := ho
  obtain ⟨A2, c2, rfl, _, hr⟩ := hr
  have hb : (s.length + s2.length) * bytes ≤ 140737488355328 := Nat.le_trans (Nat.mul_le_mul hm (Nat.le_of_ble_eq_true hby)) (by decide)
  refine TL_append ht hi0 hzs hpos hx hy ho hr hone hlo hb (by omega) hn ?_
  intro w1 hi1 A1 c1 hch h1 h2 h3 hown
  have hz := hch.size
  have hh := ho.hi_le
  exact h w1 _ hch ⟨A1, c1, by rw [List.length_append], (hown.wide (Nat.le_refl _) (by omega) (Nat.le_refl _)).cast (by rw [List.length_append]) (cellsL_append _ _).symm⟩
end
/-- The nodes whose numbers are in s. -/
def only (ds : List Nd) (s : List Int) : List Nd := ds.filter fun x => decide (x.id ∈ s)
def onlyP (l : List NodeP) (s : List Int) : List NodeP := l.filter fun p => decide (p.1 ∈ s)
theorem only_map (ds : List Nd) (s : List Int) : (only ds s).map NdP = onlyP (ds.map NdP) s := by
  unfold only onlyP
  rw [List.filter_map]
  rfl
theorem only_take (ds : List Nd) (s : List Int) (k : Nat) (h : k < ds.length) : only (ds.take (k + 1)) s = if ds[k].id ∈ s then only (ds.take k) s ++ [ds[k]] else only (ds.take k) s := by
  unfold only
  rw [List.take_succ_eq_append_getElem h, List.filter_append]
  by_cases e : ds[k].id ∈ s <;> simp [e]
theorem only_length (ds : List Nd) (s : List Int) : (only ds s).length ≤ ds.length := List.length_filter_le _ _
attribute [local irreducible] TL TC TN TX TR TQ TA Pu Ret
set_option maxRecDepth 100000 in
set_option maxHeartbeats 4000000 in
theorem only_c {w : World} {g lo hi lo2 hi2 c : Nat} {A : Option Addr} {d : DiskP} {ds : List Nd} {sk st vk : Value} {L : List LkD} (hb : Blk w g 33 (dskC d (.slice A ds.length c) sk st)) (hr : Rd w lo hi 3 A ds.length (cellsL NdC ds)) (hsl : ∀ x ∈ ds, SlN x)
    (hk : RowR LkC 2 w lo2 hi2 vk L) (hL : L.length ≤ 1000) (hn : ds.length ≤ 1000) (hid : ∀ x ∈ L, -9223372036854775808 ≤ x.id ∧ x.id ≤ 9223372036854775807) (hid2 : ∀ x ∈ ds, -9223372036854775808 ≤ x.id ∧ x.id ≤ 9223372036854775807) :
    Ret Tryz.prog 68 #[.pointer (some ⟨g, 0, none⟩), vk] w fun v w' => v = .tuple #[] ∧ Ch (Iv g (g + 1)) w w' ∧ ∃ vn, Blk w' g 33 (dskC d vn vk (.slice none 0 0)) ∧ RowO NdC 98 3 w' w.heap.size w'.heap.size vn (only ds (L.map (·.id))) := by
  obtain ⟨Ak, ck, rfl, hck, hrk⟩ := hk
  have hgl := hb.lt
  refine Ret_enter Tryz.func68 rfl rfl rfl ?_
  repeat' (first | apply Jbs | apply Jbt)
  refine TL_makeMap rfl ?_
  intro w1 e1 hz1 _ hM1
  obtain ⟨b, hbb⟩ : ∃ b, b = w.heap.size := ⟨_, rfl⟩
  rw [← hbb] at hM1 ⊢
  repeat' (first | apply Jbq | apply Jbr | apply Jbs | apply Jbt | apply Jby | (apply Jcg; (first | exact Jaa rfl | exact Jab rfl | exact Jac Us.h rfl); exact rfl))
  refine TC_loop (ι := Nat) (fun k => [(0, .pointer (some ⟨g, 0, none⟩)), (1, .slice Ak L.length ck), (4, .map (some b)), (11, .slice Ak L.length ck), (12, I L.length), (13, I k)]) (fun k w' => k ≤ L.length ∧ Ext w w' ∧ MS w' b k ((L.take k).map (·.id))) (fun k => L.length - k) 0 (subEnv_cons rfl (subEnv_cons rfl (subEnv_cons rfl (subEnv_cons rfl (subEnv_cons rfl (subEnv_cons rfl (subEnv_nil _))))))) ⟨Nat.zero_le _, e1, hM1⟩ ?_
  intro k w2 ⟨hk2, e2, hM2⟩
  have hbl := World.ownsMap.lt hM2
  repeat' (first | apply Jbq | apply Jbr | apply Jbs | apply Jbt | (apply Jcg; exact Jad rfl rfl; exact rfl))
  refine Jcx rfl (fun hlt0 => ?_) (fun hge => ?_)
  · have hlt : k < L.length := by omega
    obtain ⟨ad, rfl, hcell⟩ := Rd.elem LkC_len (hrk.ext e2) hlt
    repeat' (first | apply Jbq | apply Jbr | apply Jbs | apply Jbt | apply Jby | apply Jbz | (apply Jcg; (first | exact Jaa rfl | exact Jar Us.h Sz.h rfl rfl (by omega) | (apply Jbl; exact Us.h; exact rfl; exact Sz.h; exact rfl)); exact rfl) | refine Jcg (Pu_loadAgg (cs := LkC L[k]) Us.h rfl Sz.h rfl (fun _ e j u hu => by rw [e]; exact hcell j u hu)) rfl ?_ | (refine TL_alloc Zs.h rfl rfl ?_; intro w3 g3 e3 hg3 hz3 hb3) | (refine TL_storeAgg rfl rfl Sz.h rfl hb3 rfl ?_; intro w4 c4 hz4 hb4) | refine Jcg (Pu_load Fl.h rfl (fun _ e => by rw [e]; exact hb4.ld rfl)) rfl ?_)
    have hM4 := (hM2.ext e3).ch c4 (by simp only [Iv]; omega)
    refine TL_setPut rfl rfl rfl hM4 (hid _ (List.getElem_mem hlt)) (by omega) ?_
    intro w5 c5 hz5 hM5
    repeat' (first | apply Jbq | apply Jbr | apply Jbt | apply Jbx | (apply Jcg; (first | exact Jaa rfl | exact Jaf rfl rfl (by omega)); exact rfl))
    exact TN_round (k + 1) (subEnv_cons rfl (subEnv_cons rfl (subEnv_cons rfl (subEnv_cons rfl (subEnv_cons rfl (subEnv_cons rfl (subEnv_nil _))))))) ⟨hlt, Ext.then_iv (Ext.then_iv (e2.ext e3) c4 (by have := e2.size; omega)) c5 (by omega), by rw [List.take_succ_eq_append_getElem hlt, List.map_append]; exact hM5⟩ (by omega)
  · obtain rfl : k = L.length := by omega
    rw [List.take_length] at hM2
    have hb2 := hb.ext e2
    have hs2 := e2.size
    repeat' (first | apply Jbq | apply Jbr | apply Jbs | apply Jbt | apply Jby | apply Jca | apply Jcb | apply Jcc | (apply Jcg; (first | exact Jaa rfl | exact Jab rfl | exact Jac Us.h rfl | exact Jba rfl | (apply Jbl; exact Us.h; exact rfl; exact Sz.h; exact rfl)); exact rfl) | refine Jcg (Pu_load Fl.h rfl (fun _ e => by rw [e]; exact hb2.ld rfl)) rfl ?_)
    obtain ⟨z2, hz2⟩ : ∃ z, z = w2.heap.size := ⟨_, rfl⟩
    refine TC_loop (ι := Nat × Value) (fun x => [(0, .pointer (some ⟨g, 0, none⟩)), (1, .slice Ak L.length ck), (4, .map (some b)), (7, x.2), (24, .slice A ds.length c), (25, I ds.length), (26, I x.1)])
      (fun x w' => x.1 ≤ ds.length ∧ Ext w w' ∧ MS w' b L.length (L.map (·.id)) ∧ z2 ≤ w'.heap.size ∧ RowO NdC 98 3 w' z2 w'.heap.size x.2 (only (ds.take x.1) (L.map (·.id)))) (fun x => ds.length - x.1) (0, .slice none 0 0) (subEnv_cons rfl (subEnv_cons rfl (subEnv_cons rfl (subEnv_cons rfl (subEnv_cons rfl (subEnv_cons rfl (subEnv_cons rfl (subEnv_nil _)))))))) ⟨Nat.zero_le _, e2, hM2, by omega, by rw [hz2]; exact RowO.nil _ _ (Nat.le_refl _)⟩ ?_
    rintro ⟨k, vo⟩ w3 ⟨hk3, e3, hM3, hz3, ho3⟩
    simp only at hk3 ho3
    show TC _ _ _ _ [(0, .pointer (some ⟨g, 0, none⟩)), (1, .slice Ak L.length ck), (4, .map (some b)), (7, vo), (24, .slice A ds.length c), (25, I ds.length), (26, I (k : Int))] w3
    have hs3 := e3.size
    repeat' (first | apply Jbq | apply Jbr | apply Jbs | apply Jbt | (apply Jcg; exact Jad rfl rfl; exact rfl))
    refine Jcx rfl (fun hlt0 => ?_) (fun hge => ?_)
    · have hlt : k < ds.length := by omega
      obtain ⟨ad, rfl, hcell⟩ := Rd.elem NdC_len (hr.ext e3) hlt
      have hmem := List.getElem_mem hlt
      have hsx := hsl _ hmem
      have hix := hid2 _ hmem
      have htk := only_take ds (L.map (·.id)) k hlt
      have hol := only_length (ds.take k) (L.map (·.id))
      rw [List.length_take] at hol
      obtain ⟨x, hx⟩ : ∃ x, x = ds[k] := ⟨_, rfl⟩
      rw [← hx] at hcell hsx hix htk
      obtain ⟨id, body, safe, vb, vs⟩ := x
      obtain ⟨⟨A1, m1, c1, h1⟩, ⟨A2, m2, c2, h2⟩⟩ := hsx
      simp only at h1 h2 hix htk
      subst h1 h2
      replace hcell : ∀ j u, [I id, .slice A1 m1 c1, .slice A2 m2 c2][j]? = some u → w3.cell? ((ad.add (k * 3)).add j) = some u := hcell
      repeat' (first | apply Jbq | apply Jbr | apply Jbs | apply Jbt | apply Jby | apply Jbz | (apply Jcg; (first | exact Jaa rfl | exact Jar Us.h Sz.h rfl rfl (by omega) | (apply Jbl; exact Us.h; exact rfl; exact Sz.h; exact rfl)); exact rfl) | refine Jcg (Pu_loadAgg (cs := [I id, .slice A1 m1 c1, .slice A2 m2 c2]) Us.h rfl Sz.h rfl (fun _ e j u hu => by rw [e]; exact hcell j u hu)) rfl ?_ | (refine TL_alloc Zs.h rfl rfl ?_; intro w4 g4 e4 hg4 hz4 hb4) | (refine TL_storeAgg rfl rfl Sz.h rfl hb4 rfl ?_; intro w5 c5 hz5 hb5) | refine Jcg (Pu_load Fl.h rfl (fun _ e => by rw [e]; exact hb5.ld rfl)) rfl ?_)
      have hM5 := (hM3.ext e4).ch c5 (by simp only [Iv]; omega)
      have ho5 := (ho3.ext e4).ch c5 (by intro j _ _; simp only [Iv]; omega)
      have E5 : Ext w w5 := Ext.then_iv (e3.ext e4) c5 (by omega)
      repeat' (first | apply Jbq | apply Jbr | (apply Jcg; exact Jak rfl rfl; exact rfl) | refine Jcg (Pu_setLook rfl rfl hix (fun w' e => ⟨L.length, by rw [e]; exact hM5⟩)) rfl ?_)
      refine Jcx rfl (fun hc => ?_) (fun hc => ?_)
      · have hin : id ∈ L.map (·.id) := by
          by_cases h : id ∈ L.map (·.id)
          · exact h
          · rw [if_neg h] at hc; exact absurd hc (by decide)
        rw [if_pos hin] at htk
        repeat' (first | apply Jbt | (apply Jcg; exact Jaa rfl; exact rfl) | refine Jcg (Pu_loadAgg (cs := [I id, .slice A1 m1 c1, .slice A2 m2 c2]) Us.h rfl Sz.h rfl (fun _ e j u hu => by rw [e, add0, hb5.cell]; exact hu)) rfl ?_)
        refine TL_buildSlice Us.h Zi.h rfl rfl rfl rfl (fillN id A1 A2 m1 c1 m2 c2) rfl rfl ?_
        intro w6 g6 e6 hg6 hz6 hown6
        have hnew := nd_new (d := ⟨id, body, safe, .slice A1 m1 c1, .slice A2 m2 c2⟩) hown6 rfl rfl hg6 hz6
        skip
        refine TL_appendRow1 Us.h inf98 rfl rfl rfl (by intro u hu; simp [cellsL, NdC] at hu; rcases hu with rfl | rfl | rfl <;> rfl) rfl rfl (ho5.ext e6) hnew.rd (by omega) (by simp only [List.length_cons, List.length_nil]; omega) rfl ?_
        intro w7 v7 c7 ho7
        have hM7 := (hM5.ext e6).ch c7 (by simp only [Iv]; omega)
        have hs7 := c7.size
        repeat' (first | apply Jbq | apply Jbr | apply Jbt | apply Jbx | (apply Jcg; (first | exact Jaa rfl | exact Jab rfl | exact Jaf rfl rfl (by omega)); exact rfl))
        refine TN_round (k + 1, v7) (subEnv_cons rfl (subEnv_cons rfl (subEnv_cons rfl (subEnv_cons rfl (subEnv_cons rfl (subEnv_cons rfl (subEnv_cons rfl (subEnv_nil _)))))))) ⟨by simp only; omega, Ext.then_iv (E5.ext e6) c7 (by omega), hM7, by omega, ?_⟩ (by simp only; omega)
        simp only
        rw [htk]
        exact ho7
      · have hin : id ∉ L.map (·.id) := fun h => hc (by rw [if_pos h])
        rw [if_neg hin] at htk
        repeat' (first | apply Jbq | apply Jbr | apply Jbt | apply Jbx | apply Jbz | (apply Jcg; (first | exact Jaa rfl | exact Jaf rfl rfl (by omega)); exact rfl))
        refine TN_round (k + 1, vo) (subEnv_cons rfl (subEnv_cons rfl (subEnv_cons rfl (subEnv_cons rfl (subEnv_cons rfl (subEnv_cons rfl (subEnv_cons rfl (subEnv_nil _)))))))) ⟨by simp only; omega, E5, hM5, by omega, ?_⟩ (by simp only; omega)
        simp only
        rw [htk]
        exact ho5.wide (Nat.le_refl _) (by omega) (Nat.le_refl _)
    · obtain rfl : k = ds.length := by omega
      rw [List.take_length] at ho3
      have hb3 := hb.ext e3
      repeat' (first | apply Jbr | apply Jbt | apply Jca | apply Jcb | apply Jcc | (apply Jcg; (first | exact Jaa rfl | exact Jba rfl | (apply Jbl; exact Us.h; exact rfl; exact Sz.h; exact rfl)); exact rfl))
      refine TL_store rfl rfl Sz.h ho3.rd.one hb3 rfl ?_
      intro w4 c4 hz4 hb4
      repeat' ((apply Jcg; (first | exact Jba rfl | (apply Jbl; exact Us.h; exact rfl; exact Sz.h; exact rfl)); exact rfl))
      refine TL_store rfl rfl Sz.h rfl hb4 rfl ?_
      intro w5 c5 hz5 hb5
      repeat' ((apply Jcg; (first | exact Jba rfl | (apply Jbl; exact Us.h; exact rfl; exact Sz.h; exact rfl)); exact rfl))
      refine TL_store rfl rfl Sz.h rfl hb5 rfl ?_
      intro w6 c6 hz6 hb6
      repeat' (apply Jbq)
      refine TN_of (res0 rfl) ⟨rfl, (((Ch.mono e3 (fun _ t => t.elim)).then c4).then c5).then c6, vo, hb6, ?_⟩
      have ho6 := ((ho3.ch c4 (by intro j _ _; simp only [Iv]; omega)).ch c5 (by intro j _ _; simp only [Iv]; omega)).ch c6 (by intro j _ _; simp only [Iv]; omega)
      exact ho6.wide (by omega) (by omega) (Nat.le_refl _)
end Go.Proofs.YtggaghghclomkaaGreat

/- The disk that is none, and nodes that a call owns of which one is put. No condition. -/
namespace Go.Proofs.YtggaghghclomkaaGreat
open Go.RowKit
def noDk : DiskP := ⟨0, 0, 0, [], [], []⟩
theorem totD_no : totD noDk = 0 := by simp [totD, noDk, totNd, totLk, totTn]
theorem ODk.nil {w : World} {lo hi : Nat} (h : hi ≤ w.heap.size) : ODk w lo hi noDk (.slice none 0 0) (.slice none 0 0) (.slice none 0 0) :=
  ⟨h, [], rfl, ONx.empty w, (RowO.nil w 0 (Nat.zero_le _)).x, (RowO.nil w 0 (Nat.zero_le _)).x, by simp [bksN, blk], by simp [bksN, blk]⟩
theorem nodes_split {es : List Nd} {k : Nat} (hk : k < es.length) (x' : Nd) : es.set k x' = es.take k ++ x' :: es.drop (k + 1) := by
  rw [List.set_eq_take_append_cons_drop, if_pos hk]
theorem nodes_self {es : List Nd} {k : Nat} (hk : k < es.length) : es = es.take k ++ es[k] :: es.drop (k + 1) := by
  conv => lhs; rw [← List.take_append_drop k es, List.drop_eq_getElem_cons hk]
theorem cells_safe {es : List Nd} {k : Nat} (hk : k < es.length) {id : Int} {body safe s : List UInt8} {vb vs v : Value} (hx : es[k] = ⟨id, body, safe, vb, vs⟩) : (cellsL NdC es).set (k * 3 + 2) v = cellsL NdC (es.set k ⟨id, body, s, vb, v⟩) := by
  have hl : (cellsL NdC (es.take k)).length = k * 3 := by rw [cellsL_length NdC_len, List.length_take]; omega
  rw [nodes_split hk, cells_mid]
  conv => lhs; rw [nodes_self hk, hx, cells_mid]
  rw [List.set_append_right _ _ (by omega), hl, Nat.add_sub_cancel_left]
  rfl
theorem cells_body {es : List Nd} {k : Nat} (hk : k < es.length) {id : Int} {body safe s : List UInt8} {vb vs v : Value} (hx : es[k] = ⟨id, body, safe, vb, vs⟩) : (cellsL NdC es).set (k * 3 + 1) v = cellsL NdC (es.set k ⟨id, s, safe, v, vs⟩) := by
  have hl : (cellsL NdC (es.take k)).length = k * 3 := by rw [cellsL_length NdC_len, List.length_take]; omega
  rw [nodes_split hk, cells_mid]
  conv => lhs; rw [nodes_self hk, hx, cells_mid]
  rw [List.set_append_right _ _ (by omega), hl, Nat.add_sub_cancel_left]
  rfl
theorem cells_put {es : List Nd} {k : Nat} (hk : k < es.length) (x' : Nd) : setL (cellsL NdC es) (k * 3) (NdC x') = cellsL NdC (es.set k x') := by
  have hl : (cellsL NdC (es.take k)).length = k * 3 := by rw [cellsL_length NdC_len, List.length_take]; omega
  rw [nodes_split hk, cells_mid]
  conv => lhs; rw [nodes_self hk, cells_mid]
  rw [setL_app _ _ _ _ hl (by simp [NdC])]
  simp [NdC]
theorem ONx.set {w w' : World} {g n c lo hi k : Nat} {es : List Nd} {x' : Nd} (hk : k < es.length) (h : ONx w (.slice (some ⟨g, 0, none⟩) n c) es) (hch : Ch (Iv g (g + 1)) w w') (hrow : RowO NdC 98 3 w' lo hi (.slice (some ⟨g, 0, none⟩) n c) (es.set k x'))
    (hx : OBx w x'.vb x'.body ∧ OBx w x'.vs x'.safe) (hn : (bkd x').Nodup) (hap : ∀ b ∈ bkd x', b ∈ bkd es[k] ∨ b ∉ bksN (.slice (some ⟨g, 0, none⟩) n c) es) : ONx w' (.slice (some ⟨g, 0, none⟩) n c) (es.set k x') := by
  have hnd := h.nd
  have hself := nodes_self hk
  have hg : bksN (.slice (some ⟨g, 0, none⟩) n c) es = g :: es.flatMap bkd := rfl
  rw [hg] at hnd hap
  have hnd2 := hnd
  rw [hself, List.flatMap_append, List.flatMap_cons, List.nodup_cons, List.nodup_append, List.nodup_append] at hnd2
  obtain ⟨hgn, hM, ⟨hX, hD, hXD⟩, hMX⟩ := hnd2
  have hgm : ∀ d ∈ es, g ∉ bkd d := fun d hd hb => (List.nodup_cons.1 hnd).1 (List.mem_flatMap.2 ⟨d, hd, hb⟩)
  have hgx : g ∉ bkd x' := fun hb => by
    rcases hap g hb with h1 | h1
    · exact hgm _ (List.getElem_mem hk) h1
    · exact h1 (List.mem_cons_self ..)
  have hnot : ∀ b ∈ bkd x', b ∉ (es.take k).flatMap bkd ∧ b ∉ (es.drop (k + 1)).flatMap bkd := fun b hb => by
    rcases hap b hb with h1 | h1
    · exact ⟨fun h2 => hMX b h2 b (List.mem_append.2 (.inl h1)) rfl, fun h2 => hXD b h1 b h2 rfl⟩
    · have hsub : ∀ d ∈ es, b ∉ bkd d := fun d hd h2 => h1 (List.mem_cons_of_mem _ (List.mem_flatMap.2 ⟨d, hd, h2⟩))
      exact ⟨fun h2 => by obtain ⟨d, hd, h3⟩ := List.mem_flatMap.1 h2; exact hsub d (List.mem_of_mem_take hd) h3, fun h2 => by obtain ⟨d, hd, h3⟩ := List.mem_flatMap.1 h2; exact hsub d (List.mem_of_mem_drop hd) h3⟩
  have hiv : ∀ b, b ≠ g → ¬ Iv g (g + 1) b := fun b hb h => by simp only [Iv] at h; omega
  refine ⟨hrow.x, fun d hd => ?_, ?_⟩
  · rcases List.mem_or_eq_of_mem_set hd with hd | rfl
    · have hok := h.ok d hd
      have hgd := hgm d hd
      exact ⟨hok.1.ch hch (fun b hb => hiv b (fun e => hgd (e ▸ List.mem_append.2 (.inl hb)))), hok.2.ch hch (fun b hb => hiv b (fun e => hgd (e ▸ List.mem_append.2 (.inr hb))))⟩
    · exact ⟨hx.1.ch hch (fun b hb => hiv b (fun e => hgx (e ▸ List.mem_append.2 (.inl hb)))), hx.2.ch hch (fun b hb => hiv b (fun e => hgx (e ▸ List.mem_append.2 (.inr hb))))⟩
  · show (g :: (es.set k x').flatMap bkd).Nodup
    rw [nodes_split hk, List.flatMap_append, List.flatMap_cons, List.nodup_cons, List.nodup_append, List.nodup_append]
    refine ⟨fun hm => ?_, hM, ⟨hn, hD, fun a ha b hb e => (hnot a ha).2 (e ▸ hb)⟩, fun a ha b hb e => ?_⟩
    · rw [List.mem_append, List.mem_append] at hm
      rcases hm with hm | hm | hm
      · exact hgn (List.mem_append.2 (.inl hm))
      · exact hgx hm
      · exact hgn (List.mem_append.2 (.inr (List.mem_append.2 (.inr hm))))
    · subst e
      rcases List.mem_append.1 hb with hb | hb
      · exact (hnot a hb).1 ha
      · exact hMX a ha a (List.mem_append.2 (.inr hb)) rfl
/-- The blocks behind a put. -/
theorem bks_set {R : Nat → Prop} {v : Value} {es : List Nd} {k : Nat} {x' : Nd} (h : ∀ b ∈ bksN v es, R b) (hx : ∀ b ∈ bkd x', R b) : ∀ b ∈ bksN v (es.set k x'), R b := by
  intro b hb
  rcases List.mem_append.1 hb with hb | hb
  · exact h b (List.mem_append.2 (.inl hb))
  · obtain ⟨d, hd, hb2⟩ := List.mem_flatMap.1 hb
    rcases List.mem_or_eq_of_mem_set hd with hd | hd
    · exact h b (List.mem_append.2 (.inr (List.mem_flatMap.2 ⟨d, hd, hb2⟩)))
    · exact hx b (hd ▸ hb2)
theorem flatMap_sub (p : Nd → Bool) : ∀ ds : List Nd, ((ds.filter p).flatMap bkd).Sublist (ds.flatMap bkd)
  | [] => List.Sublist.refl _
  | d :: r => by
    rw [List.filter_cons]
    split
    · rw [List.flatMap_cons, List.flatMap_cons]; exact List.Sublist.append (List.Sublist.refl _) (flatMap_sub p r)
    · rw [List.flatMap_cons]; exact (flatMap_sub p r).trans (List.sublist_append_right _ _)
/-- Own nodes of which some are kept, in a new row. -/
theorem ONx.keep {w w' : World} {v v' : Value} {ds : List Nd} {p : Nd → Bool} {lo hi : Nat} {T : Nat → Prop} (h : ONx w v ds) (hr : RowO NdC 98 3 w' lo hi v' (ds.filter p)) (c : Ch T w w') (hT : ∀ b ∈ bksN v ds, ¬ T b) (hm : ∀ b ∈ bksN v ds, b < lo) : ONx w' v' (ds.filter p) := by
  have hnd := h.nd
  unfold bksN at hnd
  rw [List.nodup_append] at hnd
  have hsub := flatMap_sub p ds
  refine ⟨hr.x, fun d hd => ?_, ?_⟩
  · have hd' := (List.mem_filter.1 hd).1
    have hok := h.ok d hd'
    exact ⟨hok.1.ch c (fun b hb => hT b (List.mem_append.2 (.inr (List.mem_flatMap.2 ⟨d, hd', List.mem_append.2 (.inl hb)⟩)))), hok.2.ch c (fun b hb => hT b (List.mem_append.2 (.inr (List.mem_flatMap.2 ⟨d, hd', List.mem_append.2 (.inr hb)⟩))))⟩
  · unfold bksN
    rw [List.nodup_append]
    refine ⟨?_, hnd.2.1.sublist hsub, fun a ha b hb e => ?_⟩
    · obtain ⟨A, c, rfl, _⟩ := hr
      rcases A with _ | ad <;> simp [blk]
    · have h1 := hr.bin a ha
      have h2 := hm b (List.mem_append.2 (.inr (hsub.subset hb)))
      omega
theorem bks_keep {w' : World} {v v' : Value} {ds : List Nd} {p : Nd → Bool} {lo hi lo2 hi2 : Nat} (hr : RowO NdC 98 3 w' lo hi v' (ds.filter p)) (h : ∀ b ∈ bksN v ds, lo2 ≤ b ∧ b < hi2) : ∀ b ∈ bksN v' (ds.filter p), (lo ≤ b ∧ b < hi) ∨ (lo2 ≤ b ∧ b < hi2) := by
  intro b hb
  rcases List.mem_append.1 hb with hb | hb
  · exact .inl (hr.bin b hb)
  · exact .inr (h b (List.mem_append.2 (.inr ((flatMap_sub p ds).subset hb))))
/-- A disk of own nodes and own links, without turns. -/
theorem ODk.mk2 {w : World} {lo hi l1 l2 : Nat} {d : DiskP} {sn sk : Value} {es : List Nd} (hs : hi ≤ w.heap.size) (hm : es.map NdP = d.nodes) (hN : ONx w sn es) (hk : RowO LkC 162 2 w l1 l2 sk d.kept) (ht : d.turns = []) (hb : ∀ b ∈ bksN sn es, lo ≤ b ∧ b < hi ∧ b ∉ blk sk) (h1 : lo ≤ l1) (h2 : l2 ≤ hi) :
    ODk w lo hi d sn sk (.slice none 0 0) := by
  have hkb := hk.bin
  refine ⟨hs, es, hm, hN, hk.x, by rw [ht]; exact (RowO.nil w 0 (Nat.zero_le _)).x, ?_, fun b hb' => ?_⟩
  · rw [show blk (.slice none 0 0) = [] from rfl, List.append_nil, List.nodup_append]
    exact ⟨hN.nd, blk_nodup _, fun a ha b hb' e => (hb a ha).2.2 (e ▸ hb')⟩
  · rw [show blk (.slice none 0 0) = [] from rfl, List.append_nil] at hb'
    rcases List.mem_append.1 hb' with h | h
    · exact ⟨(hb b h).1, (hb b h).2.1⟩
    · have := hkb b h; omega
/-! ### one element after the other is turned -/
theorem upd_step {α : Type} (f : Nat → α → α) (l : List α) (k : Nat) (hk : k < l.length) : ((l.take k).mapIdx f ++ l.drop k).set k (f k l[k]) = (l.take (k + 1)).mapIdx f ++ l.drop (k + 1) := by
  have h1 : ((l.take k).mapIdx f).length = k := by rw [List.length_mapIdx, List.length_take]; omega
  have h2 : (l.take k).length = k := by rw [List.length_take]; omega
  rw [List.set_append_right _ _ (by omega), h1, Nat.sub_self, List.drop_eq_getElem_cons hk, List.set_cons_zero, List.take_succ_eq_append_getElem hk, List.mapIdx_append, h2]
  simp
theorem upd_get {α : Type} (f : Nat → α → α) (l : List α) (k : Nat) (hk : k < l.length) : ((l.take k).mapIdx f ++ l.drop k)[k]? = some l[k] := by
  have h1 : ((l.take k).mapIdx f).length = k := by rw [List.length_mapIdx, List.length_take]; omega
  rw [List.getElem?_append_right (by omega), h1, Nat.sub_self, List.drop_eq_getElem_cons hk]
  rfl
theorem upd_all {α : Type} (f : Nat → α → α) (l : List α) : (l.take l.length).mapIdx f ++ l.drop l.length = l.mapIdx f := by simp
end Go.Proofs.YtggaghghclomkaaGreat

/- Contracts: everything is made safe, by the program. -/
namespace Go.Proofs.YtggaghghclomkaaGreat
open Go.RowKit
/-! ### the plain law -/
theorem DOk.idB {d : DiskP} (h : DOk d) : ∀ i ∈ nIds d.nodes, -9223372036854775808 ≤ i ∧ i ≤ 9223372036854775807 := by
  intro i hi
  obtain ⟨p, hp, rfl⟩ := List.mem_map.1 hi
  obtain ⟨j, hj, rfl⟩ := List.mem_iff_getElem.1 hp
  have h1 := h.node j hj
  have hB := h.base
  unfold dBase at hB
  omega
theorem ONx.open {w : World} {v : Value} {es : List Nd} {k : Nat} (h : ONx w v es) (hk : k < es.length) : ∃ g c lo hi, v = .slice (some ⟨g, 0, none⟩) es.length c ∧ Own w lo hi 98 3 (some ⟨g, 0, none⟩) es.length c (cellsL NdC es) := by
  obtain ⟨⟨lo, hi, ⟨A, c, rfl, ho⟩, _⟩, _, _⟩ := h
  rcases ho.head with rfl | ⟨g, rfl, _, _⟩
  · obtain ⟨ad, h, _⟩ := ho.rd.at_ (by omega); cases h
  · exact ⟨g, c, lo, hi, rfl, ho⟩
theorem OBx.sl {w : World} {v : Value} {s : List UInt8} (h : OBx w v s) : ∃ A c lo hi, v = .slice A s.length c ∧ Own w lo hi 5 1 A s.length c (u8s s) := by
  obtain ⟨lo, hi, ⟨A, c, rfl, ho⟩, _⟩ := h
  exact ⟨A, c, lo, hi, rfl, ho⟩
theorem bkd_in {v : Value} {es : List Nd} {k : Nat} (hk : k < es.length) : ∀ b ∈ bkd es[k], b ∈ bksN v es := fun _ hb => List.mem_append.2 (.inr (List.mem_flatMap.2 ⟨_, List.getElem_mem hk, hb⟩))
theorem onlyP_mem {l : List NodeP} {s : List Int} {p : NodeP} (h : p ∈ onlyP l s) : p ∈ l := (List.mem_filter.1 h).1
theorem onlyP_length (l : List NodeP) (s : List Int) : (onlyP l s).length ≤ l.length := List.length_filter_le _ _
theorem pUsed_only (s : List Int) : ∀ l : List NodeP, pUsed (onlyP l s) ≤ pUsed l
  | [] => Int.le_refl _
  | p :: r => by
    have h := pUsed_only s r
    have h0 : 0 ≤ NdM p := by unfold NdM; omega
    unfold onlyP at *
    rw [List.filter_cons]
    split
    · simp only [pUsed, List.map_cons, List.sum_cons] at *; omega
    · simp only [pUsed, List.map_cons, List.sum_cons] at *; omega
attribute [local irreducible] TL TC TN TX TR TQ TA Pu Ret
theorem pIds_flat (d : DiskP) (L : List LkD) : pIds { d with kept := L, turns := [] } = L.map (·.id) := by simp [pIds]
end Go.Proofs.YtggaghghclomkaaGreat

/- What an operation makes of a disk: the plain law. No condition. -/
namespace Go.Proofs.YtggaghghclomkaaGreat
open Go.RowKit
/-- Where the node of an operation's name stands. -/
def opAt (d : DiskP) (o : OpD) : Int := nAt d.nodes (dFind (pDir d) o.name)
def pCode (d : DiskP) (o : OpD) : Int :=
  if d.fuse = 0 then 2
  else if o.kind ≠ 7 ∧ dHas (pDir d) o.name = decide (o.kind = 1) then 3
  else if (o.kind = 1 ∧ (8 ≤ d.nodes.length ∨ 1000000 ≤ d.next)) ∨ ((o.kind = 1 ∨ o.kind = 5 ∨ o.kind = 6) ∧ 40 ≤ d.turns.length) then 4
  else if o.kind = 4 ∧ ((bodyAt d (opAt d o)).length : Int) < o.size then 6
  else if o.kind = 5 ∧ o.to = o.name then 6
  else 0
def fuseOf (d : DiskP) : Int := if 0 < d.fuse then d.fuse - 1 else d.fuse
def ndAt (d : DiskP) (o : OpD) : NodeP := d.nodes.getD (opAt d o).toNat (0, [], [])
def ndPut (d : DiskP) (o : OpD) (p : NodeP) : List NodeP := d.nodes.set (opAt d o).toNat p
/-- How many bytes still fit. -/
def fitsN (d : DiskP) (o : OpD) : Int := min (NdM (ndAt d o) + d.room - pUsed d.nodes - (ndAt d o).2.1.length) o.data.length
def doD (d : DiskP) (o : OpD) : DiskP :=
  if o.kind = 1 then { d with fuse := fuseOf d, next := d.next + 1, nodes := d.nodes ++ [(d.next, [], [])], turns := d.turns ++ [⟨1, o.name, [], d.next⟩] }
  else if o.kind = 2 then { d with fuse := fuseOf d, nodes := ndPut d o ((ndAt d o).1, (ndAt d o).2.1 ++ o.data.take (fitsN d o).toNat, (ndAt d o).2.2) }
  else if o.kind = 3 then { d with fuse := fuseOf d, nodes := ndPut d o ((ndAt d o).1, (ndAt d o).2.1, (ndAt d o).2.1) }
  else if o.kind = 4 then { d with fuse := fuseOf d, nodes := ndPut d o ((ndAt d o).1, (ndAt d o).2.1.take o.size.toNat, (ndAt d o).2.2) }
  else if o.kind = 7 then { d with fuse := fuseOf d, nodes := onlyP d.nodes ((pDir d).map (·.id)), kept := pDir d, turns := [] }
  else { d with fuse := fuseOf d, turns := d.turns ++ [⟨o.kind, o.name, o.to, 0⟩] }
def doC (d : DiskP) (o : OpD) : Int := if o.kind = 2 ∧ fitsN d o < o.data.length then 5 else 0
open Classical in
noncomputable def pDo (d : DiskP) (o : OpD) : DiskP × Int :=
  if DOk d ∧ pOp o = true then (if pCode d o = 0 then (doD d o, doC d o) else (d, pCode d o)) else (noDk, 1)
theorem pDo_no {d : DiskP} {o : OpD} (h : ¬ (DOk d ∧ pOp o = true)) : pDo d o = (noDk, 1) := by unfold pDo; exact if_neg h
theorem pDo_code {d : DiskP} {o : OpD} (h : DOk d) (h2 : pOp o = true) (h3 : pCode d o ≠ 0) : pDo d o = (d, pCode d o) := by unfold pDo; rw [if_pos ⟨h, h2⟩, if_neg h3]
theorem pDo_yes {d : DiskP} {o : OpD} (h : DOk d) (h2 : pOp o = true) (h3 : pCode d o = 0) : pDo d o = (doD d o, doC d o) := by unfold pDo; rw [if_pos ⟨h, h2⟩, if_pos h3]
theorem pOp_parts {o : OpD} (h : pOp o = true) : (1 ≤ o.kind ∧ o.kind ≤ 7) ∧ (o.kind = 7 → o.name = []) ∧ (o.kind ≠ 7 → pName o.name = true) ∧ (o.kind = 5 → pName o.to = true) ∧ (o.kind ≠ 5 → o.to = []) ∧ (o.kind = 4 → 0 ≤ o.size ∧ o.size ≤ 60000) ∧ (o.kind ≠ 4 → o.size = 0) ∧ o.data.length ≤ 60000 ∧ (o.kind ≠ 2 → o.data = []) := by
  unfold pOp at h
  simp only [Bool.and_eq_true, decide_eq_true_eq] at h
  obtain ⟨⟨⟨⟨h1, h2⟩, h3⟩, h4⟩, h5, h6⟩ := h
  refine ⟨h1, fun e => ?_, fun e => ?_, fun e => ?_, fun e => ?_, fun e => ?_, fun e => ?_, h5, fun e => ?_⟩
  · rw [if_pos e] at h2; simpa using h2
  · rw [if_neg e] at h2; exact h2
  · rw [if_pos e] at h3; exact h3
  · rw [if_neg e] at h3; simpa using h3
  · rw [if_pos e] at h4; simpa using h4
  · rw [if_neg e] at h4; simpa using h4
  · exact List.eq_nil_of_length_eq_zero (h6.resolve_left e)
/-- A directory has no nameless link. -/
theorem DOk.noName {d : DiskP} (h : DOk d) : dHas (pDir d) [] = false := by
  cases hh : dHas (pDir d) [] with
  | false => rfl
  | true =>
    obtain ⟨x, hx, he, _⟩ := dFind_mem hh
    have h1 := h.dirName d.turns.length (Nat.le_refl _)
    rw [List.take_length] at h1
    have h2 := h1 x hx
    rw [he] at h2
    cases h2
theorem DOk.at0 {d : DiskP} (h : DOk d) : nAt d.nodes 0 = -1 := nAt_none (fun hm => by have := nIds_pos h.node 0 hm; omega)
/-- Where there is a link there is its node. -/
theorem DOk.opNode {d : DiskP} (h : DOk d) {o : OpD} (hh : dHas (pDir d) o.name = true) : ∃ i, ∃ hi : i < d.nodes.length, opAt d o = (i : Int) ∧ ndAt d o = d.nodes[i] := by
  obtain ⟨i, hi, h1, _⟩ := h.dirAt hh
  refine ⟨i, hi, h1, ?_⟩
  unfold ndAt opAt
  rw [h1, Int.toNat_natCast, List.getD_eq_getElem?_getD, List.getElem?_eq_getElem hi]
  rfl
/-- Where the code is nought, just an operation of a known name has its link. -/
theorem pCode_has {d : DiskP} {o : OpD} (h : pCode d o = 0) : d.fuse ≠ 0 ∧ (o.kind ≠ 7 → dHas (pDir d) o.name = !decide (o.kind = 1)) ∧ (o.kind = 1 → d.nodes.length < 8 ∧ d.next < 1000000) ∧ ((o.kind = 1 ∨ o.kind = 5 ∨ o.kind = 6) → d.turns.length < 40) ∧ (o.kind = 4 → o.size ≤ ((bodyAt d (opAt d o)).length : Int)) ∧ (o.kind = 5 → o.to ≠ o.name) := by
  unfold pCode at h
  split at h
  · omega
  · rename_i h1
    split at h
    · omega
    · rename_i h2
      split at h
      · omega
      · rename_i h3
        split at h
        · omega
        · rename_i h4
          split at h
          · omega
          · rename_i h5
            refine ⟨h1, fun e => ?_, fun e => ?_, fun e => ?_, fun e => ?_, fun e e2 => h5 ⟨e, e2⟩⟩
            · cases hh : dHas (pDir d) o.name <;> by_cases e1 : o.kind = 1 <;> simp [hh, e1, e] at h2 ⊢
            · refine ⟨?_, ?_⟩
              · rcases Nat.lt_or_ge d.nodes.length 8 with h | h
                · exact h
                · exact absurd (.inl ⟨e, .inl h⟩) h3
              · rcases Int.lt_or_le d.next 1000000 with h | h
                · exact h
                · exact absurd (.inl ⟨e, .inr h⟩) h3
            · rcases Nat.lt_or_ge d.turns.length 40 with h | h
              · exact h
              · exact absurd (.inr ⟨e, h⟩) h3
            · rcases Int.lt_or_le ((bodyAt d (opAt d o)).length : Int) o.size with h | h
              · exact absurd ⟨e, h⟩ h4
              · exact h
/-! ### the code, kind by kind -/
section
variable {d : DiskP} {o : OpD}
theorem pCode_1 (h : o.kind = 1) : pCode d o = if d.fuse = 0 then 2 else if dHas (pDir d) o.name = true then 3 else if 8 ≤ d.nodes.length ∨ 1000000 ≤ d.next ∨ 40 ≤ d.turns.length then 4 else 0 := by
  unfold pCode
  simp only [h]
  cases dHas (pDir d) o.name <;> by_cases h1 : d.fuse = 0 <;> by_cases h2 : 8 ≤ d.nodes.length <;> by_cases h3 : 1000000 ≤ d.next <;> by_cases h4 : 40 ≤ d.turns.length <;> simp [h1, h2, h3, h4]
theorem pCode_23 (h : o.kind = 2 ∨ o.kind = 3) : pCode d o = if d.fuse = 0 then 2 else if dHas (pDir d) o.name = false then 3 else 0 := by
  unfold pCode
  rcases h with h | h <;> simp only [h] <;> cases dHas (pDir d) o.name <;> by_cases h1 : d.fuse = 0 <;> simp [h1]
theorem pCode_4 (h : o.kind = 4) : pCode d o = if d.fuse = 0 then 2 else if dHas (pDir d) o.name = false then 3 else if ((bodyAt d (opAt d o)).length : Int) < o.size then 6 else 0 := by
  unfold pCode
  simp only [h]
  cases dHas (pDir d) o.name <;> by_cases h1 : d.fuse = 0 <;> by_cases h2 : ((bodyAt d (opAt d o)).length : Int) < o.size <;> simp [h1, h2]
theorem pCode_5 (h : o.kind = 5) : pCode d o = if d.fuse = 0 then 2 else if dHas (pDir d) o.name = false then 3 else if 40 ≤ d.turns.length then 4 else if o.to = o.name then 6 else 0 := by
  unfold pCode
  simp only [h]
  cases dHas (pDir d) o.name <;> by_cases h1 : d.fuse = 0 <;> by_cases h4 : 40 ≤ d.turns.length <;> by_cases h2 : o.to = o.name <;> simp [h1, h2, h4]
theorem pCode_6 (h : o.kind = 6) : pCode d o = if d.fuse = 0 then 2 else if dHas (pDir d) o.name = false then 3 else if 40 ≤ d.turns.length then 4 else 0 := by
  unfold pCode
  simp only [h]
  cases dHas (pDir d) o.name <;> by_cases h1 : d.fuse = 0 <;> by_cases h4 : 40 ≤ d.turns.length <;> simp [h1, h4]
theorem pCode_7 (h : o.kind = 7) : pCode d o = if d.fuse = 0 then 2 else 0 := by
  unfold pCode
  simp only [h]
  by_cases h1 : d.fuse = 0 <;> simp [h1]
end
end Go.Proofs.YtggaghghclomkaaGreat

/- What a call owns of a disk, part by part; lookups of a name. No condition. -/
namespace Go.Proofs.YtggaghghclomkaaGreat
open Go.RowKit
theorem ODk.parts {w : World} {lo hi : Nat} {d : DiskP} {sn sk st : Value} (h : ODk w lo hi d sn sk st) : ∃ es : List Nd, es.map NdP = d.nodes ∧ ONx w sn es ∧ RowOx LkC 162 2 w sk d.kept ∧ RowOx TnC 121 4 w st d.turns ∧
    (∀ b ∈ bksN sn es, lo ≤ b ∧ b < hi ∧ b ∉ blk sk ∧ b ∉ blk st) ∧ (∀ b ∈ blk sk, lo ≤ b ∧ b < hi ∧ b ∉ blk st) ∧ ∀ b ∈ blk st, lo ≤ b ∧ b < hi := by
  obtain ⟨_, es, h1, h2, h3, h4, h5, h6⟩ := h
  obtain ⟨a1, a2⟩ := app3 h5
  refine ⟨es, h1, h2, h3, h4, fun b hb => ?_, fun b hb => ?_, fun b hb => ?_⟩
  · have := h6 b (List.mem_append.2 (.inl hb)); exact ⟨this.1, this.2, (a1 b hb).1, (a1 b hb).2⟩
  · have := h6 b (List.mem_append.2 (.inr (List.mem_append.2 (.inl hb)))); exact ⟨this.1, this.2, a2 b hb⟩
  · exact h6 b (List.mem_append.2 (.inr (List.mem_append.2 (.inr hb))))
theorem ODk.mk3 {w : World} {lo hi : Nat} {d : DiskP} {sn sk st : Value} {es : List Nd} (hs : hi ≤ w.heap.size) (hm : es.map NdP = d.nodes) (hN : ONx w sn es) (hk : RowOx LkC 162 2 w sk d.kept) (ht : RowOx TnC 121 4 w st d.turns)
    (h1 : ∀ b ∈ bksN sn es, lo ≤ b ∧ b < hi ∧ b ∉ blk sk ∧ b ∉ blk st) (h2 : ∀ b ∈ blk sk, lo ≤ b ∧ b < hi ∧ b ∉ blk st) (h3 : ∀ b ∈ blk st, lo ≤ b ∧ b < hi) : ODk w lo hi d sn sk st := by
  refine ⟨hs, es, hm, hN, hk, ht, ?_, fun b hb => ?_⟩
  · rw [List.nodup_append, List.nodup_append]
    refine ⟨hN.nd, ⟨blk_nodup _, blk_nodup _, fun a ha b hb e => (h2 a ha).2.2 (e ▸ hb)⟩, fun a ha b hb e => ?_⟩
    subst e
    rcases List.mem_append.1 hb with hb | hb
    · exact (h1 a ha).2.2.1 hb
    · exact (h1 a ha).2.2.2 hb
  · rcases List.mem_append.1 hb with hb | hb
    · exact ⟨(h1 b hb).1, (h1 b hb).2.1⟩
    · rcases List.mem_append.1 hb with hb | hb
      · exact ⟨(h2 b hb).1, (h2 b hb).2.1⟩
      · exact h3 b hb
/-- One node is put while others stay. -/
theorem ONx.set2 {w w' : World} {g n c lo hi k : Nat} {es : List Nd} {x' : Nd} {T : Nat → Prop} (hk : k < es.length) (h : ONx w (.slice (some ⟨g, 0, none⟩) n c) es) (hch : Ch T w w') (hT : ∀ j, T j → j = g ∨ j ∈ bkd es[k]) (hrow : RowO NdC 98 3 w' lo hi (.slice (some ⟨g, 0, none⟩) n c) (es.set k x'))
    (hx : OBx w' x'.vb x'.body ∧ OBx w' x'.vs x'.safe) (hn : (bkd x').Nodup) (hap : ∀ b ∈ bkd x', b ∈ bkd es[k] ∨ b ∉ bksN (.slice (some ⟨g, 0, none⟩) n c) es) : ONx w' (.slice (some ⟨g, 0, none⟩) n c) (es.set k x') := by
  have hnd := h.nd
  have hself := nodes_self hk
  have hg : bksN (.slice (some ⟨g, 0, none⟩) n c) es = g :: es.flatMap bkd := rfl
  rw [hg] at hnd hap
  have hnd2 := hnd
  rw [hself, List.flatMap_append, List.flatMap_cons, List.nodup_cons, List.nodup_append, List.nodup_append] at hnd2
  obtain ⟨hgn, hM, ⟨hX, hD, hXD⟩, hMX⟩ := hnd2
  have hgm : ∀ d ∈ es, g ∉ bkd d := fun d hd hb => (List.nodup_cons.1 hnd).1 (List.mem_flatMap.2 ⟨d, hd, hb⟩)
  have hgx : g ∉ bkd x' := fun hb => by
    rcases hap g hb with h1 | h1
    · exact hgm _ (List.getElem_mem hk) h1
    · exact h1 (List.mem_cons_self ..)
  have hnot : ∀ b ∈ bkd x', b ∉ (es.take k).flatMap bkd ∧ b ∉ (es.drop (k + 1)).flatMap bkd := fun b hb => by
    rcases hap b hb with h1 | h1
    · exact ⟨fun h2 => hMX b h2 b (List.mem_append.2 (.inl h1)) rfl, fun h2 => hXD b h1 b h2 rfl⟩
    · have hsub : ∀ d ∈ es, b ∉ bkd d := fun d hd h2 => h1 (List.mem_cons_of_mem _ (List.mem_flatMap.2 ⟨d, hd, h2⟩))
      exact ⟨fun h2 => by obtain ⟨d, hd, h3⟩ := List.mem_flatMap.1 h2; exact hsub d (List.mem_of_mem_take hd) h3, fun h2 => by obtain ⟨d, hd, h3⟩ := List.mem_flatMap.1 h2; exact hsub d (List.mem_of_mem_drop hd) h3⟩
  have keep : ∀ d ∈ es, (∀ b ∈ bkd d, b ∉ bkd es[k]) → OBx w' d.vb d.body ∧ OBx w' d.vs d.safe := fun d hd hb => by
    have hok := h.ok d hd
    have hgd := hgm d hd
    have hne : ∀ b ∈ bkd d, ¬ T b := fun b hb' ht => by
      rcases hT b ht with rfl | h1
      · exact hgd hb'
      · exact hb b hb' h1
    exact ⟨hok.1.ch hch (fun b hb' => hne b (List.mem_append.2 (.inl hb'))), hok.2.ch hch (fun b hb' => hne b (List.mem_append.2 (.inr hb')))⟩
  refine ⟨hrow.x, fun d hd => ?_, ?_⟩
  · rw [nodes_split hk] at hd
    rcases List.mem_append.1 hd with hd | hd
    · exact keep d (List.mem_of_mem_take hd) (fun b hb hbx => hMX b (List.mem_flatMap.2 ⟨d, hd, hb⟩) b (List.mem_append.2 (.inl hbx)) rfl)
    · rcases List.mem_cons.1 hd with rfl | hd
      · exact hx
      · exact keep d (List.mem_of_mem_drop hd) (fun b hb hbx => hXD b hbx b (List.mem_flatMap.2 ⟨d, hd, hb⟩) rfl)
  · show (g :: (es.set k x').flatMap bkd).Nodup
    rw [nodes_split hk, List.flatMap_append, List.flatMap_cons, List.nodup_cons, List.nodup_append, List.nodup_append]
    refine ⟨fun hm => ?_, hM, ⟨hn, hD, fun a ha b hb e => (hnot a ha).2 (e ▸ hb)⟩, fun a ha b hb e => ?_⟩
    · rw [List.mem_append, List.mem_append] at hm
      rcases hm with hm | hm | hm
      · exact hgn (List.mem_append.2 (.inl hm))
      · exact hgx hm
      · exact hgn (List.mem_append.2 (.inr (List.mem_append.2 (.inr hm))))
    · subst e
      rcases List.mem_append.1 hb with hb | hb
      · exact (hnot a hb).1 ha
      · exact hMX a ha a (List.mem_append.2 (.inr hb)) rfl
section
variable {α : Type} {f : α → List Value} {e : TypeId} {P : Program} {L : List Oper} {Q : Exit → Act → World → Prop} {n d : Nat} {l : Env} {w : World} {rest : List Oper} {ty : TypeId} {pos : String} {af : Array Edge} {v v2 : Value} {x y : Operand} {t : TypeId}
/-- Own records are appended to: where they lie then. -/
theorem TL_appendOx {lo2 hi2 size bytes : Nat} {z : Value} {s s2 : List α} (ht : P.underlying t = some (.slice e)) (hi0 : (P.info? e).map (fun i => (i.zero, i.size, i.bytes)) = some (some z, size, bytes)) (hzs : z.cells.size = size) (hpos : Nat.blt 0 size = true) (hby : Nat.ble bytes 1024 = true)
    (hone : ∀ a, ∀ u ∈ f a, u.oneCell' = true) (hx : ev l x = some v) (hy : ev l y = some v2) (ho : RowOx f e size w v s) (hr : RowR f size w lo2 hi2 v2 s2) (hm : s.length + s2.length ≤ 1073741824) (hn : Nat.blt d n = true)
    (h : ∀ w' v', Ch (fun j => j ∈ blk v) w w' → (blk v' = blk v ∨ (blk v' = [w.heap.size] ∧ w.heap.size < w'.heap.size)) → RowOx f e size w' v' (s ++ s2) → TL P L Q rest n ((d, v') :: l) w') :
    TL P L Q (⟨some d, .call { callee := .builtin .append, args := #[x, y], argTypes := #[t, t] }, ty, pos, af, none⟩ :: rest) n l w := by
  obtain ⟨l1, h1, ⟨A, c, rfl, ho0⟩, _⟩ := ho
  obtain ⟨lo, hi, hlo, ho, hin⟩ := ho0.narrow2
  obtain ⟨A2, c2, rfl, _, hr⟩ := hr
  have hb : (s.length + s2.length) * bytes ≤ 140737488355328 := Nat.le_trans (Nat.mul_le_mul hm (Nat.le_of_ble_eq_true hby)) (by decide)
  refine TL_append ht hi0 hzs hpos hx hy ho hr (cellsL_one hone s2) hlo hb (by omega) hn ?_
  intro w1 hi1 A1 c1 hch h1 h2 h3 hown
  have hch' : Ch (fun j => j ∈ blk (.slice A s.length c)) w w1 := hch.mono (fun j hj => hin j hj.1 hj.2)
  refine h w1 _ hch' ?_ (RowO.x ⟨A1, c1, by rw [List.length_append], hown.cast (by rw [List.length_append]) (cellsL_append _ _).symm⟩)
  rcases h3 with rfl | rfl
  · left; cases A1 <;> rfl
  · right; exact ⟨rfl, Nat.lt_of_lt_of_le (hown.lt _ rfl) hown.hi_le⟩
end
section
variable {C : World → Prop} {n : Nat} {l : Env} {dd : Option Nat} {ty : TypeId} {pos : String} {af : Array Edge} {m x : Operand} {b : Nat}
theorem Pu_dirLook1 {s : List UInt8} (hm : ev l m = some (.map (some b))) (hx : ev l x = some (S s)) (hs : s.length ≤ 9223372036854775807) {D : List LkD} (hM : ∀ w, C w → ∃ k, MD w b k D) :
    Pu Tryz.prog C n l ⟨dd, .lookup 104 m x false, ty, pos, af, none⟩ (I (dFind D s)) := Pu_lookG hm hx fun w hw => by
  obtain ⟨k, hk⟩ := hM w hw
  obtain ⟨c, hrun, hc, _⟩ := World.ownsMap.lookup_int hk kStr mUnder Tryz.underlying3 (zInt w) (kyS hs)
  rw [toD_at] at hc
  simp only [DataW.lit.injEq, Lit.int.injEq, true_and] at hc
  rw [hrun, hc]
end
/-- The first k elements of an own row are one. -/
theorem Own.takeN {w : World} {lo hi n c k : Nat} {e : TypeId} {A : Option Addr} {xs : List Value} (h : Own w lo hi e 1 A n c xs) (hk : k ≤ n) : Own w lo hi e 1 A k c (xs.take k) := by
  have hl := h.len
  refine ⟨h.hi_le, ⟨by rw [List.length_take]; omega, ?_⟩, h.lt⟩
  rcases h.row.2 with ⟨hv, h0⟩ | ⟨g, cap, cur, hv, h3, h4, h5, h6, h7, h8⟩
  · injection hv with h1 h2 h9
    subst h1 h9
    have : k = 0 := by omega
    subst this
    exact .inl ⟨rfl, rfl⟩
  · injection hv with h1 h2 h9
    subst h1 h9
    refine .inr ⟨g, c, cur, rfl, h3, h4, by omega, h6, h7, ?_⟩
    rw [← h8, List.take_take, Nat.mul_one, Nat.mul_one, Nat.min_eq_left hk]
/-- A disk of which one node is put. -/
theorem ODk.put {w w' : World} {lo hi hi' g n c lo3 hi3 k : Nat} {d d' : DiskP} {sk st : Value} {es : List Nd} {x' : Nd} {T : Nat → Prop} (hs : hi' ≤ w'.heap.size) (hh : hi ≤ hi') (hm : es.map NdP = d.nodes) (hN : ONx w (.slice (some ⟨g, 0, none⟩) n c) es)
    (hK : RowOx LkC 162 2 w sk d.kept) (hT : RowOx TnC 121 4 w st d.turns) (h1 : ∀ b ∈ bksN (.slice (some ⟨g, 0, none⟩) n c) es, lo ≤ b ∧ b < hi ∧ b ∉ blk sk ∧ b ∉ blk st) (h2 : ∀ b ∈ blk sk, lo ≤ b ∧ b < hi ∧ b ∉ blk st) (h3 : ∀ b ∈ blk st, lo ≤ b ∧ b < hi)
    (hk : k < es.length) (hch : Ch T w w') (hTT : ∀ j, T j → j = g ∨ j ∈ bkd es[k]) (hrow : RowO NdC 98 3 w' lo3 hi3 (.slice (some ⟨g, 0, none⟩) n c) (es.set k x')) (hx : OBx w' x'.vb x'.body ∧ OBx w' x'.vs x'.safe) (hn : (bkd x').Nodup)
    (hap : ∀ b ∈ bkd x', b ∈ bkd es[k] ∨ (hi ≤ b ∧ b < hi')) (hlh : lo ≤ hi) (e1 : d'.nodes = d.nodes.set k (NdP x')) (e2 : d'.kept = d.kept) (e3 : d'.turns = d.turns) : ODk w' lo hi' d' (.slice (some ⟨g, 0, none⟩) n c) sk st := by
  have hb : ∀ j, T j → j ∈ bksN (.slice (some ⟨g, 0, none⟩) n c) es := fun j hj => by
    rcases hTT j hj with rfl | h
    · exact List.mem_append.2 (.inl (List.mem_singleton.2 rfl))
    · exact bkd_in hk j h
  have hN' := ONx.set2 hk hN hch hTT hrow hx hn (fun b hb' => by
    rcases hap b hb' with h | h
    · exact .inl h
    · right; intro hm; have := h1 b hm; omega)
  refine ODk.mk3 hs (by rw [e1, List.map_set, hm]) hN' (by rw [e2]; exact hK.ch hch (fun b hb' ht => (h1 b (hb b ht)).2.2.1 hb')) (by rw [e3]; exact hT.ch hch (fun b hb' ht => (h1 b (hb b ht)).2.2.2 hb')) ?_ (fun b hb' => by have := h2 b hb'; exact ⟨this.1, by omega, this.2.2⟩) (fun b hb' => by have := h3 b hb'; omega)
  refine bks_set (R := fun b => lo ≤ b ∧ b < hi' ∧ b ∉ blk sk ∧ b ∉ blk st) (fun b hb' => by have := h1 b hb'; exact ⟨this.1, by omega, this.2.2⟩) (fun b hb' => ?_)
  rcases hap b hb' with h | h
  · have := h1 b (bkd_in hk b h); exact ⟨this.1, by omega, this.2.2⟩
  · exact ⟨by omega, h.2, fun h' => by have := h2 b h'; omega, fun h' => by have := h3 b h'; omega⟩
end Go.Proofs.YtggaghghclomkaaGreat
