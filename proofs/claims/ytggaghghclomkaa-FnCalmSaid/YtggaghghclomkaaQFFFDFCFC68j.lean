/- Texts of this proof laid together, in the order in which they build; what each proves stands ahead of it. No condition but those told there. -/
import Derived.Test.YtggaghghclomkaaQFFFDFCFC68i

/- Draws of cuts, disks and lists of operations, weakly said: right disks, right operations. -/
namespace Go.Proofs.Ytggaghghclomkaa
open Go.RowKit
def newDk (room : Int) : DiskP := ⟨room, -1, 1, [], [], []⟩
theorem newDk_ok {room : Int} (h : 0 ≤ room ∧ room ≤ 60000) : DOk (newDk room) :=
  ⟨by unfold dBase newDk; simp; omega, fun i hi => absurd hi (by simp [newDk]), fun i hi => absurd hi (by simp [newDk]), fun x hx => (by cases hx), rfl, fun j hj => absurd hj (by simp [newDk, pIds]), fun j hj => absurd hj (by simp [newDk]), by simp [newDk, pUsed]; omega⟩
theorem ODk.none {w : World} {lo hi : Nat} {d : DiskP} (h : hi ≤ w.heap.size) (h1 : d.nodes = []) (h2 : d.kept = []) (h3 : d.turns = []) : ODk w lo hi d (.slice none 0 0) (.slice none 0 0) (.slice none 0 0) :=
  ⟨h, [], by rw [h1]; rfl, ONx.empty w, by rw [h2]; exact (RowO.nil w 0 (Nat.zero_le _)).x, by rw [h3]; exact (RowO.nil w 0 (Nat.zero_le _)).x, by simp [bksN, blk], by simp [bksN, blk]⟩
theorem DOk.fused {d : DiskP} (h : DOk d) {f : Int} (hf : -1 ≤ f ∧ f ≤ 1000) : DOk { d with fuse := f } := by
  have hB := h.base
  unfold dBase at hB
  exact ⟨by unfold dBase; simp only; omega, h.node, h.link, h.pos, h.len, h.ids, h.turn, h.used⟩
attribute [local irreducible] TL TC TN TX TR TQ TA Pu Ret
set_option maxRecDepth 100000 in
set_option maxHeartbeats 4000000 in
theorem l04Cuts_c {w : World} {g : Nat} (hcur : Cur w g) :
    Ret Try.prog 49 #[pt g] w fun v w' => ∃ t : List Int, t.length ≤ 3 ∧ Ch (Iv g (g + 1)) w w' ∧ OI w' w.heap.size w'.heap.size v t ∧ Cur w' g := by
  refine Ret_enter Try.func49 rfl rfl rfl ?_
  have hg := hcur.lt
  repeat' (first | apply Jbq | apply Jbr | apply Jbs | apply Jbt | (apply Jcg; (first | exact Jaa rfl | exact Jab rfl); exact rfl) | (refine TL_buildSlice0 Us.h Sz.h rfl ?_; intro w1 g1 e1 hg1 hz1 hown1))
  refine TL_call rfl en25 (l01Below_c (hcur.ext e1) (by omega)) rfl rfl ?_
  rintro _ w2 ⟨n, rfl, hn0, hn1, _, c2, hcur2⟩
  have hn1 := hn1 (by omega)
  have hnew : OI w2 w.heap.size w2.heap.size (.slice (some ⟨g1, 0, none⟩) 0 0) [] := by
    have := (OI_new (s := []) rfl hown1 hg1 hz1).ch c2 (by intro k _ _; simp only [Iv]; omega)
    have hs2 := c2.size
    obtain ⟨A9, c9, h9, ho9⟩ := this
    exact ⟨A9, c9, h9, ho9.wide (Nat.le_refl _) hs2 (Nat.le_refl _)⟩
  obtain ⟨n, rfl⟩ := Int.eq_ofNat_of_zero_le hn0
  repeat' (first | apply Jbq | apply Jbr | apply Jby | (apply Jcg; exact Jab rfl; exact rfl))
  refine TC_loop (ι := Nat × List Int × Value) (fun x => [(0, pt g), (3, x.2.2), (4, I x.1)]) (fun x w' => x.2.1.length + x.1 = n ∧ Ch (Iv g (g + 1)) w w' ∧ OI w' w.heap.size w'.heap.size x.2.2 x.2.1 ∧ Cur w' g) (fun x => x.1) (n, [], _) (subEnv_cons rfl (subEnv_cons rfl (subEnv_cons rfl (subEnv_nil _))))
    ⟨by simp, (Ch.refl _ _).ext e1 |>.then c2, hnew, hcur2⟩ ?_
  rintro ⟨m, t, va⟩ w3 ⟨hs, c3, ho3, hcur3⟩
  simp only at hs ho3
  repeat' (first | apply Jbq | apply Jbr | apply Jbs | apply Jbt | (apply Jcg; (first | exact Jaa rfl | exact Jam rfl rfl); exact rfl))
  refine Jcx rfl (fun hb => ?_) (fun hb => ?_)
  · repeat' (first | apply Jbr | apply Jbs | apply Jbt | apply Jby | apply Jbz | (apply Jcg; exact Jaa rfl; exact rfl))
    refine TL_call rfl en63 (l01Raw_c hcur3) rfl rfl ?_
    rintro _ w4 ⟨r, rfl, hr, c4, hcur4⟩
    repeat' ((apply Jcg; exact Jaa rfl; exact rfl))
    refine TL_call rfl en25 (l01Below_c hcur4 (by omega)) rfl rfl ?_
    rintro _ w5 ⟨y, rfl, hy0, hy1, _, c5, hcur5⟩
    have hs3 := c3.size
    have hs4 := c4.size
    have hs5 := c5.size
    skip
    refine TL_buildSlice (us := i64s [0, 1, 2, 3, 5, 8, 13, 1000, r, y]) Us.h Zi.h rfl rfl rfl rfl (by kernel_rfl) rfl rfl ?_
    intro w6 g6 e6 hg6 hz6 hown6
    repeat' ((apply Jcg; exact Jaa rfl; exact rfl))
    refine TL_call rfl en25 (l01Below_c (hcur5.ext e6) (by omega)) rfl rfl ?_
    rintro _ w7 ⟨x, rfl, hx0, hx1, _, c7, hcur7⟩
    have hx1 := hx1 (by omega)
    obtain ⟨x, rfl⟩ := Int.eq_ofNat_of_zero_le hx0
    have hx : x < 10 := by omega
    have hs7 := c7.size
    obtain ⟨ad, had, hcell⟩ := (hown6.rd.ch c7 (by intro j _ _; simp only [Iv]; omega)).get (show x < 10 by omega)
    injection had with had
    subst had
    rw [i64s_get [0, 1, 2, 3, 5, 8, 13, 1000, r, y] (by simpa using hx)] at hcell
    obtain ⟨z, hz⟩ : ∃ z, z = [0, 1, 2, 3, 5, 8, 13, 1000, r, y].getD x 0 := ⟨_, rfl⟩
    rw [← hz] at hcell
    repeat' (first | (apply Jcg; exact Jag Us.h Sz.h rfl rfl (by omega); exact rfl) | refine Jcg (Pu_load Fl.h rfl (fun _ e => by rw [e]; exact hcell)) rfl ?_)
    refine TL_buildSlice (us := i64s [z]) Us.h Zi.h rfl rfl rfl rfl (filli1 _) rfl rfl ?_
    intro w8 g8 e8 hg8 hz8 hown8
    have hs8 := e8.size
    have ho8 := ((((ho3.ch c4 (by intro k _ _; simp only [Iv]; omega)).ch c5 (by intro k _ _; simp only [Iv]; omega)).ext e6).ch c7 (by intro k _ _; simp only [Iv]; omega)).ext e8
    have hs6 := e6.size
    refine TL_appendI Us.h rfl rfl ho8 (OI_new (s := [_]) rfl hown8 hg8 hz8).rd (by omega) (by simp only [List.length_cons, List.length_nil]; omega) rfl ?_
    intro w9 v9 c9 ho9
    repeat' (first | apply Jbq | apply Jbr | apply Jbt | apply Jbx | (apply Jcg; (first | exact Jaa rfl | exact Jab rfl | exact Jap rfl rfl (by omega)); exact rfl))
    exact TN_round (m - 1, t ++ [z], v9) (subEnv_cons rfl (subEnv_cons rfl (subEnv_cons (congrArg (fun z => some (I z)) (by simp only; omega)) (subEnv_nil _)))) ⟨by simp only [List.length_append, List.length_cons, List.length_nil]; omega, Own.step (((((c3.then c4).then c5).ext e6).then c7).ext e8) c9 (Nat.le_refl _), ho9, (hcur7.ext e8).ch c9 (by intro k _; simp only [Iv]; omega)⟩ (by simp only; omega)
  · repeat' (first | apply Jbq | apply Jbr | apply Jbs | apply Jbt | apply Jbu | apply Jca | apply Jcb | apply Jcc | (apply Jcg; (first | exact Jaa rfl | exact Jab rfl); exact rfl))
    exact TR_of (res1 rfl rfl) ⟨t, by omega, c3, ho3, hcur3⟩
set_option maxHeartbeats 2000000 in
theorem MakeCut_c {w : World} {lo hi : Nat} {v : Value} {s : List UInt8} (hR : RB w lo hi v s) (hl : s.length ≤ 1048576) :
    Ret Try.prog 14 #[v] w fun v' w' => ∃ (x : Int) (t : List Int) (vc : Value), v' = .tuple #[I x, vc] ∧ (0 ≤ x ∧ x < 5) ∧ t.length ≤ 3 ∧ Ext w w' ∧ RI w' w.heap.size w'.heap.size vc t := by
  refine Ret_enter Try.func14 rfl rfl rfl ?_
  repeat' (first | apply Jbq | apply Jbr | apply Jbs | apply Jbt | (apply Jcg; (first | exact Jaa rfl | exact Jab rfl); exact rfl))
  refine TL_call rfl en23 (l01New_c hR hl) rfl rfl ?_
  rintro _ w1 ⟨g, rfl, e1, hg, hz1, hcur⟩
  obtain ⟨A, c, lo2, s2, i, h, hb, hr, hi2, hl2⟩ := hcur
  repeat' (first | apply Jbq | apply Jbr | apply Jbs | apply Jbt | (apply Jcg; (first | exact Jaa rfl | exact Jab rfl | exact Jba rfl | (apply Jbl; exact Us.h; exact rfl; exact Sz.h; exact rfl)); exact rfl) | refine Jcg (Pu_load Fl.h rfl (fun _ e => by rw [e]; exact hb.ld rfl)) rfl ?_ | refine Jcg (Pu_addw rfl rfl) rfl ?_)
  refine TL_store rfl rfl Sz.h rfl hb rfl ?_
  intro w2 c2 hz2 hb2
  have hcur2 : Cur w2 g := ⟨A, c, lo2, s2, i, _, hb2, hr.ch c2 (by intro k _ _; simp only [Iv]; omega), hi2, hl2⟩
  repeat' (first | apply Jbq | apply Jbr | apply Jbs | apply Jbt | (apply Jcg; exact Jaa rfl; exact rfl))
  refine TL_call rfl en25 (l01Below_c hcur2 (by omega)) rfl rfl ?_
  rintro _ w3 ⟨x, rfl, h0, h1, _, c3, hcur3⟩
  have h1 := h1 (by omega)
  repeat' ((apply Jcg; exact Jaa rfl; exact rfl))
  refine TL_call rfl en49 (l04Cuts_c hcur3) rfl rfl ?_
  rintro vc w4 ⟨t, ht, c4, ho, _⟩
  have hs2 := c2.size
  have hs3 := c3.size
  repeat' (first | apply Jbq | apply Jbr | apply Jbu | (apply Jcg; exact Jab rfl; exact rfl))
  exact TR_of (res2 rfl rfl rfl) ⟨x, t, vc, rfl, ⟨h0, h1⟩, ht, Ext.then_iv (Ext.then_iv (Ext.then_iv e1 c2 hg) c3 hg) c4 hg, by obtain ⟨A', c', h1, h2, h3⟩ := ho.rd; exact ⟨A', c', h1, h2, h3.wide (by omega) (Nat.le_refl _) (Nat.le_refl _)⟩⟩
set_option maxHeartbeats 1000000 in
theorem specNew_c {room : Int} (w : World) (h : 0 ≤ room ∧ room ≤ 60000) : Ret Try.prog 52 #[I room] w fun v w' => v = .tuple #[.agg (dskC (newDk room) (.slice none 0 0) (.slice none 0 0) (.slice none 0 0)).toArray, .bool true] ∧ Ext w w' := by
  refine Ret_enter Try.func52 rfl rfl rfl ?_
  repeat' (first | apply Jbs | apply Jbt)
  refine TL_alloc Zs.h rfl rfl ?_
  intro w1 g E hg hz hbk
  repeat' (first | apply Jbq | apply Jbr | apply Jbs | apply Jbt | apply Jbu | apply Jbz | (apply Jcg; (first | exact Jaa rfl | exact Jab rfl | exact Jad rfl rfl | exact Jai rfl rfl | exact Jam rfl rfl); exact rfl) | refine Jch rfl rfl rfl ?_ | (refine Jcg (Pu_build (cs := dskC (newDk room) (.slice none 0 0) (.slice none 0 0) (.slice none 0 0)) rfl (by kernel_rfl)) rfl ?_) | (refine TL_storeAgg rfl rfl Sz.h rfl hbk rfl ?_; intro w2 c2 hz2 hb2) | (refine Jcs rfl rfl (fun hb => ?_) (fun hb => ?_) <;> (try (exfalso; omega))) | (refine Jcx rfl (fun hb => ?_) (fun hb => ?_) <;> (try (exfalso; omega))))
  all_goals exact TR_of (resA1 rfl rfl rfl hb2 Us.h rfl Sz.h) ⟨rfl, Ext.then_iv E c2 (by omega)⟩
set_option maxRecDepth 100000 in
set_option maxHeartbeats 8000000 in
theorem l03Draw_c {w : World} {g : Nat} {most : Nat} (hcur : Cur w g) (hm : most ≤ 65536) :
    Ret Try.prog 24 #[pt g, I most] w fun v w' => ∃ (d : DiskP) (sn sk st : Value), v = .agg (dskC d sn sk st).toArray ∧ DOk d ∧ Ch (Iv g (g + 1)) w w' ∧ RDk w' w.heap.size w'.heap.size d sn sk st ∧ Cur w' g := by
  have hg := hcur.lt
  refine Ret_enter Try.func24 rfl rfl rfl ?_
  repeat' (first | apply Jbs | apply Jbt)
  refine TL_alloc Zs.h rfl rfl ?_
  intro w1 g4 e1 hg4 hz1 hb4
  repeat' (first | apply Jbq | apply Jbr | apply Jbs | apply Jbt)
  refine TL_buildSlice (us := i64s [0, 9, 30, 60, 200, 60000]) Us.h Zi.h rfl rfl rfl rfl (by kernel_rfl) rfl rfl ?_
  intro w2 g2 e2 hg2 hz2 hown2
  repeat' ((apply Jcg; exact Jaa rfl; exact rfl))
  refine TL_call rfl en25 (l01Below_c ((hcur.ext e1).ext e2) (by omega)) rfl rfl ?_
  rintro _ w3 ⟨x, rfl, hx0, hx1, _, c3, hcur3⟩
  have hx1 := hx1 (by omega)
  obtain ⟨x, rfl⟩ := Int.eq_ofNat_of_zero_le hx0
  obtain ⟨ad, had, hcell⟩ := (hown2.rd.ch c3 (by intro j _ _; simp only [Iv]; omega)).get (show x < 6 by omega)
  injection had with had
  subst had
  rw [i64s_get [0, 9, 30, 60, 200, 60000] (by simp; omega)] at hcell
  obtain ⟨room, hroom⟩ : ∃ room, room = ([0, 9, 30, 60, 200, 60000] : List Int).getD x 0 := ⟨_, rfl⟩
  rw [← hroom] at hcell
  have hrm : 0 ≤ room ∧ room ≤ 60000 := by
    have h6 : x = 0 ∨ x = 1 ∨ x = 2 ∨ x = 3 ∨ x = 4 ∨ x = 5 := by omega
    rcases h6 with rfl | rfl | rfl | rfl | rfl | rfl <;> rw [hroom] <;> decide
  have hs3 := c3.size
  have hb43 := (hb4.ext e2).ch c3 (by simp only [Iv]; omega)
  repeat' (first | (apply Jcg; exact Jag Us.h Sz.h rfl rfl (by omega); exact rfl) | refine Jcg (Pu_load Fl.h rfl (fun _ e => by rw [e]; exact hcell)) rfl ?_)
  refine TL_call rfl en52 (specNew_c _ hrm) rfl rfl ?_
  rintro _ w4 ⟨rfl, e4⟩
  have hs4 := e4.size
  repeat' ((apply Jcg; (first | exact Jaa rfl | exact Jae rfl rfl); exact rfl))
  refine TL_alloc Zs.h rfl rfl ?_
  intro w5 g5 e5 hg5 hz5 hb5
  skip
  refine TL_storeAgg rfl rfl Sz.h rfl hb5 rfl ?_
  clear hb5
  intro w6 c6 hz6 hb5
  have hcur6 := ((hcur3.ext e4).ext e5).ch c6 (by intro k _; simp only [Iv]; omega)
  have hb46 := ((hb43.ext e4).ext e5).ch c6 (by simp only [Iv]; omega)
  have c06 : Ch (Iv g (g + 1)) w w6 := ((((((Ch.mono e1 (fun _ t => t.elim)).ext e2).then c3).ext e4).ext e5).trans c6 (fun _ _ t => t) (fun j hj t => absurd t.1 (by omega)))
  have hgs : w.heap.size ≤ g4 ∧ g4 < g5 ∧ g5 < w6.heap.size := by omega
  have hx6 : ODk w6 w6.heap.size w6.heap.size (newDk room) (.slice none 0 0) (.slice none 0 0) (.slice none 0 0) := ODk.none (Nat.le_refl _) rfl rfl rfl
  repeat' (first | apply Jbq | apply Jbr | apply Jbs | (apply Jcg; exact Jab rfl; exact rfl))
  have hld6 : ∀ j u, (dskC (newDk room) (.slice none 0 0) (.slice none 0 0) (.slice none 0 0))[j]? = some u → w6.cell? ((⟨g5, 0, none⟩ : Addr).add j) = some u := fun j u hu => by rw [add0, hb5.cell]; exact hu
  refine TC_anyB (fun w' => Ch (fun j => j = g ∨ j = g5) w6 w') (fun w' => ∀ j u, (dskC (newDk room) (.slice none 0 0) (.slice none 0 0) (.slice none 0 0))[j]? = some u → w'.cell? ((⟨g5, 0, none⟩ : Addr).add j) = some u) 8 mixed rfl (Ch.refl _ _).drew (fun j u hu => Ext.cell (Ch.refl _ _).drew (hld6 j u hu)) ?_
  intro w7 e7 hz7 hA hB
  (refine TB_takeB 0 rfl rfl rfl (by kernel_rfl) rfl (by kernel_rfl) (by kernel_rfl) (by kernel_rfl) (fun _ _ _ h => h) ⟨hA, fun _ => hB⟩ (by exact Pu_loadAgg (cs := dskC (newDk room) (.slice none 0 0) (.slice none 0 0) (.slice none 0 0)) Us.h rfl Sz.h rfl (fun _ e => e.2)) rfl ?_)
  (refine TB_take 1 rfl rfl rfl (by kernel_rfl) (by kernel_rfl) (by kernel_rfl) (fun _ _ _ h => h) ⟨hA, fun _ => hB⟩ (by exact Jaa rfl) rfl ?_)
  refine TB_one 2 (by kernel_rfl) rfl ?_
  refine TL_call rfl en53 (l03Name_c (hcur6.ext e7)) rfl rfl ?_
  rintro _ w8 ⟨name, rfl, hname, c8, hcur8⟩
  have hs7 := e7.size
  have hs8 := c8.size
  replace hA := hA.then (c8.mono (fun j hj => .inl (by have := hj.1; have := hj.2; omega)))
  replace hB := fun j u hu => Ch.cell c8 (hB j u hu) (by rw [block_of_add]; simp only [Iv]; omega)
  refine Jbq (TN_anyB ⟨hA, fun _ => hB⟩ ?_)
  (refine TB_take 3 rfl rfl rfl (by kernel_rfl) (by kernel_rfl) (by kernel_rfl) (fun _ _ _ h => h) ⟨hA, fun _ => hB⟩ (by exact Pu_build (cs := opC ⟨1, name, [], 0, []⟩ (.slice none 0 0)) rfl (by kernel_rfl)) rfl ?_)
  refine TB_one 4 (by kernel_rfl) rfl ?_
  have hnl := pName_len hname
  have hok1 : pOp ⟨1, name, [], 0, []⟩ = true := by unfold pOp; simp [hname]
  have hofit : (⟨1, name, [], 0, []⟩ : OpD).fits := ⟨⟨by simp, by simp⟩, ⟨by simp, by simp⟩, by simp only; omega, by simp⟩
  have hD0 := newDk_ok hrm
  have hx8 := (hx6.ext e7).ch c8 (by intro k _ _; simp only [Iv]; omega)
  refine TL_call rfl en10 (specDiskDo_c (o := ⟨1, name, [], 0, []⟩) (vo := .slice none 0 0) (lo2 := 0) (hi2 := w8.heap.size) hx8.rd hD0.fitsD (by have := hD0.totD; omega) ⟨none, 0, rfl, Nat.le_refl _, ⟨rfl, Nat.le_refl _, fun h => absurd h (by simp)⟩⟩ hofit) rfl rfl ?_
  rintro _ w9 ⟨sn9, sk9, st9, rfl, e9, hx9⟩
  have hs9 := e9.size
  have hone9 := hx9.one
  replace hA := hA.ext e9
  replace hB := fun j u hu => e9.cell (hB j u hu)
  refine Jbq (TN_anyB ⟨hA, fun _ => hB⟩ ?_)
  (refine TB_take 5 rfl rfl rfl (by kernel_rfl) (by kernel_rfl) (by kernel_rfl) (fun _ _ _ h => h) ⟨hA, fun _ => hB⟩ (by exact Jaa rfl) rfl ?_; refine TB_take 6 rfl rfl rfl (by kernel_rfl) (by kernel_rfl) (by kernel_rfl) (fun _ _ _ h => h) ⟨hA, fun _ => hB⟩ (by exact Jae rfl rfl) rfl ?_; refine TB_take 7 rfl rfl rfl (by kernel_rfl) (by kernel_rfl) (by kernel_rfl) (fun _ _ _ h => h) ⟨hA, fun _ => hB⟩ (by exact Jae rfl rfl) rfl ?_)
  refine TB_one 8 (by kernel_rfl) rfl ?_
  have hb59 := ((hb5.ext e7).ch c8 (by simp only [Iv]; omega)).ext e9
  refine TL_storeAgg rfl rfl Sz.h hone9 hb59 rfl ?_
  intro w10 c10 hz10 hb510
  refine Jbq (TN_anyB ⟨hA.then (c10.mono (fun j hj => .inr (by have := hj.1; have := hj.2; omega))), fun h => nomatch (show true = false from h)⟩ ?_)
  refine TB_done (by kernel_rfl) ?_
  have hD1 := hD0.pDo hok1
  have hx10 := hx9.ch c10 (by intro k _ _; simp only [Iv]; omega)
  have hcur10 := (hcur8.ext e9).ch c10 (by intro k _; simp only [Iv]; omega)
  have hb410 := (((hb46.ext e7).ch c8 (by simp only [Iv]; omega)).ext e9).ch c10 (by simp only [Iv]; omega)
  have c010 : Ch (Iv g (g + 1)) w w10 := ((((c06.ext e7).then c8).ext e9).trans c10 (fun _ _ t => t) (fun j hj t => absurd t.1 (by omega)))
  have hw10 : w6.heap.size ≤ w8.heap.size ∧ w9.heap.size ≤ w10.heap.size := by omega
  obtain ⟨d1, hd1⟩ : ∃ d1, d1 = (pDo (newDk room) ⟨1, name, [], 0, []⟩).1 := ⟨_, rfl⟩
  rw [← hd1] at hD1 hx10 hb510
  clear hA hB hx9 hx8 hx6 hb59 hb5 hb46 hb4 hb43 hd1 hld6
  repeat' (apply Jbr)
  refine TC_join (ι := DiskP × Value × Value × Value) (fun _ => [(0, pt g), (4, .pointer (some ⟨g4, 0, none⟩)), (5, .pointer (some ⟨g5, 0, none⟩))]) (fun x w' => DOk x.1 ∧ Ch (Iv g (g + 1)) w w' ∧ w6.heap.size ≤ w'.heap.size ∧ Blk w' g4 27 (dskC noDk (.slice none 0 0) (.slice none 0 0) (.slice none 0 0)) ∧ Blk w' g5 27 (dskC x.1 x.2.1 x.2.2.1 x.2.2.2) ∧ Cur w' g ∧ ∃ lo1 hi1, w6.heap.size ≤ lo1 ∧ hi1 ≤ w'.heap.size ∧ ODk w' lo1 hi1 x.1 x.2.1 x.2.2.1 x.2.2.2) ?_ ?_
  · repeat' (first | apply Jbs | apply Jbt | (apply Jcg; (first | exact Jaa rfl | exact Jaf rfl rfl (by omega)); exact rfl))
    refine TL_call rfl en25 (l01Below_c hcur10 (by omega)) rfl rfl ?_
    rintro _ w11 ⟨n, rfl, hn0, hn1, _, c11, hcur11⟩
    have hn1 := hn1 (by omega)
    obtain ⟨n, rfl⟩ := Int.eq_ofNat_of_zero_le hn0
    have hs11 := c11.size
    repeat' (first | apply Jbq | apply Jbr | apply Jby | (apply Jcg; exact Jab rfl; exact rfl))
    refine TC_loop (ι := Nat × DiskP × Value × Value × Value) (fun x => [(0, pt g), (4, .pointer (some ⟨g4, 0, none⟩)), (5, .pointer (some ⟨g5, 0, none⟩)), (7, I x.1)])
      (fun x w' => x.1 ≤ n ∧ DOk x.2.1 ∧ Ch (Iv g (g + 1)) w w' ∧ w6.heap.size ≤ w'.heap.size ∧ Blk w' g4 27 (dskC noDk (.slice none 0 0) (.slice none 0 0) (.slice none 0 0)) ∧ Blk w' g5 27 (dskC x.2.1 x.2.2.1 x.2.2.2.1 x.2.2.2.2) ∧ Cur w' g ∧ ∃ lo1 hi1, w6.heap.size ≤ lo1 ∧ hi1 ≤ w'.heap.size ∧ ODk w' lo1 hi1 x.2.1 x.2.2.1 x.2.2.2.1 x.2.2.2.2) (fun x => x.1) (n, d1, sn9, sk9, st9)
      (subEnv_cons rfl (subEnv_cons rfl (subEnv_cons rfl (subEnv_cons rfl (subEnv_nil _))))) ⟨Nat.le_refl _, hD1, c010.then c11, by omega, hb410.ch c11 (by simp only [Iv]; omega), hb510.ch c11 (by simp only [Iv]; omega), hcur11, _, _, hw10.1, by omega, hx10.ch c11 (by intro k _ _; simp only [Iv]; omega)⟩ ?_
    rintro ⟨m, dk, sn, sk, st⟩ w12 ⟨hm12, hDk, c12, hs12, hb412, hb512, hcur12, lo1, hi1, hlo, hhi, hx12⟩
    simp only at hm12 hDk hb512 hx12
    repeat' (first | apply Jbq | apply Jbr | apply Jbs | apply Jbt | (apply Jcg; (first | exact Jaa rfl | exact Jam rfl rfl); exact rfl))
    refine Jcx rfl (fun hb => ?_) (fun hb => ?_)
    · repeat' (first | apply Jbr | apply Jbs | apply Jby | apply Jbz)
      have hld : ∀ j u, (dskC dk sn sk st)[j]? = some u → w12.cell? ((⟨g5, 0, none⟩ : Addr).add j) = some u := fun j u hu => by rw [add0, hb512.cell]; exact hu
      refine TC_anyB (fun w' => Ch (fun j => j = g ∨ j = g5) w12 w') (fun w' => ∀ j u, (dskC dk sn sk st)[j]? = some u → w'.cell? ((⟨g5, 0, none⟩ : Addr).add j) = some u) 7 mixed rfl (Ch.refl _ _).drew (fun j u hu => Ext.cell (Ch.refl _ _).drew (hld j u hu)) ?_
      intro w13 e13 hz13 hA hB
      (refine TB_takeB 0 rfl rfl rfl (by kernel_rfl) rfl (by kernel_rfl) (by kernel_rfl) (by kernel_rfl) (fun _ _ _ h => h) ⟨hA, fun _ => hB⟩ (by exact Pu_loadAgg (cs := dskC dk sn sk st) Us.h rfl Sz.h rfl (fun _ e => e.2)) rfl ?_)
      (refine TB_take 1 rfl rfl rfl (by kernel_rfl) (by kernel_rfl) (by kernel_rfl) (fun _ _ _ h => h) ⟨hA, fun _ => hB⟩ (by exact Jaa rfl) rfl ?_)
      refine TB_one 2 (by kernel_rfl) rfl ?_
      refine TL_call rfl en26 (l03Op_c (hcur12.ext e13)) rfl rfl ?_
      rintro _ w14 ⟨o, vo, rfl, hop, hof, hod, c14, hrb, hcur14⟩
      have hs13 := e13.size
      have hs14 := c14.size
      replace hA := hA.then (c14.mono (fun j hj => .inl (by have := hj.1; have := hj.2; omega)))
      replace hB := fun j u hu => Ch.cell c14 (hB j u hu) (by rw [block_of_add]; simp only [Iv]; omega)
      refine Jbq (TN_anyB ⟨hA, fun _ => hB⟩ ?_)
      refine TB_one 3 (by kernel_rfl) rfl ?_
      have hx14 := (hx12.ext e13).ch c14 (by intro k _ _; simp only [Iv]; omega)
      refine TL_call rfl en10 (specDiskDo_c hx14.rd hDk.fitsD (by have := hDk.totD; omega) hrb hof) rfl rfl ?_
      rintro _ w15 ⟨sn15, sk15, st15, rfl, e15, hx15⟩
      have hs15 := e15.size
      have hone15 := hx15.one
      replace hA := hA.ext e15
      replace hB := fun j u hu => e15.cell (hB j u hu)
      refine Jbq (TN_anyB ⟨hA, fun _ => hB⟩ ?_)
      (refine TB_take 4 rfl rfl rfl (by kernel_rfl) (by kernel_rfl) (by kernel_rfl) (fun _ _ _ h => h) ⟨hA, fun _ => hB⟩ (by exact Jaa rfl) rfl ?_; refine TB_take 5 rfl rfl rfl (by kernel_rfl) (by kernel_rfl) (by kernel_rfl) (fun _ _ _ h => h) ⟨hA, fun _ => hB⟩ (by exact Jae rfl rfl) rfl ?_; refine TB_take 6 rfl rfl rfl (by kernel_rfl) (by kernel_rfl) (by kernel_rfl) (fun _ _ _ h => h) ⟨hA, fun _ => hB⟩ (by exact Jae rfl rfl) rfl ?_)
      refine TB_one 7 (by kernel_rfl) rfl ?_
      have hb515 := ((hb512.ext e13).ch c14 (by simp only [Iv]; omega)).ext e15
      refine TL_storeAgg rfl rfl Sz.h hone15 hb515 rfl ?_
      intro w16 c16 hz16 hb516
      refine Jbq (TN_anyB ⟨hA.then (c16.mono (fun j hj => .inr (by have := hj.1; have := hj.2; omega))), fun h => nomatch (show true = false from h)⟩ ?_)
      refine TB_done (by kernel_rfl) ?_
      repeat' (first | apply Jbq | apply Jbr | apply Jbt | apply Jbx | (apply Jcg; (first | exact Jaa rfl | exact Jab rfl | exact Jap rfl rfl (by omega)); exact rfl))
      exact TN_round (m - 1, (pDo dk o).1, sn15, sk15, st15) (subEnv_cons rfl (subEnv_cons rfl (subEnv_cons rfl (subEnv_cons (congrArg (fun z => some (I z)) (by simp only; omega)) (subEnv_nil _))))) ⟨by simp only; omega, hDk.pDo hop, (((c12.ext e13).then c14).ext e15).trans c16 (fun _ _ t => t) (fun j hj t => absurd t.1 (by omega)), by omega, (((hb412.ext e13).ch c14 (by simp only [Iv]; omega)).ext e15).ch c16 (by simp only [Iv]; omega), hb516, ((hcur14.ext e15).ch c16 (by intro k _; simp only [Iv]; omega)), _, _, by omega, by omega, hx15.ch c16 (by intro k _ _; simp only [Iv]; omega)⟩ (by simp only; omega)
    · repeat' (first | apply Jca | apply Jcb | apply Jcc)
      exact TN_join (dk, sn, sk, st) (subEnv_cons rfl (subEnv_cons rfl (subEnv_cons rfl (subEnv_nil _)))) ⟨hDk, c12, hs12, hb412, hb512, hcur12, lo1, hi1, hlo, hhi, hx12⟩
  rintro ⟨dk, sn, sk, st⟩ w12 ⟨hDk, c12, hs12, hb412, hb512, hcur12, lo1, hi1, hlo, hhi, hx12⟩
  simp only at hDk hb512 hx12
  skip
  refine TC_join (ι := DiskP) (fun _ => [(4, .pointer (some ⟨g4, 0, none⟩)), (5, .pointer (some ⟨g5, 0, none⟩))]) (fun x w' => DOk x ∧ Ch (Iv g (g + 1)) w w' ∧ Blk w' g4 27 (dskC noDk (.slice none 0 0) (.slice none 0 0) (.slice none 0 0)) ∧ Blk w' g5 27 (dskC x sn sk st) ∧ Cur w' g ∧ hi1 ≤ w'.heap.size ∧ ODk w' lo1 hi1 x sn sk st) ?_ ?_
  · repeat' (first | apply Jbs | apply Jbt | (apply Jcg; exact Jaa rfl; exact rfl))
    refine TL_call rfl en25 (l01Below_c hcur12 (by omega)) rfl rfl ?_
    rintro _ w13 ⟨y, rfl, hy0, hy1, _, c13, hcur13⟩
    have hs13 := c13.size
    have hb413 := hb412.ch c13 (by simp only [Iv]; omega)
    have hb513 := hb512.ch c13 (by simp only [Iv]; omega)
    have hx13 := hx12.ch c13 (by intro k _ _; simp only [Iv]; omega)
    repeat' (first | apply Jbq | apply Jbr | (apply Jcg; exact Jak rfl rfl; exact rfl))
    refine Jcx rfl (fun hp => ?_) (fun hp => ?_)
    · repeat' (first | apply Jbt | (apply Jcg; exact Jaa rfl; exact rfl))
      refine TL_call rfl en25 (l01Below_c hcur13 (by omega)) rfl rfl ?_
      rintro _ w14 ⟨z, rfl, hz0, hz1, _, c14, hcur14⟩
      have hz1 := hz1 (by omega)
      have hs14 := c14.size
      repeat' ((apply Jcg; (apply Jbl; exact Us.h; exact rfl; exact Sz.h; exact rfl); exact rfl))
      refine TL_store rfl rfl Sz.h rfl (hb513.ch c14 (by simp only [Iv]; omega)) rfl ?_
      intro w15 c15 hz15 hb515
      repeat' (apply Jbq)
      exact TN_join { dk with fuse := z } (subEnv_cons rfl (subEnv_cons rfl (subEnv_nil _))) ⟨hDk.fused (by omega), ((c12.then c13).then c14).trans c15 (fun _ _ t => t) (fun j hj t => absurd t.1 (by omega)), (hb413.ch c14 (by simp only [Iv]; omega)).ch c15 (by simp only [Iv]; omega), hb515, hcur14.ch c15 (by intro k _; simp only [Iv]; omega), by omega, (hx13.ch c14 (by intro k _ _; simp only [Iv]; omega)).ch c15 (by intro k _ _; simp only [Iv]; omega)⟩
    · repeat' (apply Jbz)
      exact TN_join dk (subEnv_cons rfl (subEnv_cons rfl (subEnv_nil _))) ⟨hDk, c12.then c13, hb413, hb513, hcur13, by omega, hx13⟩
  rintro dk w13 ⟨hDk, c13, hb413, hb513, hcur13, hhi13, hx13⟩
  have hone := hx13.one
  repeat' (first | apply Jbs | apply Jbt | refine Jcg (Pu_loadAgg (cs := dskC dk sn sk st) Us.h rfl Sz.h rfl (fun _ e j u hu => by rw [e, add0, hb513.cell]; exact hu)) rfl ?_)
  refine TL_storeAgg rfl rfl Sz.h hone hb413 rfl ?_
  intro w14 c14 hz14 hb14
  repeat' (first | apply Jbq | apply Jbr | apply Jbu)
  exact TR_of (resA rfl rfl hb14 Us.h rfl Sz.h) ⟨dk, sn, sk, st, rfl, hDk, c13.trans c14 (fun _ _ t => t) (fun j hj t => absurd t.1 (by omega)), (hx13.rd.ch c14 (by intro k _ _; simp only [Iv]; omega)).wide (by omega) (by omega) (Nat.le_refl _), hcur13.ch c14 (by intro k _; simp only [Iv]; omega)⟩
set_option maxHeartbeats 2000000 in
theorem MakeDisk_c {w : World} {lo hi : Nat} {v : Value} {s : List UInt8} (hR : RB w lo hi v s) (hl : s.length ≤ 1048576) :
    Ret Try.prog 7 #[v] w fun v' w' => ∃ (d : DiskP) (sn sk st : Value), v' = .agg (dskC d sn sk st).toArray ∧ DOk d ∧ Ext w w' ∧ RDk w' w.heap.size w'.heap.size d sn sk st := by
  refine Ret_enter Try.func7 rfl rfl rfl ?_
  repeat' (first | apply Jbs | apply Jbt)
  refine TL_alloc Zs.h rfl rfl ?_
  intro w1 g2 e1 hg2 hz1 hb2
  repeat' (first | apply Jbq | apply Jbr | apply Jbs | apply Jbt | (apply Jcg; exact Jaa rfl; exact rfl))
  refine TL_call rfl en23 (l01New_c (hR.ext e1) hl) rfl rfl ?_
  rintro _ w2 ⟨g, rfl, e2, hg, hz2, hcur⟩
  have hs2 := e2.size
  repeat' (first | apply Jbq | apply Jbr | apply Jbs | apply Jbt | (apply Jcg; (first | exact Jaa rfl | exact Jab rfl); exact rfl))
  refine TL_call rfl en24 (l03Draw_c (most := 20) hcur (by omega)) rfl rfl ?_
  rintro _ w3 ⟨d, sn, sk, st, rfl, hD, c3, hr, _⟩
  have hs3 := c3.size
  have hone := hr.one
  replace hb2 := (hb2.ext e2).ch c3 (by simp only [Iv]; omega)
  skip
  refine TL_alloc Zs.h rfl rfl ?_
  intro w4 g4 e4 hg4 hz4 hb4
  skip
  refine TL_storeAgg rfl rfl Sz.h hone hb4 rfl ?_
  intro w5 c5 hz5 hb45
  replace hb2 := (hb2.ext e4).ch c5 (by simp only [Iv]; omega)
  replace hr := (hr.ext e4).ch c5 (by intro k _ _; simp only [Iv]; omega)
  have E3 : Ext w w3 := Ext.then_iv (e1.ext e2) c3 (by omega)
  have E5 : Ext w w5 := Ext.then_iv (E3.ext e4) c5 (by omega)
  repeat' (first | apply Jbq | apply Jbr | apply Jbs | apply Jbt | refine Jcg (Pu_loadAgg (cs := dskC d sn sk st) Us.h rfl Sz.h rfl (fun _ e j u hu => by rw [e, add0, hb45.cell]; exact hu)) rfl ?_)
  refine TL_storeAgg rfl rfl Sz.h hone hb2 rfl ?_
  intro w6 c6 hz6 hb6
  repeat' (first | apply Jbq | apply Jbr | apply Jbu)
  exact TR_of (resA rfl rfl hb6 Us.h rfl Sz.h) ⟨d, sn, sk, st, rfl, hD, Ext.then_iv E5 c6 (by omega), (hr.ch c6 (by intro k _ _; simp only [Iv]; omega)).wide (by omega) (by omega) (Nat.le_refl _)⟩
section
variable {α : Type} {f : α → List Value} {e : TypeId} {P : Program} {L : List Oper} {Q : Exit → Act → World → Prop} {n d : Nat} {l : Env} {w : World} {rest : List Oper} {ty : TypeId} {pos : String} {af : Array Edge} {v v2 : Value} {x y : Operand} {t : TypeId}
theorem TL_appendRow1l {lo hi lo2 hi2 size bytes : Nat} {z : Value} {s s2 : List α} (ht : P.underlying t = some (.slice e)) (hi0 : (P.info? e).map (fun i => (i.zero, i.size, i.bytes)) = some (some z, size, bytes)) (hzs : z.cells.size = size) (hpos : Nat.blt 0 size = true) (hby : Nat.ble bytes 1024 = true)
    (hone : ∀ u ∈ cellsL f s2, u.oneCell' = true) (hx : ev l x = some v) (hy : ev l y = some v2) (ho : RowO f e size w lo hi v s) (hr : RowR f size w lo2 hi2 v2 s2)
    (hlo : lo ≤ w.heap.size) (hm : s.length + s2.length ≤ 1073741824) (hn : Nat.blt d n = true)
    (h : ∀ w' v', Ch (fun j => j ∈ blk v) w w' → (blk v' = blk v ∨ (blk v' = [w.heap.size] ∧ w.heap.size < w'.heap.size)) → RowO f e size w' lo w'.heap.size v' (s ++ s2) → TL P L Q rest n ((d, v') :: l) w') :
    TL P L Q (⟨some d, .call { callee := .builtin .append, args := #[x, y], argTypes := #[t, t] }, ty, pos, af, none⟩ :: rest) n l w := by
  obtain ⟨A, c, rfl, ho0⟩ := ho
  obtain ⟨A2, c2, rfl, _, hr⟩ := hr
  have hbin := ho0.bin
  obtain ⟨lo', hi', hlo', ho, hin⟩ := ho0.narrow2
  have hb : (s.length + s2.length) * bytes ≤ 140737488355328 := Nat.le_trans (Nat.mul_le_mul hm (Nat.le_of_ble_eq_true hby)) (by decide)
  refine TL_append ht hi0 hzs hpos hx hy ho hr hone hlo' hb (by omega) hn ?_
  intro w1 hi1 A1 c1 hch h1 h2 h3 hown
  have hz := hch.size
  have hh := ho.hi_le
  have hh0 := ho0.hi_le
  have hch' : Ch (fun j => j ∈ blk (.slice A s.length c)) w w1 := hch.mono (fun j hj => hin j hj.1 hj.2)
  have hloc : blk (.slice A1 (s.length + s2.length) c1) = blk (.slice A s.length c) ∨ (blk (.slice A1 (s.length + s2.length) c1) = [w.heap.size] ∧ w.heap.size < w1.heap.size) := by
    rcases h3 with rfl | rfl
    · left; cases A1 <;> rfl
    · right; exact ⟨rfl, Nat.lt_of_lt_of_le (hown.lt _ rfl) hown.hi_le⟩
  have hx1 : RowO f e size w1 lo' hi1 (.slice A1 (s.length + s2.length) c1) (s ++ s2) := ⟨A1, c1, by rw [List.length_append], hown.cast (by rw [List.length_append]) (cellsL_append _ _).symm⟩
  exact h w1 _ hch' hloc ((hx1.x).at_ (fun b hb => by
    rcases hloc with h | ⟨h, h2⟩
    · rw [h] at hb; have := hbin b hb; omega
    · rw [h] at hb; rw [List.mem_singleton.1 hb]; omega) (Nat.le_refl _))
end
theorem OdC_one {x : Od} (h : ∃ A m c, x.v = .slice A m c) : ∀ u ∈ cellsL OdC [x], u.oneCell' = true := by
  obtain ⟨A, m, c, hv⟩ := h
  intro u hu
  simp [cellsL, OdC, opC, hv] at hu
  rcases hu with rfl | rfl | rfl | rfl | rfl <;> rfl
theorem fillO (o : OpD) (A : Option Addr) (m c : Nat) : Instr.fill (fun i => some (i * 5, 5)) ((Array.range (1 * 5)).map ((Value.agg #[.int .i64 0, .string ByteArray.empty, .string ByteArray.empty, .int .i64 0, .slice none 0 0]).cells[· % (Value.agg #[.int .i64 0, .string ByteArray.empty, .string ByteArray.empty, .int .i64 0, .slice none 0 0]).cells.size]!)) [(0, .agg (opC o (.slice A m c)).toArray)] = some (opC o (.slice A m c)).toArray := by kernel_rfl
set_option maxRecDepth 100000 in
set_option maxHeartbeats 4000000 in
theorem MakeOps_c {w : World} {lo hi : Nat} {v : Value} {s : List UInt8} (hR : RB w lo hi v s) (hl : s.length ≤ 1048576) :
    Ret Try.prog 8 #[v] w fun v' w' => ∃ l : List OpD, l.length ≤ 8 ∧ (∀ o ∈ l, pOp o = true ∧ o.fits) ∧ Ext w w' ∧ ROp w' w.heap.size w'.heap.size v' l := by
  refine Ret_enter Try.func8 rfl rfl rfl ?_
  repeat' (first | apply Jbq | apply Jbr | apply Jbs | apply Jbt | (apply Jcg; (first | exact Jaa rfl | exact Jab rfl); exact rfl))
  refine TL_call rfl en23 (l01New_c hR hl) rfl rfl ?_
  rintro _ w1 ⟨g, rfl, e1, hg, hz1, hcur⟩
  obtain ⟨A, c, lo2, s2, i, h, hb, hr, hi2, hl2⟩ := hcur
  repeat' (first | apply Jbq | apply Jbr | apply Jbs | apply Jbt | (apply Jcg; (first | exact Jaa rfl | exact Jab rfl | exact Jba rfl | (apply Jbl; exact Us.h; exact rfl; exact Sz.h; exact rfl)); exact rfl) | refine Jcg (Pu_load Fl.h rfl (fun _ e => by rw [e]; exact hb.ld rfl)) rfl ?_ | refine Jcg (Pu_addw rfl rfl) rfl ?_)
  refine TL_store rfl rfl Sz.h rfl hb rfl ?_
  intro w2 c2 hz2 hb2
  have hcur2 : Cur w2 g := ⟨A, c, lo2, s2, i, _, hb2, hr.ch c2 (by intro k _ _; simp only [Iv]; omega), hi2, hl2⟩
  have E2 : Ext w w2 := Ext.then_iv e1 c2 hg
  repeat' (first | apply Jbq | apply Jbr | apply Jbs | apply Jbt)
  refine TL_buildSlice0 Us.h Sz.h rfl ?_
  intro w3 g3 e3 hg3 hz3 hown3
  repeat' (first | apply Jbq | apply Jbr | apply Jbs | apply Jbt | (apply Jcg; (first | exact Jaa rfl | exact Jab rfl); exact rfl))
  refine TL_call rfl en25 (l01Below_c (hcur2.ext e3) (by omega)) rfl rfl ?_
  rintro _ w4 ⟨n, rfl, hn0, hn1, _, c4, hcur4⟩
  have hn1 := hn1 (by omega)
  obtain ⟨n, rfl⟩ := Int.eq_ofNat_of_zero_le hn0
  have hs4 := c4.size
  have E4 : Ext w w4 := Ext.then_iv (E2.ext e3) c4 hg
  have hg4 := hcur4.lt
  have hgg : g < g3 := by have := hb2.lt; omega
  repeat' (first | apply Jbq | apply Jbr | apply Jby | (apply Jcg; exact Jab rfl; exact rfl))
  refine TC_loop (ι := Nat × List Od × Value) (fun x => [(3, pt g), (4, x.2.2), (5, I x.1)]) (fun x w' => x.2.1.length + x.1 = n ∧ Ext w w' ∧ w4.heap.size ≤ w'.heap.size ∧ Cur w' g ∧ RowO OdC 32 5 w' g3 w'.heap.size x.2.2 x.2.1 ∧ ∀ y ∈ x.2.1, (pOp y.o = true ∧ y.o.fits) ∧ ∃ l1 h1, RB w' l1 h1 y.v y.o.data ∧ g3 < l1 ∧ ∀ b ∈ blk x.2.2, ¬ (l1 ≤ b ∧ b < h1)) (fun x => x.1) (n, [], .slice (some ⟨g3, 0, none⟩) 0 0) (subEnv_cons rfl (subEnv_cons rfl (subEnv_cons rfl (subEnv_nil _))))
    ⟨by simp, E4, Nat.le_refl _, hcur4, ((RowO.new (l := []) rfl hown3 hg3 hz3).ch c4 (by intro k _ _; simp only [Iv]; omega)).wide (by omega) (by omega) (Nat.le_refl _), fun y hy => by cases hy⟩ ?_
  rintro ⟨m, es, va⟩ w5 ⟨hs, E5, hs5, hcur5, ho5, hall⟩
  simp only at hs ho5 hall
  show TC _ _ _ _ [(3, pt g), (4, va), (5, I (m : Int))] w5
  repeat' (first | apply Jbq | apply Jbr | apply Jbs | apply Jbt | (apply Jcg; (first | exact Jaa rfl | exact Jam rfl rfl); exact rfl))
  refine Jcx rfl (fun hb => ?_) (fun hb => ?_)
  · repeat' (first | apply Jbr | apply Jbs | apply Jbt | apply Jby | apply Jbz | (apply Jcg; exact Jaa rfl; exact rfl))
    refine TL_call rfl en26 (l03Op_c hcur5) rfl rfl ?_
    rintro _ w6 ⟨o, vo, rfl, hop, hof, hod, c6, hrb, hcur6⟩
    have hs6 := c6.size
    have hrb0 := hrb
    obtain ⟨Ad, cd, rfl, hcd, hrd⟩ := hrb
    skip
    refine TL_buildSlice Us.h Zi.h rfl rfl rfl rfl (fillO o Ad o.data.length cd) rfl rfl ?_
    intro w7 g7 e7 hg7 hz7 hown7
    have hs7 := e7.size
    have ho7 := (ho5.ch c6 (by intro k _ _; simp only [Iv]; omega)).ext e7
    have hbin := ho5.bin
    have hnew : RowO OdC 32 5 w7 w6.heap.size w7.heap.size _ [(⟨o, .slice Ad o.data.length cd⟩ : Od)] := RowO.new (l := [(⟨o, .slice Ad o.data.length cd⟩ : Od)]) rfl hown7 hg7 hz7
    skip
    refine TL_appendRow1l Us.h inf32 rfl rfl rfl (OdC_one (x := ⟨o, .slice Ad o.data.length cd⟩) ⟨_, _, _, rfl⟩) rfl rfl ho7 hnew.rd (by omega) (by simp only [List.length_cons, List.length_nil]; omega) rfl ?_
    intro w8 v8 c8 loc8 ho8
    have hs8 := c8.size
    have hsb := ho7.bin
    repeat' (first | apply Jbq | apply Jbr | apply Jbt | apply Jbx | (apply Jcg; (first | exact Jaa rfl | exact Jab rfl | exact Jap rfl rfl (by omega)); exact rfl))
    refine TN_round (m - 1, es ++ [(⟨o, .slice Ad o.data.length cd⟩ : Od)], v8) (subEnv_cons rfl (subEnv_cons rfl (subEnv_cons (congrArg (fun z => some (I z)) (by simp only; omega)) (subEnv_nil _)))) ⟨by simp only [List.length_append, List.length_cons, List.length_nil]; omega, (Ext.then_iv E5 c6 hg).ext e7 |>.trans c8 (fun _ _ t => t) (fun j hj t => by have := hsb j t; omega), by omega, (hcur6.ext e7).ch c8 (by intro k _ t; have := hsb k t; omega), ho8, ?_⟩ (by simp only; omega)
    intro y hy
    simp only at hy
    rcases List.mem_append.1 hy with hy | hy
    · obtain ⟨hy1, l1, h1, hy2, hy3, hy4⟩ := hall y hy
      have hy5 : h1 ≤ w5.heap.size := by obtain ⟨_, _, _, _, h⟩ := hy2; exact h.hi_le
      refine ⟨hy1, l1, h1, ((hy2.ch c6 (by intro k _ _; simp only [Iv]; omega)).ext e7).ch c8 (fun k h2 h3 t => hy4 k t ⟨h2, h3⟩), hy3, fun b hb => ?_⟩
      rcases loc8 with h | ⟨h, h2⟩
      · rw [h] at hb; exact hy4 b hb
      · rw [h] at hb; rw [List.mem_singleton.1 hb]; omega
    · rw [List.mem_singleton.1 hy]
      refine ⟨⟨hop, hof⟩, w5.heap.size, w6.heap.size, (hrb0.ext e7).ch c8 (fun k h2 h3 t => by have := hbin k t; omega), by omega, fun b hb => ?_⟩
      rcases loc8 with h | ⟨h, h2⟩
      · rw [h] at hb; have := hbin b hb; omega
      · rw [h] at hb; rw [List.mem_singleton.1 hb]; omega
  · repeat' (first | apply Jbq | apply Jbr | apply Jbs | apply Jbt | apply Jbu | apply Jca | apply Jcb | apply Jcc | (apply Jcg; (first | exact Jaa rfl | exact Jab rfl); exact rfl))
    refine TR_of (res1 rfl rfl) ⟨es.map (·.o), by rw [List.length_map]; omega, fun o ho => ?_, E5, ?_⟩
    · obtain ⟨y, hy, rfl⟩ := List.mem_map.1 ho
      exact (hall y hy).1
    · obtain ⟨A', c', h1, h2, h3⟩ := ho5.rd
      have hg2 := E2.size
      exact ⟨es, A', c', rfl, h1, h2, h3.wide (by omega) (Nat.le_refl _) (Nat.le_refl _), fun y hy => by
        obtain ⟨_, l1, h1, hy2, hy3, _⟩ := hall y hy
        obtain ⟨A'', c'', q1, q2, q3⟩ := hy2
        exact ⟨A'', c'', q1, q2, q3.wide (by omega) q3.hi_le (Nat.le_refl _)⟩⟩
end Go.Proofs.Ytggaghghclomkaa

/- Contracts: an operation on a disk, by the program. -/
namespace Go.Proofs.Ytggaghghclomkaa
open Go.RowKit
attribute [local irreducible] TL TC TN TX TR TQ TA Pu Ret
set_option maxRecDepth 100000 in
set_option maxHeartbeats 16000000 in
theorem opCode_c {w : World} {lo hi : Nat} {d : DiskP} {sn sk st vo : Value} {o : OpD} (h : RDk w lo hi d sn sk st) (hf : d.fits) (hl : totD d ≤ 1048576) (hD : DOk d) (hO : pOp o = true) :
    Ret Try.prog 29 #[.agg (dskC d sn sk st).toArray, .agg (opC o vo).toArray] w fun v' w' => v' = I (pCode d o) ∧ Ext w w' := by
  have hh := h
  obtain ⟨ft1, ft2⟩ := fits_tk hf
  obtain ⟨ds, A, c, hm, rfl, hc, hr, hok⟩ := h.1
  obtain ⟨At, ct, rfl, hct, hrt⟩ := h.2.2.row
  have hln : d.nodes.length = ds.length := by rw [← hm, List.length_map]
  have hB := hD.base
  unfold dBase at hB
  obtain ⟨p1, p2, p3, p4, p5, p6, p7, p8, p9⟩ := pOp_parts hO
  obtain ⟨kind, name, to, size, data⟩ := o
  simp only at p1 p2 p3 p4 p5 p6 p7 p8 p9
  have hs : name.length ≤ 9223372036854775807 := by
    by_cases h7 : kind = 7
    · rw [p2 h7]; simp
    · have := pName_len (p3 h7); omega
  refine Ret_enter Try.func29 rfl rfl rfl ?_
  repeat' (first | apply Jbs | apply Jbt)
  refine TL_box (cs := dskC d (.slice A ds.length c) sk (.slice At d.turns.length ct)) rfl rfl ?_
  intro w1 g2 e1 hg2 hz1 hb2
  skip
  refine TL_box (cs := opC ⟨kind, name, to, size, data⟩ vo) rfl rfl ?_
  intro w2 g3 e2 hg3 hz2 hb3
  replace hb2 := hb2.ext e2
  have E2 : Ext w w2 := e1.ext e2
  repeat' (first | apply Jbq | apply Jbr | apply Jbs | apply Jbt | (apply Jcg; (first | exact Jab rfl | (apply Jbl; exact Us.h; exact rfl; exact Sz.h; exact rfl)); exact rfl) | refine Jcg (Pu_load Fl.h rfl (fun _ e => by rw [e]; exact hb2.ld rfl)) rfl ?_)
  refine TL_call rfl en30 (dirOf_c (hh.2.1.ext E2) (hh.2.2.ext E2) (kept_asc ((dok_iff d).1 hD).link) (by omega) (by omega) ft1 ft2) rfl rfl ?_
  rintro _ w3 ⟨e3, hq⟩
  rcases hq with ⟨_, b, kb, rfl, _, _, hM⟩ | ⟨hA, _⟩
  case inr => exact absurd ((dok_iff d).1 hD).turn hA
  rw [show runT d.kept d.turns = pDir d from rfl] at hM
  replace hb2 := hb2.ext e3
  replace hb3 := hb3.ext e3
  have E3 := E2.ext e3
  have hk7 : kind = 1 ∨ kind = 2 ∨ kind = 3 ∨ kind = 4 ∨ kind = 5 ∨ kind = 6 ∨ kind = 7 := by omega
  cases hhas : dHas (pDir d) name with
  | false =>
    clear hr hok hrt ft1 ft2 e1 e2 e3 E2
    rcases hk7 with rfl | rfl | rfl | rfl | rfl | rfl | rfl
    all_goals (repeat' (first | apply Jbq | apply Jbr | apply Jbs | apply Jbt | apply Jbu | apply Jbv | apply Jbw | apply Jby | (refine Jce rfl ?_) | (refine Jcf rfl ?_) | (apply Jcg; (first | exact Jaa rfl | exact Jab rfl | exact Jac Us.h rfl | exact Jae rfl rfl | exact Jah rfl rfl | exact Jai rfl rfl | exact Jak rfl rfl | exact Jal rfl rfl | exact Jao rfl rfl | exact Jau Us.h rfl rfl | (apply Jbl; exact Us.h; exact rfl; exact Sz.h; exact rfl)); exact rfl) | refine Jch rfl rfl rfl ?_ | refine Jci rfl rfl rfl rfl rfl ?_ | refine Jcj rfl rfl rfl rfl ?_ | refine Jcg (Pu_load Fl.h rfl (fun _ e => by rw [e]; exact hb2.ld rfl)) rfl ?_ | refine Jcg (Pu_load Fl.h rfl (fun _ e => by rw [e]; exact hb3.ld rfl)) rfl ?_ | refine Jcg (Pu_dirLookB rfl rfl hs hhas (fun w' e => ⟨kb, by rw [e]; exact hM⟩)) rfl ?_ | (refine Jcs rfl rfl (fun hb => ?_) (fun hb => ?_) <;> (try (exfalso; omega))) | (refine Jcx rfl (fun hb => ?_) (fun hb => ?_) <;> (try (exfalso; omega)))))
    all_goals first
      | (refine TR_of (res1 rfl rfl) ⟨congrArg I ?_, E3⟩; (first | rw [pCode_1 rfl] | rw [pCode_23 (.inl rfl)] | rw [pCode_23 (.inr rfl)] | rw [pCode_4 rfl] | rw [pCode_5 rfl] | rw [pCode_6 rfl] | rw [pCode_7 rfl]); (try simp only [hhas]); (repeat' split) <;> first | rfl | (exfalso; omega) | contradiction)
      | skip
    all_goals (refine TC_quietExt mixed (by kernel_rfl) ?_)
    all_goals (repeat' (first | (apply Jck; (first | exact Jaa rfl | exact Jab rfl | exact Jai rfl rfl | exact Jak rfl rfl | (apply Jbl; exact Us.h; exact rfl; exact Sz.h; exact rfl)); exact rfl) | refine Jcm rfl rfl rfl rfl rfl ?_ | refine Jck (Pu_load Fl.h rfl (fun _ e => Ext.cell e (hb3.ld rfl))) rfl ?_))
    all_goals (refine TQ_nil fun w5 e5 => ?_)
    all_goals (replace hb2 := hb2.ext e5; replace hb3 := hb3.ext e5)
    all_goals (repeat' (first | apply Jbq | apply Jbr | apply Jbs | apply Jbt | apply Jbu | apply Jbx | apply Jbz | (refine Jcf rfl ?_) | (apply Jcg; (first | exact Jaa rfl | exact Jab rfl | exact Jai rfl rfl | exact Jak rfl rfl | (apply Jbl; exact Us.h; exact rfl; exact Sz.h; exact rfl)); exact rfl) | refine Jci rfl rfl rfl rfl rfl ?_ | refine Jcg (Pu_load Fl.h rfl (fun _ e => by rw [e]; exact hb3.ld rfl)) rfl ?_))
    all_goals (refine TR_of (res1 rfl rfl) ⟨congrArg I ?_, E3.ext e5⟩; (first | rw [pCode_1 rfl] | rw [pCode_23 (.inl rfl)] | rw [pCode_23 (.inr rfl)] | rw [pCode_4 rfl] | rw [pCode_5 rfl] | rw [pCode_6 rfl] | rw [pCode_7 rfl]); (try simp only [hhas]); (repeat' split) <;> first | rfl | (exfalso; omega) | contradiction)
  | true =>
    obtain ⟨i, hi, hat, _⟩ := hD.dirAt hhas
    have hne7 : kind ≠ 7 := fun e => by rw [p2 e, hD.noName] at hhas; cases hhas
    have hbat : bodyAt d (opAt d ⟨kind, name, to, size, data⟩) = d.nodes[i].2.1 := by unfold opAt; simp only; rw [hat]; exact bodyAt_nat hi
    obtain ⟨ad, rfl, hcell⟩ := Rd.elem NdC_len (hr.ext E3) (k := i) (by omega)
    have hni : d.nodes[i] = NdP ds[i] := by simp only [← hm, List.getElem_map]
    have hbody : d.nodes[i].2.1 = ds[i].body := by rw [hni]; rfl
    have hrb := (hok _ (List.getElem_mem (show i < ds.length by omega))).1
    have hcv : w3.cell? ((ad.add (i * 3)).add 1) = some (ds[i]'(by omega)).vb := hcell 1 _ rfl
    obtain ⟨x, hx⟩ : ∃ x, x = ds[i]'(by omega) := ⟨_, rfl⟩
    rw [← hx] at hcv hrb hbody
    rw [hbody] at hbat
    obtain ⟨Ab, cb, hvb, hcb, hrdb⟩ := hrb
    rw [hvb] at hcv
    obtain ⟨B, hBq⟩ : ∃ B, B = x.body := ⟨_, rfl⟩
    rw [← hBq] at hcv hbat
    clear hr hok hrt ft1 ft2 e1 e2 e3 hcell hrdb
    have hk6 : kind = 1 ∨ kind = 2 ∨ kind = 3 ∨ kind = 4 ∨ kind = 5 ∨ kind = 6 := by omega
    have hnd : ∀ w', Ext w3 w' → Ret Try.prog 31 #[.agg (dskC d (.slice (some ad) ds.length c) sk (.slice At d.turns.length ct)).toArray, I (dFind (pDir d) name)] w' fun v w'' => v = I (i : Int) ∧ Ext w3 w'' := fun w' e =>
      (implnodeAt_c (hh.ext (E3.ext e)) (by omega)).mono fun v w'' ⟨hv, e2⟩ => ⟨by rw [hv, hat], e.ext e2⟩
    rcases hk6 with rfl | rfl | rfl | rfl | rfl | rfl
    all_goals (repeat' (first | apply Jbq | apply Jbr | apply Jbs | apply Jbt | apply Jbu | apply Jbv | apply Jbw | apply Jby | (refine Jce rfl ?_) | (refine Jcf rfl ?_) | (apply Jcg; (first | exact Jaa rfl | exact Jab rfl | exact Jac Us.h rfl | exact Jae rfl rfl | exact Jah rfl rfl | exact Jai rfl rfl | exact Jak rfl rfl | exact Jal rfl rfl | exact Jao rfl rfl | exact Jau Us.h rfl rfl | (apply Jbl; exact Us.h; exact rfl; exact Sz.h; exact rfl)); exact rfl) | refine Jch rfl rfl rfl ?_ | refine Jci rfl rfl rfl rfl rfl ?_ | refine Jcj rfl rfl rfl rfl ?_ | refine Jcg (Pu_load Fl.h rfl (fun _ e => by rw [e]; exact hb2.ld rfl)) rfl ?_ | refine Jcg (Pu_load Fl.h rfl (fun _ e => by rw [e]; exact hb3.ld rfl)) rfl ?_ | refine Jcg (Pu_dirLookB rfl rfl hs hhas (fun w' e => ⟨kb, by rw [e]; exact hM⟩)) rfl ?_ | (refine Jcx rfl (fun hb => ?_) (fun hb => ?_) <;> (try (exfalso; omega)))))
    all_goals first
      | (refine TR_of (res1 rfl rfl) ⟨congrArg I ?_, E3⟩; (first | rw [pCode_1 rfl] | rw [pCode_23 (.inl rfl)] | rw [pCode_23 (.inr rfl)] | rw [pCode_4 rfl] | rw [pCode_5 rfl] | rw [pCode_6 rfl] | rw [pCode_7 rfl]); (try simp only [hhas]); (repeat' split) <;> first | rfl | (exfalso; omega) | contradiction)
      | skip
    all_goals (refine TC_quietExt mixed (by kernel_rfl) ?_)
    all_goals (repeat' (first | (apply Jck; (first | exact Jaa rfl | exact Jab rfl | exact Jac Us.h rfl | exact Jah rfl rfl | exact Jai rfl rfl | exact Jak rfl rfl | exact Jam rfl rfl | exact Jar Us.h Sz.h rfl rfl (by omega) | (apply Jbl; exact Us.h; exact rfl; exact Sz.h; exact rfl)); exact rfl) | refine Jcl rfl rfl rfl ?_ | refine Jcm rfl rfl rfl rfl rfl ?_ | refine Jck (Pu_load Fl.h rfl (fun _ e => Ext.cell e (hb2.ld rfl))) rfl ?_ | refine Jck (Pu_load Fl.h rfl (fun _ e => Ext.cell e (hb3.ld rfl))) rfl ?_ | refine Jck (Pu_load Fl.h rfl (fun _ e => Ext.cell e hcv)) rfl ?_ | refine Jck (Pu_loadAgg (cs := dskC d (.slice (some ad) ds.length c) sk (.slice At d.turns.length ct)) Us.h rfl Sz.h rfl (fun _ e j u hu => Ext.cell e (by rw [add0, hb2.cell]; exact hu))) rfl ?_ | refine TQ_call rfl en31 hnd rfl ?_))
    all_goals (refine TQ_nil fun w5 e5 => ?_)
    all_goals (replace hb2 := hb2.ext e5; replace hb3 := hb3.ext e5)
    all_goals (repeat' (first | apply Jbq | apply Jbr | apply Jbs | apply Jbt | apply Jbu | apply Jbv | apply Jbw | apply Jbx | apply Jbz | (refine Jcf rfl ?_) | (apply Jcg; (first | exact Jaa rfl | exact Jab rfl | exact Jah rfl rfl | exact Jai rfl rfl | exact Jak rfl rfl | exact Jas rfl rfl | (apply Jbl; exact Us.h; exact rfl; exact Sz.h; exact rfl)); exact rfl) | refine Jch rfl rfl rfl ?_ | refine Jci rfl rfl rfl rfl rfl ?_ | refine Jcg (Pu_load Fl.h rfl (fun _ e => by rw [e]; exact hb3.ld rfl)) rfl ?_ | (refine Jcx rfl (fun hb => ?_) (fun hb => ?_) <;> (try (exfalso; omega)))))
    all_goals (refine TR_of (res1 rfl rfl) ⟨congrArg I ?_, E3.ext e5⟩; (first | rw [pCode_1 rfl] | rw [pCode_23 (.inl rfl)] | rw [pCode_23 (.inr rfl)] | rw [pCode_4 rfl, hbat] | rw [pCode_5 rfl] | rw [pCode_6 rfl] | rw [pCode_7 rfl]); (try simp only [hhas]); (repeat' split) <;> first | rfl | (exfalso; omega) | contradiction)
end Go.Proofs.Ytggaghghclomkaa

/- Contracts: an operation on a disk is carried out, by the program. -/
namespace Go.Proofs.Ytggaghghclomkaa
open Go.RowKit
attribute [local irreducible] TL TC TN TX TR TQ TA Pu Ret
set_option maxRecDepth 100000 in
set_option maxHeartbeats 16000000 in
theorem implDiskDo_c {w : World} {lo hi lo2 hi2 : Nat} {d : DiskP} {sn sk st vo : Value} {o : OpD} (h : RDk w lo hi d sn sk st) (hf : d.fits) (hl : totD d ≤ 1048576) (ho : RB w lo2 hi2 vo o.data) (hof : o.fits) :
    Ret Try.prog 9 #[.agg (dskC d sn sk st).toArray, .agg (opC o vo).toArray] w fun v' w' => ∃ sn' sk' st', v' = .tuple #[.agg (dskC (pDo d o).1 sn' sk' st').toArray, I (pDo d o).2] ∧ Ext w w' ∧ ODk w' w.heap.size w'.heap.size (pDo d o).1 sn' sk' st' := by
  have hh := h
  obtain ⟨ft1, ft2⟩ := fits_tk hf
  have ho0 := ho
  obtain ⟨kind, name, to, size, data⟩ := o
  obtain ⟨Ad, cd, rfl, hcd, hrd⟩ := ho
  simp only at hcd hrd ho0
  refine Ret_enter Try.func9 rfl rfl rfl ?_
  repeat' (first | apply Jbs | apply Jbt)
  refine TL_box (cs := dskC d sn sk st) rfl rfl ?_
  intro w1 g2 e1 hg2 hz1 hb2
  skip
  refine TL_box (cs := opC ⟨kind, name, to, size, data⟩ (.slice Ad data.length cd)) rfl rfl ?_
  intro w2 g3 e2 hg3 hz2 hb3
  replace hb2 := hb2.ext e2
  skip
  refine TL_alloc Zs.h rfl rfl ?_
  intro w3 g4 e3 hg4 hz3 hb4
  replace hb2 := hb2.ext e3
  replace hb3 := hb3.ext e3
  have E3 : Ext w w3 := (e1.ext e2).ext e3
  repeat' (first | apply Jbq | apply Jbr | apply Jbs | apply Jbt | (apply Jcg; exact Jab rfl; exact rfl) | refine Jcg (Pu_loadAgg (cs := dskC d sn sk st) Us.h rfl Sz.h rfl (fun _ e j u hu => by rw [e, add0, hb2.cell]; exact hu)) rfl ?_)
  refine TL_call rfl en11 (implDiskOk_c (hh.ext E3) hf hl) rfl rfl ?_
  rintro _ w4 ⟨rfl, e4⟩
  replace hb2 := hb2.ext e4
  replace hb3 := hb3.ext e4
  replace hb4 := hb4.ext e4
  have hs4 := e4.size
  have E4 := E3.ext e4
  cases hp : pDOk d with
  | false =>
    rw [pDo_no (fun h => by rw [pDOk_yes h.1] at hp; cases hp)]
    repeat' (first | apply Jbq | apply Jbr | apply Jbs | apply Jbt | (refine Jce rfl ?_) | (apply Jcg; (first | exact Jaa rfl | exact Jah rfl rfl | exact Jaj rfl); exact rfl) | refine Jci rfl rfl rfl rfl rfl ?_ | refine Jcg (Pu_build (cs := dskC noDk (.slice none 0 0) (.slice none 0 0) (.slice none 0 0)) rfl (by kernel_rfl)) rfl ?_)
    refine TL_storeAgg rfl rfl Sz.h rfl hb4 rfl ?_
    intro w8 c8 hz8 hb8
    have E8 : Ext w w8 := Ext.then_iv E4 c8 (by omega)
    repeat' (first | apply Jbq | apply Jbr | apply Jbu | apply Jbv | (apply Jcg; exact Jab rfl; exact rfl))
    exact TR_of (resA1 rfl rfl rfl hb8 Us.h rfl Sz.h) ⟨_, _, _, rfl, E8, ODk.nil (Nat.le_refl _)⟩
  | true =>
    have hD := pDOk_of hp
    repeat' (first | (apply Jcg; (first | exact Jaa rfl | exact Jaj rfl); exact rfl) | refine Jch rfl rfl rfl ?_ | refine Jcg (Pu_loadAgg (cs := opC ⟨kind, name, to, size, data⟩ (.slice Ad data.length cd)) Us.h rfl Sz.h rfl (fun _ e j u hu => by rw [e, add0, hb3.cell]; exact hu)) rfl ?_)
    refine TL_call rfl en27 (implOpOk_c (o := ⟨kind, name, to, size, data⟩) (ho0.ext E4) hof) rfl rfl ?_
    rintro _ w5 ⟨rfl, e5⟩
    replace hb2 := hb2.ext e5
    replace hb3 := hb3.ext e5
    replace hb4 := hb4.ext e5
    have hs5 := e5.size
    have E5 := E4.ext e5
    cases hq : pOp ⟨kind, name, to, size, data⟩ with
    | false =>
      rw [pDo_no (fun h => by rw [h.2] at hq; cases hq)]
      repeat' (first | apply Jbq | apply Jbr | apply Jbs | apply Jbt | (refine Jce rfl ?_) | (apply Jcg; (first | exact Jai rfl rfl | exact Jaj rfl); exact rfl) | refine Jch rfl rfl rfl ?_ | refine Jcg (Pu_build (cs := dskC noDk (.slice none 0 0) (.slice none 0 0) (.slice none 0 0)) rfl (by kernel_rfl)) rfl ?_)
      refine TL_storeAgg rfl rfl Sz.h rfl hb4 rfl ?_
      intro w8 c8 hz8 hb8
      have E8 : Ext w w8 := Ext.then_iv E5 c8 (by omega)
      repeat' (first | apply Jbq | apply Jbr | apply Jbu | apply Jbv | (apply Jcg; exact Jab rfl; exact rfl))
      exact TR_of (resA1 rfl rfl rfl hb8 Us.h rfl Sz.h) ⟨_, _, _, rfl, E8, ODk.nil (Nat.le_refl _)⟩
    | true =>
      have hB := hD.base
      unfold dBase at hB
      obtain ⟨p1, p2, p3, p4, p5, p6, p7, p8, p9⟩ := pOp_parts hq
      simp only at p1 p2 p3 p4 p5 p6 p7 p8 p9
      have hs : name.length ≤ 9223372036854775807 := by
        by_cases h7 : kind = 7
        · rw [p2 h7]; simp
        · have := pName_len (p3 h7); omega
      repeat' (first | apply Jbq | apply Jbr | apply Jbs | apply Jbt | apply Jbz | (refine Jcf rfl ?_) | (apply Jcg; (first | exact Jai rfl rfl | exact Jaj rfl); exact rfl) | refine Jch rfl rfl rfl ?_ | refine Jcg (Pu_loadAgg (cs := dskC d sn sk st) Us.h rfl Sz.h rfl (fun _ e j u hu => by rw [e, add0, hb2.cell]; exact hu)) rfl ?_)
      refine TL_call rfl en28 (implcopyDisk_c (hh.ext E5) hl) rfl rfl ?_
      rintro _ w6 ⟨sn1, sk1, st1, rfl, e6, hx⟩
      replace hb2 := hb2.ext e6
      replace hb3 := hb3.ext e6
      replace hb4 := hb4.ext e6
      have hs6 := e6.size
      have E6 := E5.ext e6
      have hone := hx.one
      skip
      refine TL_alloc Zs.h rfl rfl ?_
      intro w6a g6 e6a hg6 hz6a hb6
      skip
      refine TL_storeAgg rfl rfl Sz.h hone hb6 rfl ?_
      clear hb6
      intro w6b c6b hz6b hb6
      replace hb2 := (hb2.ext e6a).ch c6b (by simp only [Iv]; omega)
      replace hb3 := (hb3.ext e6a).ch c6b (by simp only [Iv]; omega)
      replace hb4 := (hb4.ext e6a).ch c6b (by simp only [Iv]; omega)
      replace hx := (hx.ext e6a).ch c6b (by intro k _ _; simp only [Iv]; omega)
      replace E6 : Ext w w6b := Ext.then_iv (E6.ext e6a) c6b (by have := E5.size; omega)
      repeat' (first | apply Jbq | apply Jbr | apply Jbs | apply Jbt | refine Jcg (Pu_loadAgg (cs := dskC d sn sk st) Us.h rfl Sz.h rfl (fun _ e j u hu => by rw [e, add0, hb2.cell]; exact hu)) rfl ?_ | refine Jcg (Pu_loadAgg (cs := opC ⟨kind, name, to, size, data⟩ (.slice Ad data.length cd)) Us.h rfl Sz.h rfl (fun _ e j u hu => by rw [e, add0, hb3.cell]; exact hu)) rfl ?_)
      refine TL_call rfl en29 (opCode_c (hh.ext E6) hf hl hD hq) rfl rfl ?_
      rintro _ w7 ⟨rfl, e7⟩
      replace hb2 := hb2.ext e7
      replace hb3 := hb3.ext e7
      replace hb4 := hb4.ext e7
      replace hb6 := hb6.ext e7
      replace hx := hx.ext e7
      have hs7 := e7.size
      have E7 := E6.ext e7
      by_cases hc : pCode d ⟨kind, name, to, size, data⟩ = 0
      case neg =>
        rw [pDo_code hD hq hc]
        repeat' (first | apply Jbq | apply Jbr | apply Jbs | apply Jbt | (apply Jcg; (first | exact Jaa rfl | exact Jab rfl | exact Jal rfl rfl); exact rfl))
        refine Jcy rfl (fun _ => ?_) (fun hb => absurd hb hc)
        repeat' (first | apply Jbs | apply Jbt | (apply Jcg; exact Jaa rfl; exact rfl) | refine Jcg (Pu_loadAgg (cs := dskC d sn1 sk1 st1) Us.h rfl Sz.h rfl (fun _ e j u hu => by rw [e, add0, hb6.cell]; exact hu)) rfl ?_)
        refine TL_storeAgg rfl rfl Sz.h hone hb4 rfl ?_
        intro w8 c8 hz8 hb8
        repeat' (first | apply Jbq | apply Jbr | apply Jbu | apply Jbv | (apply Jcg; exact Jab rfl; exact rfl))
        exact TR_of (resA1 rfl rfl rfl hb8 Us.h rfl Sz.h) ⟨sn1, sk1, st1, rfl, Ext.then_iv E7 c8 (by omega), (hx.ch c8 (by intro k _ _; simp only [Iv]; omega)).wide (by omega) (by omega) (Nat.le_refl _)⟩
      rw [pDo_yes hD hq hc, hc]
      obtain ⟨es, hmap, hN, hK, hT, q1, q2, q3⟩ := hx.parts
      clear hx
      obtain ⟨hfu, hch, hc1, hct, hc4, hc5⟩ := pCode_has hc
      simp only at hch hc1 hct hc4 hc5
      repeat' (first | apply Jbq | apply Jbr | (apply Jcg; exact Jab rfl; exact rfl))
      apply Jbs
      repeat' (first | apply Jbq | apply Jbr | apply Jbt | apply Jbz | (refine Jcf rfl ?_) | (apply Jcg; (first | exact Jaa rfl | exact Jal rfl rfl); exact rfl))
      refine TC_join (ι := Unit) (fun _ => [(2, .pointer (some ⟨g2, 0, none⟩)), (3, .pointer (some ⟨g3, 0, none⟩)), (4, .pointer (some ⟨g4, 0, none⟩)), (6, .pointer (some ⟨g6, 0, none⟩))]) (fun _ w' => Ch (Iv g6 (g6 + 1)) w7 w' ∧ w'.heap.size = w7.heap.size ∧ Blk w' g6 27 [I d.room, I (fuseOf d), I d.next, sn1, sk1, st1]) ?_ ?_
      · repeat' (first | apply Jbq | apply Jbr | apply Jbs | apply Jbt | (apply Jcg; (first | exact Jam rfl rfl | (apply Jbl; exact Us.h; exact rfl; exact Sz.h; exact rfl)); exact rfl) | refine Jcg (Pu_load Fl.h rfl (fun _ e => by rw [e]; exact hb6.ld rfl)) rfl ?_)
        refine Jcx rfl (fun hfp => ?_) (fun hfp => ?_)
        · repeat' (first | apply Jbt | (apply Jcg; (first | exact Jap rfl rfl (by omega) | (apply Jbl; exact Us.h; exact rfl; exact Sz.h; exact rfl)); exact rfl) | refine Jcg (Pu_load Fl.h rfl (fun _ e => by rw [e]; exact hb6.ld rfl)) rfl ?_)
          refine TL_store rfl rfl Sz.h rfl hb6 rfl ?_
          intro w8 c8 hz8 hb8
          repeat' (apply Jbq)
          refine TN_join () (subEnv_cons rfl (subEnv_cons rfl (subEnv_cons rfl (subEnv_cons rfl (subEnv_nil _))))) ⟨c8, hz8, ?_⟩
          rw [show fuseOf d = d.fuse - 1 from if_pos hfp]
          exact hb8
        · repeat' (apply Jbz)
          refine TN_join () (subEnv_cons rfl (subEnv_cons rfl (subEnv_cons rfl (subEnv_cons rfl (subEnv_nil _))))) ⟨Ch.refl _ _, rfl, ?_⟩
          rw [show fuseOf d = d.fuse from if_neg hfp]
          exact hb6
      rintro _ w8 ⟨c8, hz8, hb68⟩
      clear hb6
      replace hb2 := hb2.ch c8 (by simp only [Iv]; omega)
      replace hb3 := hb3.ch c8 (by simp only [Iv]; omega)
      replace hb4 := hb4.ch c8 (by simp only [Iv]; omega)
      replace hN := hN.ch c8 (fun b hb => by have := q1 b hb; simp only [Iv]; omega)
      replace hK := hK.ch c8 (fun b hb => by have := q2 b hb; simp only [Iv]; omega)
      replace hT := hT.ch c8 (fun b hb => by have := q3 b hb; simp only [Iv]; omega)
      have E8 : Ext w w8 := Ext.then_iv E7 c8 (by have := E5.size; omega)
      repeat' (first | apply Jbs | apply Jbt | (apply Jcg; (apply Jbl; exact Us.h; exact rfl; exact Sz.h; exact rfl); exact rfl) | refine Jcg (Pu_load Fl.h rfl (fun _ e => by rw [e]; exact hb2.ld rfl)) rfl ?_)
      refine TL_call rfl en30 (dirOf_c (hh.2.1.ext E8) (hh.2.2.ext E8) (kept_asc ((dok_iff d).1 hD).link) (by omega) (by omega) ft1 ft2) rfl rfl ?_
      rintro _ w9 ⟨e9, hdq⟩
      rcases hdq with ⟨_, b, kb, rfl, hbw, _, hM⟩ | ⟨hA, _⟩
      case inr => exact absurd ((dok_iff d).1 hD).turn hA
      rw [show runT d.kept d.turns = pDir d from rfl] at hM
      replace hb2 := hb2.ext e9
      replace hb3 := hb3.ext e9
      replace hb4 := hb4.ext e9
      replace hb6 := hb68.ext e9
      clear hb68
      replace hN := hN.ext e9
      replace hK := hK.ext e9
      replace hT := hT.ext e9
      have hs9 := e9.size
      have E9 := E8.ext e9
      repeat' (first | apply Jbq | apply Jbr | apply Jbs | apply Jbt | (apply Jcg; (first | exact Jaa rfl | exact Jab rfl | exact Jae rfl rfl | (apply Jbl; exact Us.h; exact rfl; exact Sz.h; exact rfl)); exact rfl) | refine Jcg (Pu_loadAgg (cs := dskC d sn sk st) Us.h rfl Sz.h rfl (fun _ e j u hu => by rw [e, add0, hb2.cell]; exact hu)) rfl ?_ | refine Jcg (Pu_load Fl.h rfl (fun _ e => by rw [e]; exact hb3.ld rfl)) rfl ?_ | refine Jcg (Pu_dirLook1 rfl rfl hs (fun w' e => ⟨kb, by rw [e]; exact hM⟩)) rfl ?_)
      have hln : d.nodes.length ≤ 1048576 := by omega
      refine TL_call rfl en31 (implnodeAt_c (hh.ext E9) hln) rfl rfl ?_
      rintro _ w10 ⟨rfl, e10⟩
      replace hb2 := hb2.ext e10
      replace hb3 := hb3.ext e10
      replace hb4 := hb4.ext e10
      replace hb6 := hb6.ext e10
      replace hN := hN.ext e10
      replace hK := hK.ext e10
      replace hT := hT.ext e10
      replace hM := hM.ext e10
      have hs10 := e10.size
      have E10 := E9.ext e10
      have hw5 : w.heap.size ≤ g2 ∧ g2 < g3 ∧ g3 < g4 ∧ g4 < w5.heap.size ∧ w5.heap.size ≤ w6.heap.size ∧ w6.heap.size = g6 ∧ g6 < w7.heap.size ∧ w7.heap.size ≤ w8.heap.size ∧ w8.heap.size ≤ w9.heap.size ∧ w9.heap.size ≤ w10.heap.size := by
        have := E3.size
        omega
      -- kinds
      by_cases hk17 : kind = 1 ∨ kind = 7
      · have hhas : dHas (pDir d) name = false := by
          rcases hk17 with rfl | rfl
          · simpa using hch (by decide)
          · rw [p2 rfl]; exact hD.noName
        have hat : nAt d.nodes (dFind (pDir d) name) = -1 := by rw [dFind_none hhas]; exact hD.at0
        rw [hat]
        repeat' (first | apply Jbq | apply Jbr | (apply Jcg; exact Jab rfl; exact rfl))
        apply Jbs
        repeat' (first | apply Jbq | apply Jbr | apply Jbt | apply Jbz | (refine Jcf rfl ?_) | (apply Jcg; (first | exact Jaa rfl | exact Jao rfl rfl); exact rfl))
        refine TC_join (ι := Unit) (fun _ => [(4, .pointer (some ⟨g4, 0, none⟩)), (6, .pointer (some ⟨g6, 0, none⟩))]) (fun _ w' => Ext w w' ∧ w10.heap.size ≤ w'.heap.size ∧ Blk w' g4 27 (dskC noDk (.slice none 0 0) (.slice none 0 0) (.slice none 0 0)) ∧ doC d ⟨kind, name, to, size, data⟩ = 0 ∧ ∃ sn' sk' st', Blk w' g6 27 (dskC (doD d ⟨kind, name, to, size, data⟩) sn' sk' st') ∧ ODk w' w5.heap.size w'.heap.size (doD d ⟨kind, name, to, size, data⟩) sn' sk' st') ?_ ?_
        · rcases hk17 with rfl | rfl
          · obtain ⟨hc11, hc12⟩ := hc1 rfl
            have hct' := hct (.inl rfl)
            have hto := p5 (by decide)
            repeat' (first | apply Jbq | apply Jbr | apply Jbs | apply Jbt | apply Jby | (refine Jce rfl ?_) | (apply Jcg; (first | exact Jab rfl | exact Jak rfl rfl | (apply Jbl; exact Us.h; exact rfl; exact Sz.h; exact rfl)); exact rfl) | refine Jcg (Pu_load Fl.h rfl (fun _ e => by rw [e]; exact hb6.ld rfl)) rfl ?_ | refine Jcg (Pu_load Fl.h rfl (fun _ e => by rw [e]; exact hb3.ld rfl)) rfl ?_ | refine Jcg (Pu_build (cs := TnC ⟨1, name, [], d.next⟩) rfl (by kernel_rfl)) rfl ?_)
            refine TL_buildSlice Us.h Zi.h rfl rfl rfl rfl (fillT ⟨1, name, [], d.next⟩) rfl rfl ?_
            intro w11 g11 e11 hg11 hz11 hown11
            skip
            refine TL_appendOx Us.h Inf.h rfl rfl rfl TnC_one rfl rfl (hT.ext e11) (RowO.new (l := [(⟨1, name, [], d.next⟩ : TnD)]) rfl hown11 hg11 hz11).rd (by simp only [List.length_cons, List.length_nil]; omega) rfl ?_
            intro w12 st2 c12 loc12 hT12
            have hs11 := e11.size
            have hs12 := c12.size
            have hst2 : ∀ b ∈ blk st2, (w5.heap.size ≤ b ∧ b < w6.heap.size ∧ b ∈ blk st1) ∨ (w11.heap.size ≤ b ∧ b < w12.heap.size) := fun b hb => by
              rcases loc12 with h | ⟨h, h2⟩
              · rw [h] at hb; have := q3 b hb; exact .inl ⟨this.1, this.2, hb⟩
              · rw [h] at hb; rw [List.mem_singleton.1 hb]; exact .inr ⟨Nat.le_refl _, h2⟩
            have hN12 := (hN.ext e11).ch c12 (fun b hb => (q1 b hb).2.2.2)
            have hK12 := (hK.ext e11).ch c12 (fun b hb => (q2 b hb).2.2)
            have hb612 := (hb6.ext e11).ch c12 (fun hb => by have := q3 g6 hb; omega)
            have hb412 := (hb4.ext e11).ch c12 (fun hb => by have := q3 g4 hb; omega)
            have hb212 := (hb2.ext e11).ch c12 (fun hb => by have := q3 g2 hb; omega)
            have hb312 := (hb3.ext e11).ch c12 (fun hb => by have := q3 g3 hb; omega)
            have E12 : Ext w w12 := (E10.ext e11).trans c12 (fun _ _ t => t) (fun j hj t => by have := q3 j t; omega)
            repeat' ((apply Jcg; (apply Jbl; exact Us.h; exact rfl; exact Sz.h; exact rfl); exact rfl))
            refine TL_store rfl rfl Sz.h hT12.one hb612 rfl ?_
            intro w13 c13 hz13 hb613
            have hN13 := hN12.ch c13 (fun b hb => by have := q1 b hb; simp only [Iv]; omega)
            have hK13 := hK12.ch c13 (fun b hb => by have := q2 b hb; simp only [Iv]; omega)
            have hT13 := hT12.ch c13 (fun b hb => by have := hst2 b hb; simp only [Iv]; omega)
            have hb413 := hb412.ch c13 (by simp only [Iv]; omega)
            have E13 : Ext w w13 := Ext.then_iv E12 c13 (by omega)
            have hb213 := hb212.ch c13 (by simp only [Iv]; omega)
            repeat' (first | apply Jbq | apply Jbr | apply Jbs | apply Jbt | (apply Jcg; (apply Jbl; exact Us.h; exact rfl; exact Sz.h; exact rfl); exact rfl) | refine Jcg (Pu_load Fl.h rfl (fun _ e => by rw [e]; exact hb613.ld rfl)) rfl ?_ | refine Jcg (Pu_build (cs := [I d.next, .slice none 0 0, .slice none 0 0]) rfl (by kernel_rfl)) rfl ?_)
            refine TL_buildSlice Us.h Zi.h rfl rfl rfl rfl (fillN d.next none none 0 0 0 0) rfl rfl ?_
            intro w14 g14 e14 hg14 hz14 hown14
            have hnew := nd_new (d := ⟨d.next, [], [], .slice none 0 0, .slice none 0 0⟩) hown14 rfl rfl hg14 hz14
            have hs14 := e14.size
            have hbz : bkd (⟨d.next, [], [], .slice none 0 0, .slice none 0 0⟩ : Nd) = [] := rfl
            have hel : es.length = d.nodes.length := by rw [← hmap, List.length_map]
            skip
            refine TL_appendN Us.h rfl rfl (hN13.ext e14) hnew.rd (OB.x (OB.nil _ 0 (Nat.zero_le _))) (OB.x (OB.nil _ 0 (Nat.zero_le _))) (by rw [hbz, List.append_nil]; exact hN13.nd) (by rw [hbz, List.append_nil]; exact fun b hb => by have := q1 b hb; omega) (by omega) rfl ?_
            intro w15 sn2 c15 loc15 hN15
            have hs15 := c15.size
            have hsn1 : ∀ b ∈ blk sn1, b ∈ bksN sn1 es := fun b hb => List.mem_append.2 (.inl hb)
            have hsn2 : ∀ b ∈ blk sn2, b ∈ blk sn1 ∨ (w14.heap.size ≤ b ∧ b < w15.heap.size) := fun b hb => by
              rcases loc15 with h | ⟨h, h2⟩
              · rw [h] at hb; exact .inl hb
              · rw [h] at hb; rw [List.mem_singleton.1 hb]; exact .inr ⟨Nat.le_refl _, h2⟩
            have hK15 := (hK13.ext e14).ch c15 (fun b hb hm => (q1 b (hsn1 b hm)).2.2.1 hb)
            have hT15 := (hT13.ext e14).ch c15 (fun b hb hm => by
              have h1 := q1 b (hsn1 b hm)
              rcases hst2 b hb with h2 | h2
              · exact h1.2.2.2 h2.2.2
              · omega)
            have hb615 := (hb613.ext e14).ch c15 (fun hm => by have := q1 g6 (hsn1 _ hm); omega)
            have hb415 := (hb413.ext e14).ch c15 (fun hm => by have := q1 g4 (hsn1 _ hm); omega)
            have E15 : Ext w w15 := (E13.ext e14).trans c15 (fun _ _ t => t) (fun j hj t => by have := q1 j (hsn1 j t); omega)
            repeat' ((apply Jcg; (apply Jbl; exact Us.h; exact rfl; exact Sz.h; exact rfl); exact rfl))
            refine TL_store rfl rfl Sz.h hN15.row.one hb615 rfl ?_
            intro w16 c16 hz16 hb616
            have hb416 := hb415.ch c16 (by simp only [Iv]; omega)
            repeat' (first | apply Jbq | apply Jbr | apply Jbt | (apply Jcg; (first | exact Jaf rfl rfl (by omega) | (apply Jbl; exact Us.h; exact rfl; exact Sz.h; exact rfl)); exact rfl) | refine Jcg (Pu_load Fl.h rfl (fun _ e => by rw [e]; exact hb616.ld rfl)) rfl ?_)
            refine TL_store rfl rfl Sz.h rfl hb616 rfl ?_
            intro w17 c17 hz17 hb617
            have hb417 := hb416.ch c17 (by simp only [Iv]; omega)
            have hbN : ∀ b ∈ bksN sn2 (es ++ [(⟨d.next, [], [], .slice none 0 0, .slice none 0 0⟩ : Nd)]), b ∈ bksN sn1 es ∨ (w14.heap.size ≤ b ∧ b < w15.heap.size) := fun b hb => by
              unfold bksN at hb
              rw [List.flatMap_append] at hb
              rcases List.mem_append.1 hb with hb | hb
              · rcases hsn2 b hb with h | h
                · exact .inl (hsn1 b h)
                · exact .inr h
              · rcases List.mem_append.1 hb with hb | hb
                · exact .inl (List.mem_append.2 (.inr hb))
                · simp [hbz] at hb
            have hN17 := (hN15.ch c16 (fun b hb => by rcases hbN b hb with h | h; (have := q1 b h; simp only [Iv]; omega); (simp only [Iv]; omega))).ch c17 (fun b hb => by rcases hbN b hb with h | h; (have := q1 b h; simp only [Iv]; omega); (simp only [Iv]; omega))
            have hK17 := (hK15.ch c16 (fun b hb => by have := q2 b hb; simp only [Iv]; omega)).ch c17 (fun b hb => by have := q2 b hb; simp only [Iv]; omega)
            have hT17 := (hT15.ch c16 (fun b hb => by have := hst2 b hb; simp only [Iv]; omega)).ch c17 (fun b hb => by have := hst2 b hb; simp only [Iv]; omega)
            repeat' (first | apply Jbq | apply Jbx)
            refine TN_join () (subEnv_cons rfl (subEnv_cons rfl (subEnv_nil _))) ⟨Ext.then_iv (Ext.then_iv E15 c16 (by omega)) c17 (by omega), by omega, hb417, rfl, sn2, sk1, st2, hb617, ODk.mk3 (es := es ++ [(⟨d.next, [], [], .slice none 0 0, .slice none 0 0⟩ : Nd)]) (Nat.le_refl _) (by rw [List.map_append, hmap]; rfl) hN17 hK17 hT17 ?_ (fun b hb => by have h1 := q2 b hb; exact ⟨h1.1, by omega, fun h => by rcases hst2 b h with h2 | h2; exact h1.2.2 h2.2.2; omega⟩) (fun b hb => by have h1 := hst2 b hb; omega)⟩
            intro b hb
            rcases hbN b hb with h | h
            · have h1 := q1 b h
              exact ⟨h1.1, by omega, h1.2.2.1, fun h => by rcases hst2 b h with h2 | h2; exact h1.2.2.2 h2.2.2; omega⟩
            · exact ⟨by omega, by omega, fun h2 => by have := q2 b h2; omega, fun h2 => by have := hst2 b h2; omega⟩
          · repeat' (first | apply Jbq | apply Jbr | apply Jbs | apply Jbt | apply Jby | (refine Jce rfl ?_) | (refine Jcf rfl ?_) | (apply Jcg; (first | exact Jaa rfl | exact Jab rfl | exact Jak rfl rfl | (apply Jbl; exact Us.h; exact rfl; exact Sz.h; exact rfl)); exact rfl) | refine Jcg (Pu_load Fl.h rfl (fun _ e => by rw [e]; exact hb3.ld rfl)) rfl ?_)
            have hdir := hD.dirLe d.turns.length (Nat.le_refl _)
            have hids := hD.dirIds d.turns.length (Nat.le_refl _)
            have hasc := hD.asc d.turns.length (Nat.le_refl _)
            rw [List.take_length, show runT d.kept d.turns = pDir d from rfl] at hdir hids hasc
            refine TL_call rfl en34 (links_c hM hasc (by omega)) rfl rfl ?_
            rintro vk w11 ⟨e11, hok⟩
            have hs11 := e11.size
            have hokb := hok.bin
            replace hb6 := hb6.ext e11
            replace hN := hN.ext e11
            have hinN : ∀ b ∈ bksN sn1 es, w5.heap.size ≤ b ∧ b < w6.heap.size := fun b hb => by have := q1 b hb; omega
            obtain ⟨A1, c1, rfl, hc1', hr1⟩ := hN.row.rr (fun b hb => hinN b (List.mem_append.2 (.inl hb))) (by omega)
            have hdl : es.length = d.nodes.length := by rw [← hmap, List.length_map]
            skip
            refine TL_call rfl en33 (only_c (d := { d with fuse := fuseOf d }) hb6 hr1 (fun x hx => by obtain ⟨h1, h2⟩ := hN.ok x hx; obtain ⟨A, c, _, _, h3, _⟩ := h1.sl; obtain ⟨A', c', _, _, h4, _⟩ := h2.sl; exact ⟨⟨A, _, c, h3⟩, ⟨A', _, c', h4⟩⟩) hok.rd (by omega) (by omega) (fun x hx => hD.idB _ (hids x hx))
              (fun x hx => hD.idB _ (by rw [← hmap]; unfold nIds; rw [List.map_map]; exact List.mem_map.2 ⟨x, hx, rfl⟩))) rfl rfl ?_
            rintro _ w12 ⟨rfl, c12, vn, hb612, hon⟩
            have hs12 := c12.size
            have hN12 : ONx w12 vn (only es ((pDir d).map (·.id))) := hN.keep hon c12 (fun b hb => by have := hinN b hb; simp only [Iv]; omega) (fun b hb => by have := hinN b hb; omega)
            have hbk12 : ∀ b ∈ bksN vn (only es ((pDir d).map (·.id))), w5.heap.size ≤ b ∧ b < w12.heap.size ∧ b ∉ blk vk := fun b hb => by
              have h1 := bks_keep hon hinN b hb
              exact ⟨by omega, by omega, fun h => by have := hokb b h; omega⟩
            have hok12 := hok.ch c12 (by intro k _ _; simp only [Iv]; omega)
            have E12 : Ext w w12 := Ext.then_iv (E10.ext e11) c12 (by omega)
            repeat' (first | apply Jbq | apply Jbx)
            exact TN_join () (subEnv_cons rfl (subEnv_cons rfl (subEnv_nil _))) ⟨E12, by omega, (hb4.ext e11).ch c12 (by simp only [Iv]; omega), rfl, vn, vk, .slice none 0 0, hb612, ODk.mk2 (d := doD d ⟨7, name, to, size, data⟩) (Nat.le_refl _) (by rw [only_map, hmap]; rfl) hN12 hok12 rfl hbk12 (by omega) (Nat.le_trans (by omega) hs12)⟩
        rintro _ w20 ⟨E20, hs20, hb420, hC0, sn2, sk2, st2, hb620, hx20⟩
        have hone2 := hx20.one
        repeat' (first | apply Jbs | apply Jbt | refine Jcg (Pu_loadAgg (cs := dskC (doD d ⟨kind, name, to, size, data⟩) sn2 sk2 st2) Us.h rfl Sz.h rfl (fun _ e j u hu => by rw [e, add0, hb620.cell]; exact hu)) rfl ?_)
        refine TL_storeAgg rfl rfl Sz.h hone2 hb420 rfl ?_
        intro w21 c21 hz21 hb21
        repeat' (first | apply Jbq | apply Jbr | apply Jbu | (apply Jcg; exact Jab rfl; exact rfl))
        exact TR_of (resA1 rfl rfl rfl hb21 Us.h rfl Sz.h) ⟨sn2, sk2, st2, by rw [hC0], Ext.then_iv E20 c21 (by omega), (hx20.ch c21 (by intro k _ _; simp only [Iv]; omega)).wide (by omega) (by omega) (Nat.le_refl _)⟩
      · have hhas : dHas (pDir d) name = true := by
          have h1 := hch (fun e => hk17 (.inr e))
          rw [h1]; simp; exact fun e => hk17 (.inl e)
        obtain ⟨i, hi, hat, _⟩ := hD.dirAt hhas
        rw [hat]
        have hel : es.length = d.nodes.length := by rw [← hmap, List.length_map]
        have hie : i < es.length := by omega
        obtain ⟨gN, cN, loN, hiN, rfl, hownN⟩ := hN.open hie
        have hoA : ∀ (k : Int) (n t : List UInt8) (z : Int) (u : List UInt8), n = name → (opAt d ⟨k, n, t, z, u⟩).toNat = i := fun k n t z u e => by unfold opAt; simp only; rw [e, hat]; rfl
        have hoI : ∀ (k : Int) (n t : List UInt8) (z : Int) (u : List UInt8), n = name → opAt d ⟨k, n, t, z, u⟩ = (i : Int) := fun k n t z u e => by unfold opAt; simp only; rw [e, hat]
        have hgN := q1 gN (List.mem_append.2 (.inl (List.mem_singleton.2 rfl)))
        obtain ⟨x, hx⟩ : ∃ x, x = es[i] := ⟨_, rfl⟩
        have hxn : d.nodes[i] = NdP x := by simp only [← hmap, List.getElem_map, hx]
        have hok2 := hN.ok es[i] (List.getElem_mem hie)
        have hbx := bkd_in (v := .slice (some ⟨gN, 0, none⟩) es.length cN) hie
        have hcell : ∀ j u, (NdC x)[j]? = some u → w10.cell? ((⟨gN, 0, none⟩ : Addr).add (i * 3) |>.add j) = some u := fun j u hu => by
          have hj : j < 3 := by have := (List.getElem?_eq_some_iff.1 hu).1; rw [NdC_len] at this; exact this
          rw [add_lit3, hownN.row.cellAt (i * 3 + j) (by omega), cellsL_at NdC_len es i j hie hj, ← hx]; exact hu
        rw [← hx] at hok2 hbx
        obtain ⟨id, body, safe, vb, vs⟩ := x
        obtain ⟨hokB, hokS⟩ := hok2
        simp only at hokB hokS
        obtain ⟨Ab, cb, lob, hib, rfl, hownB⟩ := hokB.sl
        obtain ⟨As, cs, los, his, rfl, hownS⟩ := hokS.sl
        have hx' : es[i] = ⟨id, body, safe, .slice Ab body.length cb, .slice As safe.length cs⟩ := hx.symm
        have hcb : w10.cell? ((⟨gN, 0, none⟩ : Addr).add (i * 3) |>.add 1) = some (.slice Ab body.length cb) := hcell 1 _ rfl
        have hcs : w10.cell? ((⟨gN, 0, none⟩ : Addr).add (i * 3) |>.add 2) = some (.slice As safe.length cs) := hcell 2 _ rfl
        have hbl : body.length ≤ 1048576 ∧ safe.length ≤ 1048576 := by
          have h1 : (id, body, safe) ∈ d.nodes := by
            have h2 := List.getElem_mem hi
            rw [hxn] at h2
            exact h2
          have h3 := totNd_mem h1
          have h4 := (totD_parts hl).1
          unfold NdW at h3
          simp only at h3
          omega
        have hndA : ∀ (k : Int) (n t : List UInt8) (z : Int) (u : List UInt8), n = name → ndAt d ⟨k, n, t, z, u⟩ = (id, body, safe) := fun k n t z u e => by
          unfold ndAt; rw [hoA k n t z u e, List.getD_eq_getElem?_getD, List.getElem?_eq_getElem hi, hxn]; rfl
        replace hb3 : Blk w10 g3 32 [I kind, S name, S to, I size, .slice Ad data.length cd] := hb3
        have hbodyE : bodyAt d (i : Int) = body := by rw [bodyAt_nat hi, hxn]; rfl
        have hndN : (gN :: es.flatMap bkd).Nodup := hN.nd
        have hgx : ∀ b ∈ bkd es[i], b ≠ gN := fun b hb e => (List.nodup_cons.1 hndN).1 (e ▸ List.mem_flatMap.2 ⟨_, List.getElem_mem hie, hb⟩)
        rw [hx'] at hgx
        have hbB : ∀ b ∈ blk (.slice Ab body.length cb), w5.heap.size ≤ b ∧ b < w6.heap.size ∧ b ≠ gN := fun b hb => by
          have h1 := q1 b (hbx b (List.mem_append.2 (.inl hb)))
          exact ⟨h1.1, h1.2.1, hgx b (List.mem_append.2 (.inl hb))⟩
        have hbS : ∀ b ∈ blk (.slice As safe.length cs), w5.heap.size ≤ b ∧ b < w6.heap.size ∧ b ≠ gN := fun b hb => by
          have h1 := q1 b (hbx b (List.mem_append.2 (.inr hb)))
          exact ⟨h1.1, h1.2.1, hgx b (List.mem_append.2 (.inr hb))⟩
        repeat' (first | apply Jbq | apply Jbr | (apply Jcg; exact Jab rfl; exact rfl))
        apply Jbs
        repeat' (first | apply Jbq | apply Jbr | apply Jbt | (refine Jce rfl ?_) | (apply Jcg; (first | exact Jaa rfl | exact Jao rfl rfl | (apply Jbl; exact Us.h; exact rfl; exact Sz.h; exact rfl)); exact rfl))
        repeat' (first | apply Jbq | apply Jbr | (apply Jcg; (first | exact Jaa rfl | exact Jab rfl | exact Jar Us.h Sz.h rfl rfl (by omega)); exact rfl) | refine Jcg (Pu_load Fl.h rfl (fun _ e => by rw [e]; exact hb6.ld rfl)) rfl ?_)
        have hk5 : kind = 2 ∨ kind = 3 ∨ kind = 4 ∨ kind = 5 ∨ kind = 6 := by omega
        refine TC_join (ι := Unit) (fun _ => [(4, .pointer (some ⟨g4, 0, none⟩)), (6, .pointer (some ⟨g6, 0, none⟩))]) (fun _ w' => Ext w w' ∧ w10.heap.size ≤ w'.heap.size ∧ Blk w' g4 27 (dskC noDk (.slice none 0 0) (.slice none 0 0) (.slice none 0 0)) ∧ doC d ⟨kind, name, to, size, data⟩ = 0 ∧ ∃ sn' sk' st', Blk w' g6 27 (dskC (doD d ⟨kind, name, to, size, data⟩) sn' sk' st') ∧ ODk w' w5.heap.size w'.heap.size (doD d ⟨kind, name, to, size, data⟩) sn' sk' st') ?_ ?_
        · rcases hk5 with rfl | rfl | rfl | hk56
          · obtain ⟨k, hkq⟩ : ∃ k, k = fitsN d ⟨2, name, to, size, data⟩ := ⟨_, rfl⟩
            have hkv : min (max (body.length : Int) (safe.length : Int) + d.room - pUsed d.nodes - (body.length : Int)) (data.length : Int) = k := by
              rw [hkq]; unfold fitsN; rw [hndA _ _ _ _ _ rfl]; rfl
            have hu := hD.used
            have hpu := (pUsed_le d.nodes).1
            have hk0 : 0 ≤ k ∧ k ≤ (data.length : Int) := by rw [← hkv]; omega
            have hdo : doD d ⟨2, name, to, size, data⟩ = { d with fuse := fuseOf d, nodes := d.nodes.set i (id, body ++ data.take k.toNat, safe) } := by
              unfold doD
              rw [if_neg (by simp), if_pos rfl]
              unfold ndPut
              rw [hoA _ _ _ _ _ rfl, hndA _ _ _ _ _ rfl, ← hkq]
            have hdc : doC d ⟨2, name, to, size, data⟩ = if k < (data.length : Int) then 5 else 0 := by unfold doC; rw [← hkq]; simp
            skip
            apply Jbs
            repeat' (first | apply Jbq | apply Jbr | apply Jbs | apply Jbt | apply Jby | (refine Jce rfl ?_) | (refine Jcf rfl ?_) | (apply Jcg; (first | exact Jab rfl | exact Jak rfl rfl | (apply Jbl; exact Us.h; exact rfl; exact Sz.h; exact rfl)); exact rfl) | refine Jcg (Pu_load Fl.h rfl (fun _ e => by rw [e]; exact hb3.ld rfl)) rfl ?_)
            refine TC_any mixed rfl ?_
            intro w11 hE hz11
            (refine Jco 0 rfl (by kernel_rfl) (by kernel_rfl) (by kernel_rfl) (fun _ _ _ h => h) hE (by exact Jaa rfl) rfl ?_; refine Jco 1 rfl (by kernel_rfl) (by kernel_rfl) (by kernel_rfl) (fun _ _ _ h => h) hE (by exact Jba rfl) rfl ?_; refine Jco 2 rfl (by kernel_rfl) (by kernel_rfl) (by kernel_rfl) (fun _ _ _ h => h) hE (by (apply Jbl; exact Us.h; exact rfl; exact Sz.h; exact rfl)) rfl ?_; refine Jco 3 rfl (by kernel_rfl) (by kernel_rfl) (by kernel_rfl) (fun _ _ _ h => h) hE (by exact Pu_load Fl.h rfl (fun _ e => Ext.cell e hcb)) rfl ?_; refine Jco 4 rfl (by kernel_rfl) (by kernel_rfl) (by kernel_rfl) (fun _ _ _ h => h) hE (by exact Jac Us.h rfl) rfl ?_; refine Jco 5 rfl (by kernel_rfl) (by kernel_rfl) (by kernel_rfl) (fun _ _ _ h => h) hE (by exact Jaa rfl) rfl ?_; refine Jco 6 rfl (by kernel_rfl) (by kernel_rfl) (by kernel_rfl) (fun _ _ _ h => h) hE (by exact Jba rfl) rfl ?_; refine Jco 7 rfl (by kernel_rfl) (by kernel_rfl) (by kernel_rfl) (fun _ _ _ h => h) hE (by (apply Jbl; exact Us.h; exact rfl; exact Sz.h; exact rfl)) rfl ?_; refine Jco 8 rfl (by kernel_rfl) (by kernel_rfl) (by kernel_rfl) (fun _ _ _ h => h) hE (by exact Pu_load Fl.h rfl (fun _ e => Ext.cell e hcs)) rfl ?_; refine Jco 9 rfl (by kernel_rfl) (by kernel_rfl) (by kernel_rfl) (fun _ _ _ h => h) hE (by exact Jac Us.h rfl) rfl ?_; refine Jco 10 rfl (by kernel_rfl) (by kernel_rfl) (by kernel_rfl) (fun _ _ _ h => h) hE (by exact Jaz rfl rfl) rfl ?_; refine Jco 11 rfl (by kernel_rfl) (by kernel_rfl) (by kernel_rfl) (fun _ _ _ h => h) hE (by (apply Jbl; exact Us.h; exact rfl; exact Sz.h; exact rfl)) rfl ?_; refine Jco 12 rfl (by kernel_rfl) (by kernel_rfl) (by kernel_rfl) (fun _ _ _ h => h) hE (by exact Pu_load Fl.h rfl (fun _ e => Ext.cell e (hb2.ld rfl))) rfl ?_; refine Jco 13 rfl (by kernel_rfl) (by kernel_rfl) (by kernel_rfl) (fun _ _ _ h => h) hE (by exact Jaf rfl rfl (by omega)) rfl ?_; refine Jco 14 rfl (by kernel_rfl) (by kernel_rfl) (by kernel_rfl) (fun _ _ _ h => h) hE (by exact Pu_loadAgg (cs := dskC d sn sk st) Us.h rfl Sz.h rfl (fun _ e j u hu => by rw [add0]; exact Ext.cell e ((hb2.cell j).trans hu))) rfl ?_; refine Jco 17 rfl (by kernel_rfl) (by kernel_rfl) (by kernel_rfl) (fun _ _ _ h => h) hE (by exact Jaa rfl) rfl ?_; refine Jco 18 rfl (by kernel_rfl) (by kernel_rfl) (by kernel_rfl) (fun _ _ _ h => h) hE (by exact Jba rfl) rfl ?_; refine Jco 19 rfl (by kernel_rfl) (by kernel_rfl) (by kernel_rfl) (fun _ _ _ h => h) hE (by (apply Jbl; exact Us.h; exact rfl; exact Sz.h; exact rfl)) rfl ?_; refine Jco 20 rfl (by kernel_rfl) (by kernel_rfl) (by kernel_rfl) (fun _ _ _ h => h) hE (by exact Pu_load Fl.h rfl (fun _ e => Ext.cell e hcb)) rfl ?_; refine Jco 21 rfl (by kernel_rfl) (by kernel_rfl) (by kernel_rfl) (fun _ _ _ h => h) hE (by exact Jac Us.h rfl) rfl ?_)
            refine TA_one 15 (by kernel_rfl) rfl ?_
            refine TL_call rfl en12 (implDiskUsed_c (hh.ext (E10.ext hE)) hl) rfl rfl ?_
            rintro _ w12 ⟨rfl, e12⟩
            have e1012 := hE.ext e12
            have hs12 := e1012.size
            clear hE
            have hE := e1012
            refine Jbq (TN_any hE ?_)
            (refine Jco 16 rfl (by kernel_rfl) (by kernel_rfl) (by kernel_rfl) (fun _ _ _ h => h) hE (by exact Jap rfl rfl (by omega)) rfl ?_; refine Jco 22 rfl (by kernel_rfl) (by kernel_rfl) (by kernel_rfl) (fun _ _ _ h => h) hE (by exact Jap rfl rfl (by omega)) rfl ?_; refine Jco 23 rfl (by kernel_rfl) (by kernel_rfl) (by kernel_rfl) (fun _ _ _ h => h) hE (by exact Jab rfl) rfl ?_)
            refine TA_done (by kernel_rfl) ?_
            have hb312 := hb3.ext hE
            repeat' (first | apply Jbq | apply Jbr | apply Jbs | apply Jbt | (apply Jcg; (first | exact Jaa rfl | exact Jab rfl | exact Jac Us.h rfl | exact Jay rfl rfl | (apply Jbl; exact Us.h; exact rfl; exact Sz.h; exact rfl)); exact rfl) | refine Jcg (Pu_load Fl.h rfl (fun _ e => by rw [e]; exact hb312.ld rfl)) rfl ?_)
            rw [hkv]
            obtain ⟨Ak, ck, hvk, hck, hrk⟩ := RB.to (k := k) hrd hk0 hcd
            obtain ⟨lo3, hi3, hown3, hin3⟩ := hownN.narrow
            have hg3A : ¬ (g3 ∈ blk (.slice Ab body.length cb) ∨ g3 = gN) := fun h => by rcases h with h | h; (have := hbB g3 h; omega); omega
            have hgnb : gN ∉ blk (.slice Ab body.length cb) := fun h => (hbB gN h).2.2 rfl
            refine TC_anyB (fun w' => Ch (fun j => j ∈ blk (.slice Ab body.length cb) ∨ j = gN) w12 w') (fun w' => w'.cell? (((⟨gN, 0, none⟩ : Addr).add (i * 3)).add 1) = some (.slice Ab body.length cb)) 12 mixed rfl (Ch.refl _ _).drew (Ext.cell (Ch.refl _ _).drew (Ext.cell hE hcb)) ?_
            intro w13 e13 hz13 hA hB
            (refine TB_take 0 rfl rfl rfl (by kernel_rfl) (by kernel_rfl) (by kernel_rfl) (fun _ _ _ h => h) ⟨hA, fun _ => hB⟩ (by exact Jaa rfl) rfl ?_; refine TB_take 1 rfl rfl rfl (by kernel_rfl) (by kernel_rfl) (by kernel_rfl) (fun _ _ _ h => h) ⟨hA, fun _ => hB⟩ (by exact Jaa rfl) rfl ?_; refine TB_take 2 rfl rfl rfl (by kernel_rfl) (by kernel_rfl) (by kernel_rfl) (fun _ _ _ h => h) ⟨hA, fun _ => hB⟩ (by exact Jba rfl) rfl ?_; refine TB_take 3 rfl rfl rfl (by kernel_rfl) (by kernel_rfl) (by kernel_rfl) (fun _ _ _ h => h) ⟨hA, fun _ => hB⟩ (by (apply Jbl; exact Us.h; exact rfl; exact Sz.h; exact rfl)) rfl ?_; refine TB_take 5 rfl rfl rfl (by kernel_rfl) (by kernel_rfl) (by kernel_rfl) (fun _ _ _ h => h) ⟨hA, fun _ => hB⟩ (by (apply Jbl; exact Us.h; exact rfl; exact Sz.h; exact rfl)) rfl ?_; refine TB_take 6 rfl rfl rfl (by kernel_rfl) (by kernel_rfl) (by kernel_rfl) (fun _ _ _ h => h) ⟨hA, fun _ => hB⟩ (by exact Pu_load Fl.h rfl (fun _ e => Ch.cell e (hb312.ld rfl) (by rw [block_of_add]; exact hg3A))) rfl ?_; refine TB_take 7 rfl rfl rfl (by kernel_rfl) (by kernel_rfl) (by kernel_rfl) (fun _ _ _ h => h) ⟨hA, fun _ => hB⟩ (by exact Jaa rfl) rfl ?_)
            (refine TB_takeB 4 rfl rfl rfl (by kernel_rfl) rfl (by kernel_rfl) (by kernel_rfl) (by kernel_rfl) (fun _ _ _ h => h) ⟨hA, fun _ => hB⟩ (by exact Pu_load Fl.h rfl (fun _ e => e.2)) rfl ?_)
            (refine TB_take 8 rfl rfl rfl (by kernel_rfl) (by kernel_rfl) (by kernel_rfl) (fun _ _ _ h => h) ⟨hA, fun _ => hB⟩ (by exact Jbe Us.h Sz.h rfl rfl (by omega)) rfl ?_)
            rw [hvk]
            refine TB_one 9 (by kernel_rfl) rfl ?_
            have e1013 := hE.ext e13
            refine TL_appendBx Us.h rfl rfl (hokB.ext e1013) ⟨_, _, rfl, hck, hrk.ext (E10.ext e1013)⟩ (by rw [List.length_take]; omega) rfl ?_
            intro w14 A4 c4 c14 loc14 ho14
            have hs13 := e13.size
            have hs14 := c14.size
            replace hA := (hA.then (c14.mono (fun j hj => .inl hj)))
            replace hB := Ch.cell c14 hB (by rw [block_of_add, block_of_add]; exact hgnb)
            refine Jbq (TN_anyB ⟨hA, fun _ => hB⟩ ?_)
            (refine TB_take 10 rfl rfl rfl (by kernel_rfl) (by kernel_rfl) (by kernel_rfl) (fun _ _ _ h => h) ⟨hA, fun _ => hB⟩ (by exact Jba rfl) rfl ?_; refine TB_take 11 rfl rfl rfl (by kernel_rfl) (by kernel_rfl) (by kernel_rfl) (fun _ _ _ h => h) ⟨hA, fun _ => hB⟩ (by (apply Jbl; exact Us.h; exact rfl; exact Sz.h; exact rfl)) rfl ?_)
            refine TB_one 12 (by kernel_rfl) rfl ?_
            have hown14 := (hown3.ext e1013).ch c14 (fun j h1 h2 h3 => hgnb (by have := hin3 j h1 h2; rw [show blk (.slice (some ⟨gN, 0, none⟩) es.length cN) = [gN] from rfl, List.mem_singleton] at this; rw [← this]; exact h3))
            refine TL_storeOwn rfl (add_lit3 gN (i * 3) 1) rfl Sz.h rfl hown14 (by omega) ?_
            intro w15 c15 hz15 hown15
            refine Jbq (TN_anyB ⟨hA.then (c15.mono (fun j hj => .inr (by have := hj.1; have := hj.2; omega))), fun h => nomatch (show true = false from h)⟩ ?_)
            refine TB_done (by kernel_rfl) ?_
            obtain ⟨nb, hnb⟩ : ∃ nb, nb = body ++ data.take k.toNat := ⟨_, rfl⟩
            rw [← hnb] at ho14 loc14 hown15 hdo
            rw [cells_body (s := nb) hie hx'] at hown15
            have hch : Ch (fun j => j ∈ blk (.slice Ab body.length cb) ∨ j = gN) w13 w15 := (c14.mono (fun j hj => .inl hj)).then (c15.mono (fun j hj => .inr (by have := hj.1; have := hj.2; omega)))
            have hlset : (es.set i ⟨id, nb, safe, .slice A4 nb.length c4, .slice As safe.length cs⟩).length = es.length := List.length_set
            have hv4 : ∀ b ∈ blk (.slice A4 nb.length c4), (b ∈ blk (.slice Ab body.length cb)) ∨ (w13.heap.size ≤ b ∧ b < w14.heap.size) := fun b hb => by
              rcases loc14 with h | ⟨h, h2⟩
              · rw [h] at hb; exact .inl hb
              · rw [h] at hb; rw [List.mem_singleton.1 hb]; exact .inr ⟨Nat.le_refl _, h2⟩
            have hndx : ∀ b ∈ blk (.slice Ab body.length cb), b ∉ blk (.slice As safe.length cs) := fun b h1 h2 => by
              have h3 := (List.nodup_cons.1 hndN).2
              rw [nodes_self hie, List.flatMap_append, List.flatMap_cons, hx'] at h3
              have h4 := (List.nodup_append.1 (List.nodup_append.1 h3).2.1).1
              exact (List.nodup_append.1 (show (blk (.slice Ab body.length cb) ++ blk (.slice As safe.length cs)).Nodup from h4)).2.2 b h1 b h2 rfl
            have E15 : Ext w w15 := (E10.ext e1013).trans hch (fun _ _ t => t) (fun j hj t => by rcases t with t | t; (have := hbB j t; omega); omega)
            have hx15 := ODk.put (x' := ⟨id, nb, safe, .slice A4 nb.length c4, .slice As safe.length cs⟩) (lo := w5.heap.size) (hi := w6.heap.size) (hi' := w15.heap.size) (d' := doD d ⟨2, name, to, size, data⟩) (Nat.le_refl _) (by omega) hmap (hN.ext e1013) (hK.ext e1013) (hT.ext e1013) q1 q2 q3 hie hch (fun j hj => by
                rcases hj with h | h
                · right; rw [hx']; exact List.mem_append.2 (.inl h)
                · exact .inl h) ⟨_, _, by rw [hlset], by rw [hlset]; exact hown15⟩
              ⟨ho14.ch c15 (fun b hb => by simp only [Iv]; rcases hv4 b hb with h | h; (have := hbB b h; omega); omega), (hokS.ext e1013).ch hch (fun b hb h => by rcases h with h | h; exact hndx b h hb; exact (hbS b hb).2.2 h)⟩
              (by
                show (blk _ ++ blk _).Nodup
                rw [List.nodup_append]
                exact ⟨blk_nodup _, blk_nodup _, fun x hx y hy e => by
                  have h1 := hbS y hy
                  rcases hv4 x hx with h | h
                  · exact hndx x h (e ▸ hy)
                  · omega⟩)
              (fun b hb => by
                rcases List.mem_append.1 hb with hb | hb
                · rcases hv4 b hb with h | h
                  · left; rw [hx']; exact List.mem_append.2 (.inl h)
                  · right; omega
                · left; rw [hx']; exact List.mem_append.2 (.inr hb)) (by omega) (by rw [hdo]; rfl) (by rw [hdo]) (by rw [hdo])
            have hb615 : Blk w15 g6 27 (dskC (doD d ⟨2, name, to, size, data⟩) (.slice (some ⟨gN, 0, none⟩) es.length cN) sk1 st1) := by
              rw [hdo]
              exact (hb6.ext e1013).ch hch (fun h => by rcases h with h | h; (have := hbB g6 h; omega); omega)
            have hb415 := (hb4.ext e1013).ch hch (fun h => by rcases h with h | h; (have := hbB g4 h; omega); omega)
            have hb315 := (hb3.ext e1013).ch hch (fun h => by rcases h with h | h; (have := hbB g3 h; omega); omega)
            repeat' (first | apply Jbq | apply Jbr | apply Jbs | apply Jbt | (apply Jcg; (first | exact Jaa rfl | exact Jac Us.h rfl | exact Jad rfl rfl | (apply Jbl; exact Us.h; exact rfl; exact Sz.h; exact rfl)); exact rfl) | refine Jcg (Pu_load Fl.h rfl (fun _ e => by rw [e]; exact hb315.ld rfl)) rfl ?_)
            refine Jcx rfl (fun hlt => ?_) (fun hge => ?_)
            · have hone2 := hx15.one
              repeat' (first | apply Jbs | apply Jbt | refine Jcg (Pu_loadAgg (cs := dskC (doD d ⟨2, name, to, size, data⟩) (.slice (some ⟨gN, 0, none⟩) es.length cN) sk1 st1) Us.h rfl Sz.h rfl (fun _ e j u hu => by rw [e, add0, hb615.cell]; exact hu)) rfl ?_)
              refine TL_storeAgg rfl rfl Sz.h hone2 hb415 rfl ?_
              intro w21 c21 hz21 hb21
              repeat' (first | apply Jbq | apply Jbr | apply Jbu | apply Jbv | apply Jbw | (apply Jcg; exact Jab rfl; exact rfl))
              exact TR_of (resA1 rfl rfl rfl hb21 Us.h rfl Sz.h) ⟨_, sk1, st1, by rw [hdc, if_pos hlt], Ext.then_iv E15 c21 (by omega), (hx15.ch c21 (by intro k _ _; simp only [Iv]; omega)).wide (by omega) (by omega) (Nat.le_refl _)⟩
            · repeat' (first | apply Jbx | apply Jbz)
              exact TN_join () (subEnv_cons rfl (subEnv_cons rfl (subEnv_nil _))) ⟨E15, by omega, hb415, by rw [hdc, if_neg hge], _, sk1, st1, hb615, hx15⟩
          · have hdo : doD d ⟨3, name, to, size, data⟩ = { d with fuse := fuseOf d, nodes := d.nodes.set i (id, body, body) } := by
              unfold doD
              rw [if_neg (by simp), if_neg (by simp), if_pos rfl]
              unfold ndPut
              rw [hoA _ _ _ _ _ rfl, hndA _ _ _ _ _ rfl]
            repeat' (first | apply Jbq | apply Jbr | apply Jbs | apply Jbt | apply Jby | (refine Jce rfl ?_) | (refine Jcf rfl ?_) | (apply Jcg; (first | exact Jaa rfl | exact Jab rfl | exact Jak rfl rfl | exact Jba rfl | (apply Jbl; exact Us.h; exact rfl; exact Sz.h; exact rfl)); exact rfl) | refine Jcg (Pu_load Fl.h rfl (fun _ e => by rw [e]; exact hb3.ld rfl)) rfl ?_ | refine Jcg (Pu_load Fl.h rfl (fun _ e => by rw [e]; exact hcb)) rfl ?_)
            refine TL_call rfl en32 (copyBytes_c hownB.rd (by omega)) rfl rfl ?_
            rintro _ w11 ⟨A2, c2, rfl, e11, ho2⟩
            have hs11 := e11.size
            repeat' ((apply Jcg; (first | exact Jba rfl | (apply Jbl; exact Us.h; exact rfl; exact Sz.h; exact rfl)); exact rfl))
            refine TL_storeOwn rfl (add_lit3 gN (i * 3) 2) rfl Sz.h rfl (hownN.ext e11) (by omega) ?_
            intro w12 c12 hz12 hown12
            rw [cells_safe (s := body) hie hx'] at hown12
            have hbn2 : ∀ x ∈ blk (.slice A2 body.length c2), w10.heap.size ≤ x ∧ x < w11.heap.size := OB.bin ⟨A2, c2, rfl, ho2⟩
            have hlset : (es.set i ⟨id, body, body, .slice Ab body.length cb, .slice A2 body.length c2⟩).length = es.length := List.length_set
            have E12 : Ext w w12 := Ext.then_iv (E10.ext e11) c12 (by omega)
            have hx12 := ODk.put (x' := ⟨id, body, body, .slice Ab body.length cb, .slice A2 body.length c2⟩) (lo := w5.heap.size) (hi := w6.heap.size) (hi' := w12.heap.size) (d' := doD d ⟨3, name, to, size, data⟩) (Nat.le_refl _) (by omega) hmap (hN.ext e11) (hK.ext e11) (hT.ext e11) q1 q2 q3 hie c12 (fun j hj => .inl (by have := hj.1; have := hj.2; omega)) ⟨_, _, by rw [hlset], by rw [hlset]; exact hown12⟩
              ⟨(hokB.ext e11).ch c12 (fun b hb => by have := hbB b hb; simp only [Iv]; omega), (OB.x ⟨A2, c2, rfl, ho2⟩).ch c12 (fun b hb => by have := hbn2 b hb; simp only [Iv]; omega)⟩
              (by
                show (blk _ ++ blk _).Nodup
                rw [List.nodup_append]
                exact ⟨blk_nodup _, blk_nodup _, fun x hx y hy e => by
                  have h1 := q1 x (hbx x (List.mem_append.2 (.inl hx)))
                  have h2 := hbn2 y hy
                  omega⟩)
              (fun b hb => by
                rcases List.mem_append.1 hb with hb | hb
                · left; rw [hx']; exact List.mem_append.2 (.inl hb)
                · right; have := hbn2 b hb; omega) (by omega) (by rw [hdo]; rfl) (by rw [hdo]) (by rw [hdo])
            repeat' (first | apply Jbq | apply Jbx)
            refine TN_join () (subEnv_cons rfl (subEnv_cons rfl (subEnv_nil _))) ⟨E12, by omega, (hb4.ext e11).ch c12 (by simp only [Iv]; omega), rfl, _, sk1, st1, ?_, hx12⟩
            have hb612 := (hb6.ext e11).ch c12 (by simp only [Iv]; omega)
            rw [hdo]
            exact hb612
          · obtain ⟨hz0, hz1⟩ := p6 rfl
            have hc4' : size ≤ (body.length : Int) := by
              have h1 := hc4 rfl
              rw [hoI _ _ _ _ _ rfl, hbodyE] at h1
              exact h1
            have hdo : doD d ⟨4, name, to, size, data⟩ = { d with fuse := fuseOf d, nodes := d.nodes.set i (id, body.take size.toNat, safe) } := by
              unfold doD
              rw [if_neg (by simp), if_neg (by simp), if_neg (by simp), if_pos rfl]
              unfold ndPut
              rw [hoA _ _ _ _ _ rfl, hndA _ _ _ _ _ rfl]
            have hcapB := hownB.cap.1
            obtain ⟨A1, c1, hv1, hc1', hr1⟩ := RB.to (k := size) hownB.rd ⟨hz0, hc4'⟩ hcapB
            repeat' (first | apply Jbq | apply Jbr | apply Jbs | apply Jbt | apply Jby | (refine Jce rfl ?_) | (refine Jcf rfl ?_) | (apply Jcg; (first | exact Jab rfl | exact Jak rfl rfl | (apply Jbl; exact Us.h; exact rfl; exact Sz.h; exact rfl)); exact rfl) | refine Jcg (Pu_load Fl.h rfl (fun _ e => by rw [e]; exact hb3.ld rfl)) rfl ?_)
            refine TC_anyB (fun w' => Ch (Iv gN (gN + 1)) w10 w') (fun w' => Ext w10 w') 11 mixed rfl (Ch.refl _ _).drew (Ch.refl _ _).drew ?_
            intro w11 e11 hz11 hA hB
            (refine TB_take 0 rfl rfl rfl (by kernel_rfl) (by kernel_rfl) (by kernel_rfl) (fun _ _ _ h => h) ⟨hA, fun _ => hB⟩ (by exact Jaa rfl) rfl ?_; refine TB_take 1 rfl rfl rfl (by kernel_rfl) (by kernel_rfl) (by kernel_rfl) (fun _ _ _ h => h) ⟨hA, fun _ => hB⟩ (by exact Jaa rfl) rfl ?_; refine TB_take 2 rfl rfl rfl (by kernel_rfl) (by kernel_rfl) (by kernel_rfl) (fun _ _ _ h => h) ⟨hA, fun _ => hB⟩ (by exact Jba rfl) rfl ?_; refine TB_take 3 rfl rfl rfl (by kernel_rfl) (by kernel_rfl) (by kernel_rfl) (fun _ _ _ h => h) ⟨hA, fun _ => hB⟩ (by (apply Jbl; exact Us.h; exact rfl; exact Sz.h; exact rfl)) rfl ?_; refine TB_take 5 rfl rfl rfl (by kernel_rfl) (by kernel_rfl) (by kernel_rfl) (fun _ _ _ h => h) ⟨hA, fun _ => hB⟩ (by (apply Jbl; exact Us.h; exact rfl; exact Sz.h; exact rfl)) rfl ?_; refine TB_take 6 rfl rfl rfl (by kernel_rfl) (by kernel_rfl) (by kernel_rfl) (fun _ _ _ h => h) ⟨hA, fun _ => hB⟩ (by exact Pu_load Fl.h rfl (fun _ e => Ch.cell e (hb3.ld rfl) (by rw [block_of_add]; simp only [Iv]; omega))) rfl ?_)
            (refine TB_takeB 4 rfl rfl rfl (by kernel_rfl) rfl (by kernel_rfl) (by kernel_rfl) (by kernel_rfl) (fun _ _ _ h => h) ⟨hA, fun _ => hB⟩ (by exact Pu_load Fl.h rfl (fun _ e => Ext.cell e.2 hcb)) rfl ?_)
            (refine TB_take 7 rfl rfl rfl (by kernel_rfl) (by kernel_rfl) (by kernel_rfl) (fun _ _ _ h => h) ⟨hA, fun _ => hB⟩ (by exact Jbe Us.h Sz.h rfl rfl (by omega)) rfl ?_)
            rw [hv1]
            refine TB_one 8 (by kernel_rfl) rfl ?_
            refine TL_call rfl en32 (copyBytes_c (hr1.ext e11) (by rw [List.length_take]; omega)) rfl rfl ?_
            rintro _ w12 ⟨A2, c2, rfl, e12, ho2⟩
            have e1012 := e11.ext e12
            replace hA := hA.ext e12
            replace hB := hB.ext e12
            refine Jbq (TN_anyB ⟨hA, fun _ => hB⟩ ?_)
            (refine TB_take 9 rfl rfl rfl (by kernel_rfl) (by kernel_rfl) (by kernel_rfl) (fun _ _ _ h => h) ⟨hA, fun _ => hB⟩ (by exact Jba rfl) rfl ?_; refine TB_take 10 rfl rfl rfl (by kernel_rfl) (by kernel_rfl) (by kernel_rfl) (fun _ _ _ h => h) ⟨hA, fun _ => hB⟩ (by (apply Jbl; exact Us.h; exact rfl; exact Sz.h; exact rfl)) rfl ?_)
            refine TB_one 11 (by kernel_rfl) rfl ?_
            refine TL_storeOwn rfl (add_lit3 gN (i * 3) 1) rfl Sz.h rfl (hownN.ext e1012) (by omega) ?_
            intro w13 c13 hz13 hown13
            refine Jbq (TN_anyB ⟨hA.then c13, fun h => nomatch (show true = false from h)⟩ ?_)
            refine TB_done (by kernel_rfl) ?_
            have hs11 := e11.size
            have hs12 := e12.size
            rw [cells_body (s := body.take size.toNat) hie hx'] at hown13
            have hbn2 : ∀ x ∈ blk (.slice A2 (body.take size.toNat).length c2), w11.heap.size ≤ x ∧ x < w12.heap.size := OB.bin ⟨A2, c2, rfl, ho2⟩
            have hlset : (es.set i ⟨id, body.take size.toNat, safe, .slice A2 (body.take size.toNat).length c2, .slice As safe.length cs⟩).length = es.length := List.length_set
            have E13 : Ext w w13 := Ext.then_iv (E10.ext e1012) c13 (by omega)
            have hx13 := ODk.put (x' := ⟨id, body.take size.toNat, safe, .slice A2 (body.take size.toNat).length c2, .slice As safe.length cs⟩) (lo := w5.heap.size) (hi := w6.heap.size) (hi' := w13.heap.size) (d' := doD d ⟨4, name, to, size, data⟩) (Nat.le_refl _) (by omega) hmap (hN.ext e1012) (hK.ext e1012) (hT.ext e1012) q1 q2 q3 hie c13 (fun j hj => .inl (by have := hj.1; have := hj.2; omega)) ⟨_, _, by rw [hlset], by rw [hlset]; exact hown13⟩
              ⟨(OB.x ⟨A2, c2, rfl, ho2⟩).ch c13 (fun b hb => by have := hbn2 b hb; simp only [Iv]; omega), (hokS.ext e1012).ch c13 (fun b hb => by have := hbS b hb; simp only [Iv]; omega)⟩
              (by
                show (blk _ ++ blk _).Nodup
                rw [List.nodup_append]
                exact ⟨blk_nodup _, blk_nodup _, fun x hx y hy e => by
                  have h1 := hbS y hy
                  have h2 := hbn2 x hx
                  omega⟩)
              (fun b hb => by
                rcases List.mem_append.1 hb with hb | hb
                · right; have := hbn2 b hb; omega
                · left; rw [hx']; exact List.mem_append.2 (.inr hb)) (by omega) (by rw [hdo]; rfl) (by rw [hdo]) (by rw [hdo])
            repeat' (apply Jbx)
            refine TN_join () (subEnv_cons rfl (subEnv_cons rfl (subEnv_nil _))) ⟨E13, by omega, (hb4.ext e1012).ch c13 (by simp only [Iv]; omega), rfl, _, sk1, st1, ?_, hx13⟩
            have hb613 := (hb6.ext e1012).ch c13 (by simp only [Iv]; omega)
            rw [hdo]
            exact hb613
          · have hdo : doD d ⟨kind, name, to, size, data⟩ = { d with fuse := fuseOf d, turns := d.turns ++ [⟨kind, name, to, 0⟩] } := by
              unfold doD
              rw [if_neg (by simp only; omega), if_neg (by simp only; omega), if_neg (by simp only; omega), if_neg (by simp only; omega), if_neg (by simp only; omega)]
            have hct' := hct (.inr hk56)
            have hC0 : doC d ⟨kind, name, to, size, data⟩ = 0 := by unfold doC; rw [if_neg (by simp only; omega)]
            have key : ∀ w11 g11, Ext w10 w11 → g11 = w10.heap.size → w11.heap.size = g11 + 1 → ∀ w12 st2, Ch (fun j => j ∈ blk st1) w11 w12 → (blk st2 = blk st1 ∨ (blk st2 = [w11.heap.size] ∧ w11.heap.size < w12.heap.size)) → RowOx TnC 72 4 w12 st2 (d.turns ++ [⟨kind, name, to, 0⟩]) → ∀ w13, Ch (Iv g6 (g6 + 1)) w12 w13 → w13.heap.size = w12.heap.size →
                Blk w13 g6 27 [I d.room, I (fuseOf d), I d.next, .slice (some ⟨gN, 0, none⟩) es.length cN, sk1, st2] →
                (Ext w w13 ∧ w10.heap.size ≤ w13.heap.size ∧ Blk w13 g4 27 (dskC noDk (.slice none 0 0) (.slice none 0 0) (.slice none 0 0)) ∧ doC d ⟨kind, name, to, size, data⟩ = 0 ∧ ∃ sn' sk' st', Blk w13 g6 27 (dskC (doD d ⟨kind, name, to, size, data⟩) sn' sk' st') ∧ ODk w13 w5.heap.size w13.heap.size (doD d ⟨kind, name, to, size, data⟩) sn' sk' st') := by
              intro w11 g11 e11 hg11 hz11 w12 st2 c12 loc12 hT12 w13 c13 hz13 hb613
              have hs12 := c12.size
              have hst2 : ∀ b ∈ blk st2, (w5.heap.size ≤ b ∧ b < w6.heap.size ∧ b ∈ blk st1) ∨ (w11.heap.size ≤ b ∧ b < w12.heap.size) := fun b hb => by
                rcases loc12 with h | ⟨h, h2⟩
                · rw [h] at hb; have := q3 b hb; exact .inl ⟨this.1, this.2, hb⟩
                · rw [h] at hb; rw [List.mem_singleton.1 hb]; exact .inr ⟨Nat.le_refl _, h2⟩
              have hN13 := ((hN.ext e11).ch c12 (fun b hb => (q1 b hb).2.2.2)).ch c13 (fun b hb => by have := q1 b hb; simp only [Iv]; omega)
              have hK13 := ((hK.ext e11).ch c12 (fun b hb => (q2 b hb).2.2)).ch c13 (fun b hb => by have := q2 b hb; simp only [Iv]; omega)
              have hT13 := hT12.ch c13 (fun b hb => by have := hst2 b hb; simp only [Iv]; omega)
              have hb413 := ((hb4.ext e11).ch c12 (fun hb => by have := q3 g4 hb; omega)).ch c13 (by simp only [Iv]; omega)
              have E12 : Ext w w12 := (E10.ext e11).trans c12 (fun _ _ t => t) (fun j hj t => by have := q3 j t; omega)
              refine ⟨Ext.then_iv E12 c13 (by omega), by omega, hb413, hC0, _, sk1, st2, by rw [hdo]; exact hb613, ODk.mk3 (es := es) (Nat.le_refl _) (by rw [hdo]; exact hmap) hN13 (by rw [hdo]; exact hK13) (by rw [hdo]; exact hT13) (fun b hb => ?_) (fun b hb => by have h1 := q2 b hb; exact ⟨h1.1, by omega, fun h => by rcases hst2 b h with h2 | h2; exact h1.2.2 h2.2.2; omega⟩) (fun b hb => by have h1 := hst2 b hb; omega)⟩
              have h1 := q1 b hb
              exact ⟨h1.1, by omega, h1.2.2.1, fun h => by rcases hst2 b h with h2 | h2; exact h1.2.2.2 h2.2.2; omega⟩
            have hg6 : ∀ b ∈ blk st1, b ≠ g6 := fun b hb => by have := q3 b hb; omega
            rcases hk56 with rfl | rfl
            · repeat' (first | apply Jbq | apply Jbr | apply Jbs | apply Jbt | apply Jby | apply Jbz | (refine Jce rfl ?_) | (refine Jcf rfl ?_) | (apply Jcg; (first | exact Jab rfl | exact Jak rfl rfl | (apply Jbl; exact Us.h; exact rfl; exact Sz.h; exact rfl)); exact rfl) | refine Jcg (Pu_load Fl.h rfl (fun _ e => by rw [e]; exact hb6.ld rfl)) rfl ?_ | refine Jcg (Pu_load Fl.h rfl (fun _ e => by rw [e]; exact hb3.ld rfl)) rfl ?_ | refine Jcg (Pu_build (cs := TnC ⟨5, name, to, 0⟩) rfl (by kernel_rfl)) rfl ?_)
              refine TL_buildSlice Us.h Zi.h rfl rfl rfl rfl (fillT ⟨5, name, to, 0⟩) rfl rfl ?_
              intro w11 g11 e11 hg11 hz11 hown11
              skip
              refine TL_appendOx Us.h Inf.h rfl rfl rfl TnC_one rfl rfl (hT.ext e11) (RowO.new (l := [(⟨5, name, to, 0⟩ : TnD)]) rfl hown11 hg11 hz11).rd (by simp only [List.length_cons, List.length_nil]; omega) rfl ?_
              intro w12 st2 c12 loc12 hT12
              repeat' ((apply Jcg; (apply Jbl; exact Us.h; exact rfl; exact Sz.h; exact rfl); exact rfl))
              refine TL_store rfl rfl Sz.h hT12.one ((hb6.ext e11).ch c12 (fun hb => hg6 g6 hb rfl)) rfl ?_
              intro w13 c13 hz13 hb613
              repeat' (first | apply Jbq | apply Jbx)
              exact TN_join () (subEnv_cons rfl (subEnv_cons rfl (subEnv_nil _))) (key w11 g11 e11 hg11 hz11 w12 st2 c12 loc12 hT12 w13 c13 hz13 hb613)
            · repeat' (first | apply Jbq | apply Jbr | apply Jbs | apply Jbt | apply Jby | (refine Jce rfl ?_) | (refine Jcf rfl ?_) | (apply Jcg; (first | exact Jab rfl | exact Jak rfl rfl | (apply Jbl; exact Us.h; exact rfl; exact Sz.h; exact rfl)); exact rfl) | refine Jcg (Pu_load Fl.h rfl (fun _ e => by rw [e]; exact hb6.ld rfl)) rfl ?_ | refine Jcg (Pu_load Fl.h rfl (fun _ e => by rw [e]; exact hb3.ld rfl)) rfl ?_ | refine Jcg (Pu_build (cs := TnC ⟨6, name, to, 0⟩) rfl (by kernel_rfl)) rfl ?_)
              refine TL_buildSlice Us.h Zi.h rfl rfl rfl rfl (fillT ⟨6, name, to, 0⟩) rfl rfl ?_
              intro w11 g11 e11 hg11 hz11 hown11
              skip
              refine TL_appendOx Us.h Inf.h rfl rfl rfl TnC_one rfl rfl (hT.ext e11) (RowO.new (l := [(⟨6, name, to, 0⟩ : TnD)]) rfl hown11 hg11 hz11).rd (by simp only [List.length_cons, List.length_nil]; omega) rfl ?_
              intro w12 st2 c12 loc12 hT12
              repeat' ((apply Jcg; (apply Jbl; exact Us.h; exact rfl; exact Sz.h; exact rfl); exact rfl))
              refine TL_store rfl rfl Sz.h hT12.one ((hb6.ext e11).ch c12 (fun hb => hg6 g6 hb rfl)) rfl ?_
              intro w13 c13 hz13 hb613
              repeat' (first | apply Jbq | apply Jbx)
              exact TN_join () (subEnv_cons rfl (subEnv_cons rfl (subEnv_nil _))) (key w11 g11 e11 hg11 hz11 w12 st2 c12 loc12 hT12 w13 c13 hz13 hb613)
        rintro _ w20 ⟨E20, hs20, hb420, hC0, sn2, sk2, st2, hb620, hx20⟩
        have hone2 := hx20.one
        repeat' (first | apply Jbs | apply Jbt | refine Jcg (Pu_loadAgg (cs := dskC (doD d ⟨kind, name, to, size, data⟩) sn2 sk2 st2) Us.h rfl Sz.h rfl (fun _ e j u hu => by rw [e, add0, hb620.cell]; exact hu)) rfl ?_)
        refine TL_storeAgg rfl rfl Sz.h hone2 hb420 rfl ?_
        intro w21 c21 hz21 hb21
        repeat' (first | apply Jbq | apply Jbr | apply Jbu | (apply Jcg; exact Jab rfl; exact rfl))
        exact TR_of (resA1 rfl rfl rfl hb21 Us.h rfl Sz.h) ⟨sn2, sk2, st2, by rw [hC0], Ext.then_iv E20 c21 (by omega), (hx20.ch c21 (by intro k _ _; simp only [Iv]; omega)).wide (by omega) (by omega) (Nat.le_refl _)⟩
end Go.Proofs.Ytggaghghclomkaa
