/- Contract: a disk behind a loss of power, by the reference. -/
import Derived.Test.YtggaghghclomkaaGreatCrashK
namespace Go.Proofs.YtggaghghclomkaaGreat
open Go.RowKit
attribute [local irreducible] TL TC TN TX TR TQ TA Pu Ret
set_option maxRecDepth 100000 in
set_option maxHeartbeats 4000000 in
theorem specDiskCrash_c {w : World} {lo hi : Nat} {d : DiskP} {sn sk st : Value} {t : Int} {cuts : List Int} {lo2 hi2 : Nat} {vc : Value} (h : RDk w lo hi d sn sk st) (hf : d.fits) (hl : totD d ≤ 1048576) (hcu : RI w lo2 hi2 vc cuts) (hcl : cuts.length ≤ 9223372036854775807) :
    Ret Tryz.prog 12 #[.agg (dskC d sn sk st).toArray, I t, vc] w fun v' w' => ∃ sn' sk' st', v' = .tuple #[.agg (dskC (pCrash d t cuts).1 sn' sk' st').toArray, .bool (pCrash d t cuts).2] ∧ Ext w w' ∧ ODk w' w.heap.size w'.heap.size (pCrash d t cuts).1 sn' sk' st' := by
  have hh := h
  obtain ⟨Ac, cc, rfl, hcc, hrc⟩ := hcu
  obtain ⟨m, hm⟩ : ∃ m, m = tnN d t := ⟨_, rfl⟩
  have hmi : max 0 (min t (d.turns.length : Int)) = (m : Int) := by rw [hm]; unfold tnN; omega
  have hml : m ≤ d.turns.length := by omega
  obtain ⟨L, hLq⟩ : ∃ L, L = runT d.kept (d.turns.take m) := ⟨_, rfl⟩
  have hLm : runT d.kept (d.turns.take (tnN d t)) = L := by rw [hLq, hm]
  obtain ⟨At, ct, rfl, hct, hrt0⟩ := h.2.2.row
  refine Ret_enter Tryz.func12 rfl rfl rfl ?_
  repeat' (first | apply Jbs | apply Jbt)
  refine TL_box (cs := dskC d sn sk (.slice At d.turns.length ct)) rfl rfl ?_
  intro w1 g1 e1 hg1 hz1 hb1
  skip
  refine TL_alloc Zs.h rfl rfl ?_
  intro w2 g2 e2 hg2 hz2 hb2
  replace hb1 := hb1.ext e2
  have E2 : Ext w w2 := e1.ext e2
  repeat' (first | apply Jbq | apply Jbr | apply Jbs | apply Jbt | (apply Jcg; exact Jab rfl; exact rfl) | refine Jcg (Pu_loadAgg (cs := dskC d sn sk (.slice At d.turns.length ct)) Us.h rfl Sz.h rfl (fun _ e j u hu => by rw [e, add0, hb1.cell]; exact hu)) rfl ?_)
  refine TL_call rfl en57 (specDiskOk_c (hh.ext E2) hf hl) rfl rfl ?_
  rintro _ w3 ⟨rfl, e3⟩
  replace hb1 := hb1.ext e3
  replace hb2 := hb2.ext e3
  have hs3 := e3.size
  have E3 := E2.ext e3
  cases hp : pDOk d with
  | false =>
    rw [pCrash_no (fun h => by rw [pDOk_yes h] at hp; cases hp)]
    repeat' (first | apply Jbq | apply Jbr | apply Jbs | apply Jbt | (refine Jce rfl ?_) | (apply Jcg; exact Jaj rfl; exact rfl) | refine Jcg (Pu_build (cs := dskC noDk (.slice none 0 0) (.slice none 0 0) (.slice none 0 0)) rfl (by kernel_rfl)) rfl ?_)
    refine TL_storeAgg rfl rfl Sz.h rfl hb2 rfl ?_
    intro w8 c8 hz8 hb8
    have E8 : Ext w w8 := Ext.then_iv E3 c8 (by omega)
    repeat' (first | apply Jbq | apply Jbr | apply Jbu | apply Jbv | (apply Jcg; exact Jab rfl; exact rfl))
    exact TR_of (resA1 rfl rfl rfl hb8 Us.h rfl Sz.h) ⟨_, _, _, rfl, E8, ODk.nil (Nat.le_refl _)⟩
  | true =>
    have hD := pDOk_of hp
    have hB := hD.base
    unfold dBase at hB
    rw [pCrash_yes hD]
    repeat' (first | apply Jbq | apply Jbr | apply Jbz | (refine Jcf rfl ?_) | (apply Jcg; exact Jaj rfl; exact rfl))
    refine TC_join (ι := Unit) (fun _ => [(1, I (max 0 t)), (2, .slice Ac cuts.length cc), (3, .pointer (some ⟨g1, 0, none⟩)), (6, .pointer (some ⟨g2, 0, none⟩))]) (fun _ w' => w3 = w') ?_ ?_
    · repeat' (first | apply Jbq | apply Jbr | apply Jbs | apply Jbt | (apply Jcg; (first | exact Jaa rfl | exact Jad rfl rfl); exact rfl))
      refine Jcx rfl (fun hp => ?_) (fun hp => ?_)
      · repeat' (first | apply Jbq | apply Jbt | (apply Jcg; exact Jab rfl; exact rfl))
        exact TN_join () (subEnv_cons (congrArg (fun z => some (I z)) (by omega)) (subEnv_cons rfl (subEnv_cons rfl (subEnv_cons rfl (subEnv_nil _))))) rfl
      · repeat' (apply Jbz)
        exact TN_join () (subEnv_cons (congrArg (fun z => some (I z)) (by omega)) (subEnv_cons rfl (subEnv_cons rfl (subEnv_cons rfl (subEnv_nil _))))) rfl
    rintro _ _ rfl
    refine TC_join (ι := Unit) (fun _ => [(1, I m), (2, .slice Ac cuts.length cc), (3, .pointer (some ⟨g1, 0, none⟩)), (6, .pointer (some ⟨g2, 0, none⟩))]) (fun _ w' => w3 = w') ?_ ?_
    · repeat' (first | apply Jbq | apply Jbr | apply Jbs | apply Jbt | (apply Jcg; (first | exact Jaa rfl | exact Jac Us.h rfl | exact Jam rfl rfl | (apply Jbl; exact Us.h; exact rfl; exact Sz.h; exact rfl)); exact rfl) | refine Jcg (Pu_load Fl.h rfl (fun _ e => by rw [e]; exact hb1.ld rfl)) rfl ?_)
      refine Jcx rfl (fun hp => ?_) (fun hp => ?_)
      · repeat' (first | apply Jbq | apply Jbt | (apply Jcg; (first | exact Jab rfl | exact Jac Us.h rfl | (apply Jbl; exact Us.h; exact rfl; exact Sz.h; exact rfl)); exact rfl) | refine Jcg (Pu_load Fl.h rfl (fun _ e => by rw [e]; exact hb1.ld rfl)) rfl ?_)
        exact TN_join () (subEnv_cons (congrArg (fun z => some (I z)) (by omega)) (subEnv_cons rfl (subEnv_cons rfl (subEnv_cons rfl (subEnv_nil _))))) rfl
      · repeat' (apply Jbz)
        exact TN_join () (subEnv_cons (congrArg (fun z => some (I z)) (by omega)) (subEnv_cons rfl (subEnv_cons rfl (subEnv_cons rfl (subEnv_nil _))))) rfl
    rintro _ _ rfl
    repeat' (first | apply Jbs | apply Jbt | refine Jcg (Pu_loadAgg (cs := dskC d sn sk (.slice At d.turns.length ct)) Us.h rfl Sz.h rfl (fun _ e j u hu => by rw [e, add0, hb1.cell]; exact hu)) rfl ?_)
    refine TL_call rfl en58 (specl03Copy_c (hh.ext E3) hl) rfl rfl ?_
    rintro _ w4 ⟨sn1, sk1, st1, rfl, e4, hx⟩
    replace hb1 := hb1.ext e4
    replace hb2 := hb2.ext e4
    have hs4 := e4.size
    have E4 := E3.ext e4
    have hone := hx.one
    skip
    refine TL_alloc Zs.h rfl rfl ?_
    intro w5 g5 e5 hg5 hz5 hb5
    replace hb1 := hb1.ext e5
    replace hb2 := hb2.ext e5
    replace hx := hx.ext e5
    skip
    refine TL_storeAgg rfl rfl Sz.h hone hb5 rfl ?_
    clear hb5
    intro w6 c6 hz6 hb5
    replace hb1 := hb1.ch c6 (by simp only [Iv]; omega)
    replace hb2 := hb2.ch c6 (by simp only [Iv]; omega)
    replace hx := hx.ch c6 (by intro k _ _; simp only [Iv]; omega)
    have E6 : Ext w w6 := Ext.then_iv (E4.ext e5) c6 (by have := E4.size; omega)
    repeat' (first | apply Jbq | apply Jbr | apply Jbs | apply Jbt | (apply Jcg; exact Jaa rfl; exact rfl) | refine Jcg (Pu_loadAgg (cs := dskC d sn sk (.slice At d.turns.length ct)) Us.h rfl Sz.h rfl (fun _ e j u hu => by rw [e, add0, hb1.cell]; exact hu)) rfl ?_)
    refine TL_call rfl en59 (l03Dir_o (n := m) (hh.ext E6) (by omega) (by omega) hml) rfl rfl ?_
    rintro vk w7 ⟨e7, hok⟩
    rw [← hLq] at hok
    have hs7 := e7.size
    have hokb := hok.bin
    have E7 := E6.ext e7
    replace hb5 := hb5.ext e7
    replace hb2 := hb2.ext e7
    replace hx := hx.ext e7
    have hdir := hD.dirLe m hml
    rw [← hLq] at hdir
    repeat' ((apply Jcg; (apply Jbl; exact Us.h; exact rfl; exact Sz.h; exact rfl); exact rfl))
    refine TL_store rfl rfl Sz.h hok.rd.one hb5 rfl ?_
    clear hb5
    intro w8 c8 hz8 hb5
    repeat' (first | apply Jbq | apply Jbr | apply Jbs | apply Jbt | (apply Jcg; (apply Jbl; exact Us.h; exact rfl; exact Sz.h; exact rfl); exact rfl))
    refine TL_store rfl rfl Sz.h rfl hb5 rfl ?_
    clear hb5
    intro w9a c9a hz9a hb5
    repeat' (first | apply Jbq | apply Jbr | apply Jbs | apply Jbt | (apply Jcg; (apply Jbl; exact Us.h; exact rfl; exact Sz.h; exact rfl); exact rfl))
    refine TL_store rfl rfl Sz.h rfl hb5 rfl ?_
    clear hb5
    intro w9 c9b hz9b hb5
    have c9 := c9a.then c9b
    have hz9 : w9.heap.size = w8.heap.size := by omega
    replace hb5 : Blk w9 g5 33 (dskC (crashD d t cuts) sn1 vk (.slice none 0 0)) := hb5
    replace hb2 := (hb2.ch c8 (by simp only [Iv]; omega)).ch c9 (by simp only [Iv]; omega)
    replace hx := (hx.ch c8 (by intro k _ _; simp only [Iv]; omega)).ch c9 (by intro k _ _; simp only [Iv]; omega)
    replace hok := (hok.ch c8 (by intro k _ _; simp only [Iv]; omega)).ch c9 (by intro k _ _; simp only [Iv]; omega)
    have E9 : Ext w w9 := Ext.then_iv (Ext.then_iv E7 c8 (by have := E4.size; omega)) c9 (by have := E4.size; omega)
    obtain ⟨_, ds, hmap, hN, hrk, hrt, hnd, hin⟩ := hx
    have hinN : ∀ b ∈ bksN sn1 ds, w3.heap.size ≤ b ∧ b < w4.heap.size := fun b hb => hin b (List.mem_append.2 (.inl hb))
    obtain ⟨A1, c1, rfl, hc1, hr1⟩ := hN.row.rr (fun b hb => hinN b (List.mem_append.2 (.inl hb))) (by omega)
    have hdl : ds.length = d.nodes.length := by rw [← hmap, List.length_map]
    have hrd : RDk w9 0 w9.heap.size { d with fuse := -1, kept := L, turns := [] } (.slice A1 ds.length c1) vk (.slice none 0 0) :=
      ⟨by rw [← hmap]; have := hN.rn hinN (by omega); obtain ⟨a, b, c, h1, h2, h3, h4, h5⟩ := this; exact ⟨a, b, c, h1, h2, h3, h4.wide (Nat.zero_le _) (by omega) (Nat.le_refl _), fun x hx => ⟨by obtain ⟨A, c, q1, q2, q3⟩ := (h5 x hx).1; exact ⟨A, c, q1, q2, q3.wide (Nat.zero_le _) (by omega) (Nat.le_refl _)⟩, by obtain ⟨A, c, q1, q2, q3⟩ := (h5 x hx).2; exact ⟨A, c, q1, q2, q3.wide (Nat.zero_le _) (by omega) (Nat.le_refl _)⟩⟩⟩,
        hok.rk, RowR.rt (RowO.nil (e := 121) w9 0 (Nat.zero_le _)).rd⟩
    repeat' (first | apply Jbq | apply Jbr | apply Jbs | apply Jbt | refine Jcg (Pu_loadAgg (cs := dskC (crashD d t cuts) (.slice A1 ds.length c1) vk (.slice none 0 0)) Us.h rfl Sz.h rfl (fun _ e j u hu => by rw [e, add0, hb5.cell]; exact hu)) rfl ?_)
    refine TL_call rfl en60 (l04Only_c (d := { d with fuse := -1, kept := L, turns := [] }) hrd hr1 (fun x hx => by obtain ⟨h1, h2⟩ := hN.ok x hx; obtain ⟨A, c, _, _, h3, _⟩ := h1.sl; obtain ⟨A', c', _, _, h4, _⟩ := h2.sl; exact ⟨⟨A, _, c, h3⟩, ⟨A', _, c', h4⟩⟩) (by simp only; omega) (by simp) (by omega)) rfl rfl ?_
    rintro _ w10 ⟨vn, rfl, e10, hon⟩
    rw [show pIds { d with fuse := -1, kept := L, turns := [] } = L.map (·.id) by simp [pIds]] at hon
    have hs10 := e10.size
    replace hb5 := hb5.ext e10
    have hN10 : ONx w10 vn (only ds ((L).map (·.id))) := hN.keep hon e10 (fun b hb t => t) (fun b hb => by have := hinN b hb; omega)
    have hbk10 : ∀ b ∈ bksN vn (only ds ((L).map (·.id))), w3.heap.size ≤ b ∧ b < w10.heap.size ∧ (b < w6.heap.size ∨ w7.heap.size ≤ b) ∧ b ≠ g5 := fun b hb => by
      have h1 := bks_keep hon hinN b hb
      exact ⟨by omega, by omega, by omega, by omega⟩
    replace hok := hok.ext e10
    replace hb2 := hb2.ext e10
    have E10 : Ext w w10 := E9.ext e10
    obtain ⟨l, hlq⟩ : ∃ l, l = onlyP d.nodes ((L).map (·.id)) := ⟨_, rfl⟩
    have hmap9 : (only ds ((L).map (·.id))).map NdP = l := by rw [only_map, hmap, hlq]
    obtain ⟨es0, hes0⟩ : ∃ es0, es0 = only ds ((L).map (·.id)) := ⟨_, rfl⟩
    rw [← hes0] at hmap9 hN10 hbk10 hon
    have hl8 : l.length ≤ 8 := by rw [hlq]; have := onlyP_length d.nodes ((L).map (·.id)); omega
    have hlen0 : es0.length = l.length := by rw [← hmap9, List.length_map]
    obtain ⟨An, cn, rfl, hown⟩ := hon
    clear hown hr1 hrk hrt hN hmap hnd hin hb1 hrd hrt0
    skip
    refine TL_storeAgg rfl rfl Sz.h (by show ((dskC (crashD d t cuts) (.slice An es0.length cn) vk (.slice none 0 0)).all (·.oneCell')) = true; simp only [dskC, List.all_cons, List.all_nil, hok.rd.one]; rfl) hb5 rfl ?_
    clear hb5
    intro w11 c11 hz11 hb5
    replace hb5 : Blk w11 g5 33 (dskC (crashD d t cuts) (.slice An es0.length cn) vk (.slice none 0 0)) := hb5
    replace hok := hok.ch c11 (by intro k _ _; simp only [Iv]; omega)
    replace hb2 := hb2.ch c11 (by simp only [Iv]; omega)
    replace hN10 := hN10.ch c11 (fun b hb => by have := hbk10 b hb; simp only [Iv]; omega)
    have E11 : Ext w w11 := Ext.then_iv E10 c11 (by have := E4.size; omega)
    repeat' (first | apply Jbq | apply Jbr | apply Jbs | apply Jbt | apply Jby | (apply Jcg; (first | exact Jaa rfl | exact Jac Us.h rfl | (apply Jbl; exact Us.h; exact rfl; exact Sz.h; exact rfl)); exact rfl) | refine Jcg (Pu_load Fl.h rfl (fun _ e => by rw [e]; exact hb5.ld rfl)) rfl ?_)
    refine TC_loop (ι := Nat) (fun k => [(2, .slice Ac cuts.length cc), (6, .pointer (some ⟨g2, 0, none⟩)), (8, .pointer (some ⟨g5, 0, none⟩)), (38, .slice An es0.length cn), (39, I es0.length), (40, I k)])
      (fun k w' => k ≤ l.length ∧ Ext w w' ∧ w11.heap.size ≤ w'.heap.size ∧ Blk w' g5 33 (dskC (crashD d t cuts) (.slice An es0.length cn) vk (.slice none 0 0)) ∧ RowO LkC 162 2 w' w6.heap.size w7.heap.size vk (L) ∧ Blk w' g2 33 (dskC noDk (.slice none 0 0) (.slice none 0 0) (.slice none 0 0)) ∧
        ∃ es, es.map NdP = (l.take k).mapIdx (crashP cuts) ++ l.drop k ∧ ONx w' (.slice An es0.length cn) es ∧ ∀ b ∈ bksN (.slice An es0.length cn) es, w3.heap.size ≤ b ∧ b < w'.heap.size ∧ (b < w6.heap.size ∨ w7.heap.size ≤ b) ∧ b ≠ g5) (fun k => l.length - k) 0
      (subEnv_cons rfl (subEnv_cons rfl (subEnv_cons rfl (subEnv_cons rfl (subEnv_cons rfl (subEnv_cons rfl (subEnv_nil _))))))) ⟨Nat.zero_le _, E11, Nat.le_refl _, hb5, hok, hb2, es0, by rw [hmap9]; simp, hN10, fun b hb => by have := hbk10 b hb; omega⟩ ?_
    rintro k w12 ⟨hk12, E12, hs12, hb512, hok12, hb212, es, hes, hN12, hbk12⟩
    repeat' (first | apply Jbq | apply Jbr | apply Jbs | apply Jbt | (apply Jcg; exact Jad rfl rfl; exact rfl))
    refine Jcx rfl (fun hlt0 => ?_) (fun hge => ?_)
    · have hlt : k < l.length := by omega
      have hel : es.length = l.length := by
        have := congrArg List.length hes
        rw [List.length_map, List.length_append, List.length_mapIdx, List.length_take, List.length_drop] at this
        omega
      have hke : k < es.length := by omega
      obtain ⟨gN, cN, loN, hiN, hvN, hownN⟩ := hN12.open hke
      injection hvN with hv1 hv2 hv3
      subst hv1 hv3
      have hgN := hbk12 gN (List.mem_append.2 (.inl (List.mem_singleton.2 rfl)))
      obtain ⟨x, hx⟩ : ∃ x, x = es[k] := ⟨_, rfl⟩
      have hok2 := hN12.ok es[k] (List.getElem_mem hke)
      have hbx := bkd_in (v := .slice (some ⟨gN, 0, none⟩) es0.length cn) hke
      rw [← hx] at hok2 hbx
      have hxl : NdP x = l[k] := by
        have h1 := upd_get (crashP cuts) l k hlt
        rw [← hes, List.getElem?_map, List.getElem?_eq_getElem hke, ← hx] at h1
        injection h1
      have hcell : ∀ j u, (NdC x)[j]? = some u → w12.cell? ((⟨gN, 0, none⟩ : Addr).add (k * 3) |>.add j) = some u := fun j u hu => by
        have hj : j < 3 := by have := (List.getElem?_eq_some_iff.1 hu).1; rw [NdC_len] at this; exact this
        rw [add_lit3, hownN.row.cellAt (k * 3 + j) (by omega), cellsL_at NdC_len es k j hke hj, ← hx]; exact hu
      obtain ⟨id, body, safe, vb, vs⟩ := x
      obtain ⟨hokB, hokS⟩ := hok2
      simp only at hokB hokS
      obtain ⟨Ab, cb, lob, hib, rfl, hownB⟩ := hokB.sl
      obtain ⟨As, cs, los, his, rfl, hownS⟩ := hokS.sl
      replace hcell : ∀ j u, [I id, .slice Ab body.length cb, .slice As safe.length cs][j]? = some u → w12.cell? ((⟨gN, 0, none⟩ : Addr).add (k * 3) |>.add j) = some u := hcell
      have hbl : body.length ≤ 1048576 ∧ safe.length ≤ 1048576 := by
        have h1 : (id, body, safe) ∈ d.nodes := by
          have h2 : l[k] ∈ l := List.getElem_mem hlt
          rw [← hxl, hlq] at h2
          exact onlyP_mem h2
        have h3 := totNd_mem h1
        have h4 := (totD_parts hl).1
        unfold NdW at h3
        simp only at h3
        omega
      repeat' (first | apply Jbr | apply Jbz)
      apply Jbs
      repeat' (apply Jby)
      apply Jbs
      repeat' (first | apply Jbq | apply Jbr | apply Jbt | (apply Jcg; (first | exact Jaa rfl | exact Jab rfl | exact Jar Us.h Sz.h rfl rfl (by omega)); exact rfl) | refine Jcg (Pu_loadAgg (cs := [I id, .slice Ab body.length cb, .slice As safe.length cs]) Us.h rfl Sz.h rfl (fun _ e j u hu => by rw [e]; exact hcell j u hu)) rfl ?_ | (refine TL_alloc Zs.h rfl rfl ?_; intro w13 g6 e13 hg6 hz13 hb6) | (refine TL_storeAgg rfl rfl Sz.h rfl hb6 rfl ?_; intro w14 c14 hz14 hb64))
      clear hb6
      replace hb512 := (hb512.ext e13).ch c14 (by simp only [Iv]; omega)
      replace hb212 := (hb212.ext e13).ch c14 (by simp only [Iv]; omega)
      replace hok12 := (hok12.ext e13).ch c14 (by intro j _ _; simp only [Iv]; omega)
      have e1214 : Ext w12 w14 := Ext.then_iv e13 c14 (by omega)
      apply Jbs
      repeat' (first | apply Jbq | apply Jbr | apply Jbt | (apply Jcg; exact Jab rfl; exact rfl))
      refine TC_join (ι := Unit) (fun _ => [(2, .slice Ac cuts.length cc), (6, .pointer (some ⟨g2, 0, none⟩)), (8, .pointer (some ⟨g5, 0, none⟩)), (9, I k), (10, .pointer (some ⟨g6, 0, none⟩)), (11, I (cutAt cuts k)), (38, .slice (some ⟨gN, 0, none⟩) es0.length cn), (39, I es0.length), (40, I k)]) (fun _ w' => w14 = w') ?_ ?_
      · repeat' (first | apply Jbq | apply Jbr | apply Jbs | apply Jbt | (apply Jcg; (first | exact Jaa rfl | exact Jac Us.h rfl | exact Jam rfl rfl); exact rfl))
        refine Jcx rfl (fun hp => ?_) (fun hp => ?_)
        · have hne : cuts.length ≠ 0 := by omega
          have hmod : ((k : Int) % (cuts.length : Int)) = ((k % cuts.length : Nat) : Int) := by omega
          have hmlt : k % cuts.length < cuts.length := Nat.mod_lt _ (by omega)
          obtain ⟨ad, rfl, hcell⟩ := (hrc.ext (E12.ext e1214)).get hmlt
          have hcv : (i64s cuts).getD (k % cuts.length) undef = I (cutAt cuts k) := by
            unfold cutAt i64s
            rw [if_neg hne]
            simp [List.getD_eq_getElem?_getD, List.getElem?_eq_getElem hmlt]
          rw [hcv] at hcell
          repeat' (first | apply Jbq | apply Jbt | (apply Jcg; (first | exact Jaa rfl | exact Jab rfl | exact Jac Us.h rfl | exact Jag Us.h Sz.h rfl rfl (by omega) | exact Jbj rfl rfl (by omega)); exact rfl) | refine Jcg (Pu_load Fl.h rfl (fun _ e => by rw [e, hmod, Int.toNat_natCast]; exact hcell)) rfl ?_)
          exact TN_join () (subEnv_cons rfl (subEnv_cons rfl (subEnv_cons rfl (subEnv_cons rfl (subEnv_cons rfl (subEnv_cons rfl (subEnv_cons rfl (subEnv_cons rfl (subEnv_cons rfl (subEnv_nil _)))))))))) rfl
        · have hz0 : cuts.length = 0 := by omega
          repeat' (apply Jbz)
          refine TN_join () (subEnv_cons rfl (subEnv_cons rfl (subEnv_cons rfl (subEnv_cons rfl (subEnv_cons rfl (subEnv_cons (congrArg (fun z => some (I z)) (by unfold cutAt; rw [if_pos hz0])) (subEnv_cons rfl (subEnv_cons rfl (subEnv_cons rfl (subEnv_nil _)))))))))) rfl
      rintro _ _ rfl
      repeat' (first | apply Jbs | apply Jbt | (apply Jcg; (first | exact Jaa rfl | (apply Jbl; exact Us.h; exact rfl; exact Sz.h; exact rfl)); exact rfl) | refine Jcg (Pu_load Fl.h rfl (fun _ e => by rw [e]; exact hb64.ld rfl)) rfl ?_)
      refine TL_call rfl en61 (specTear_c (hownS.ext e1214).rd (hownB.ext e1214).rd (by omega) (by omega) (hownS.ext e1214).cap.1 (hownB.ext e1214).cap.1) rfl rfl ?_
      rintro _ w15 ⟨A2, c2, rfl, e15, ho2⟩
      obtain ⟨b, hbq⟩ : ∃ b, b = tear safe body (cutAt cuts k) := ⟨_, rfl⟩
      have hb8 : b.length ≤ 1048576 := by
        have h1 := tear_le safe body (cutAt cuts k)
        rw [← hbq] at h1
        omega
      rw [← hbq] at ho2 ⊢
      have e1215 := e1214.ext e15
      have hb515 := hb512.ext e15
      have hb615 := hb64.ext e15
      repeat' (first | apply Jbq | apply Jbr | (apply Jcg; exact Jab rfl; exact rfl))
      refine TC_anyS (fun w' => Ch (Iv gN (gN + 1)) w15 w') mixed rfl (Ch.refl _ _).drew ?_
      intro w16 e16 hz16 hE
      (refine Jco 0 rfl (by kernel_rfl) (by kernel_rfl) (by kernel_rfl) (fun _ _ _ h => h) hE (by (apply Jbl; exact Us.h; exact rfl; exact Sz.h; exact rfl)) rfl ?_; refine Jco 1 rfl (by kernel_rfl) (by kernel_rfl) (by kernel_rfl) (fun _ _ _ h => h) hE (by exact Pu_load Fl.h rfl (fun _ e => Ch.cell e (hb515.ld rfl) (by rw [block_of_add]; simp only [Iv]; omega))) rfl ?_; refine Jco 2 rfl (by kernel_rfl) (by kernel_rfl) (by kernel_rfl) (fun _ _ _ h => h) hE (by exact Jaa rfl) rfl ?_; refine Jco 3 rfl (by kernel_rfl) (by kernel_rfl) (by kernel_rfl) (fun _ _ _ h => h) hE (by (apply Jbl; exact Us.h; exact rfl; exact Sz.h; exact rfl)) rfl ?_; refine Jco 4 rfl (by kernel_rfl) (by kernel_rfl) (by kernel_rfl) (fun _ _ _ h => h) hE (by exact Pu_load Fl.h rfl (fun _ e => Ch.cell e (hb615.ld rfl) (by rw [block_of_add]; simp only [Iv]; omega))) rfl ?_; refine Jco 5 rfl (by kernel_rfl) (by kernel_rfl) (by kernel_rfl) (fun _ _ _ h => h) hE (by exact Jaa rfl) rfl ?_; refine Jco 7 rfl (by kernel_rfl) (by kernel_rfl) (by kernel_rfl) (fun _ _ _ h => h) hE (by exact Jaa rfl) rfl ?_)
      refine TA_one 6 (by kernel_rfl) rfl ?_
      refine TL_buildSlice0 Us.h Sz.h rfl ?_
      intro w17 g17 e17 hg17 hz17 hown17
      have hE17 := hE.ext e17
      clear hE
      have hE := hE17
      refine Jbq (TN_any hE ?_)
      refine TA_one 8 (by kernel_rfl) rfl ?_
      have hnew : OB w17 w16.heap.size w17.heap.size _ [] := OB_new (s := []) rfl hown17 hg17 hz17
      have e1517 := e16.ext e17
      refine TL_appendB Us.h rfl rfl hnew ⟨_, _, rfl, (ho2.ext e1517).cap.1, (ho2.ext e1517).rd⟩ e17.size (by simp only [List.length_nil]; omega) rfl ?_
      intro w18 v18 c18 ho18
      rw [List.nil_append] at ho18
      obtain ⟨A3, c3, rfl, ho3⟩ := ho18
      have e1518 : Ext w15 w18 := Ext.then_iv e1517 c18 e16.size
      have e1218 : Ext w12 w18 := e1215.ext e1518
      have hE18 : Ch (Iv gN (gN + 1)) w15 w18 := Ch.mono e1518 (fun _ t => t.elim)
      clear hE hE17
      have hE := hE18
      refine Jbq (TN_any hE ?_)
      (refine Jco 9 rfl (by kernel_rfl) (by kernel_rfl) (by kernel_rfl) (fun _ _ _ h => h) hE (by exact Pu_build (cs := [I id, .slice A2 b.length c2, .slice A3 b.length c3]) rfl (by kernel_rfl)) rfl ?_; refine Jco 10 rfl (by kernel_rfl) (by kernel_rfl) (by kernel_rfl) (fun _ _ _ h => h) hE (by exact Jar Us.h Sz.h rfl rfl (by omega)) rfl ?_)
      refine TA_one 11 (by kernel_rfl) rfl ?_
      refine TL_storeOwnAgg rfl (add0 gN (k * 3)) rfl Sz.h rfl (hownN.ext e1218) (by simp only [List.length_cons, List.length_nil]; omega) ?_
      intro w19 c19 hz19 hown19
      have hs14 := e1214.size
      have hs15 := e15.size
      have hs16 := e16.size
      have hs17 := e17.size
      have hs18 := c18.size
      have hx' : es[k] = ⟨id, body, safe, .slice Ab body.length cb, .slice As safe.length cs⟩ := hx.symm
      replace hown19 : Own w19 loN hiN 98 3 (some ⟨gN, 0, none⟩) es.length cn (setL (cellsL NdC es) (k * 3) (NdC ⟨id, b, b, .slice A2 b.length c2, .slice A3 b.length c3⟩)) := hown19
      rw [cells_put hke] at hown19
      have hlset : (es.set k ⟨id, b, b, .slice A2 b.length c2, .slice A3 b.length c3⟩).length = es0.length := by rw [List.length_set]; omega
      refine Jbq (TN_any (hE.then c19) ?_)
      refine TA_done (by kernel_rfl) ?_
      have hbn2 : ∀ x ∈ blk (.slice A2 b.length c2), w14.heap.size ≤ x ∧ x < w15.heap.size := OB.bin ⟨A2, c2, rfl, ho2⟩
      have hbn3 : ∀ x ∈ blk (.slice A3 b.length c3), w16.heap.size ≤ x ∧ x < w18.heap.size := OB.bin ⟨A3, c3, rfl, ho3⟩
      have hN19 := ONx.set (x' := ⟨id, b, b, .slice A2 b.length c2, .slice A3 b.length c3⟩) hke (hN12.ext e1218) c19 ⟨_, _, by rw [hlset], by rw [hlset, ← hel.trans hlen0.symm]; exact hown19⟩ ⟨(OB.x ⟨A2, c2, rfl, ho2⟩).ext e1518, OB.x ⟨A3, c3, rfl, ho3⟩⟩
        (by
          show (blk _ ++ blk _).Nodup
          rw [List.nodup_append]
          exact ⟨blk_nodup _, blk_nodup _, fun x hx y hy e => by
            have h1 := hbn2 x hx
            have h2 := hbn3 y hy
            omega⟩)
        (fun x hx => by
          right
          intro h
          have h1 := hbk12 x h
          rcases List.mem_append.1 hx with hx | hx
          · have h2 := hbn2 x hx; omega
          · have h2 := hbn3 x hx; omega)
      have hbk19 := bks_set (R := fun b => w3.heap.size ≤ b ∧ b < w19.heap.size ∧ (b < w6.heap.size ∨ w7.heap.size ≤ b) ∧ b ≠ g5) (v := .slice (some ⟨gN, 0, none⟩) es0.length cn) (es := es) (k := k) (x' := ⟨id, b, b, .slice A2 b.length c2, .slice A3 b.length c3⟩) (fun b hb => by have := hbk12 b hb; exact ⟨this.1, by omega, this.2.2⟩)
        (fun x hx => by
          rcases List.mem_append.1 hx with hx | hx
          · have h2 := hbn2 x hx
            exact ⟨by omega, by omega, by omega, by omega⟩
          · have h2 := hbn3 x hx
            exact ⟨by omega, by omega, by omega, by omega⟩)
      have hb519 := (hb515.ext e1518).ch c19 (by simp only [Iv]; omega)
      have hb219 := ((hb212.ext e15).ext e1518).ch c19 (by simp only [Iv]; omega)
      have hok19 := ((hok12.ext e15).ext e1518).ch c19 (by intro j h1 h2; simp only [Iv]; omega)
      repeat' (first | apply Jbq | apply Jbr | apply Jbt | apply Jbx | (apply Jcg; (first | exact Jaa rfl | exact Jaf rfl rfl (by omega)); exact rfl))
      exact TN_round (k + 1) (subEnv_cons rfl (subEnv_cons rfl (subEnv_cons rfl (subEnv_cons rfl (subEnv_cons rfl (subEnv_cons rfl (subEnv_nil _))))))) ⟨hlt, Ext.then_iv (E12.ext e1218) c19 (by omega), by omega, hb519, hok19, hb219, es.set k ⟨id, b, b, .slice A2 b.length c2, .slice A3 b.length c3⟩, by rw [← upd_step _ _ _ hlt, ← hes, List.map_set, ← hxl, hbq]; rfl, hN19, hbk19⟩ (by omega)
    · obtain rfl : k = l.length := by omega
      rw [upd_all, hlq] at hes
      repeat' (first | apply Jbr | apply Jbs | apply Jbt | apply Jca | apply Jcb | apply Jcc | refine Jcg (Pu_loadAgg (cs := dskC (crashD d t cuts) (.slice An es0.length cn) vk (.slice none 0 0)) Us.h rfl Sz.h rfl (fun _ e j u hu => by rw [e, add0, hb512.cell]; exact hu)) rfl ?_)
      refine TL_storeAgg rfl rfl Sz.h (by show ((dskC (crashD d t cuts) (.slice An es0.length cn) vk (.slice none 0 0)).all (·.oneCell')) = true; simp only [dskC, List.all_cons, List.all_nil, hok12.rd.one]; rfl) hb212 rfl ?_
      intro w13 c13 hz13 hb13
      repeat' (first | apply Jbq | apply Jbr | apply Jbu | (apply Jcg; exact Jab rfl; exact rfl))
      exact TR_of (resA1 rfl rfl rfl hb13 Us.h rfl Sz.h) ⟨.slice An es0.length cn, vk, .slice none 0 0, rfl, Ext.then_iv E12 c13 (by omega), ODk.mk2 (d := crashD d t cuts) (Nat.le_refl _) (by rw [hes]; unfold crashD; rw [hLm]) (hN12.ch c13 (fun b hb => by have := hbk12 b hb; simp only [Iv]; omega)) (by rw [show (crashD d t cuts).kept = L from hLm]; exact hok12.ch c13 (by intro j _ _; simp only [Iv]; omega)) rfl (fun b hb => by have := hbk12 b hb; exact ⟨by omega, by omega, fun h => by have := hokb b h; omega⟩) (by omega) (by omega)⟩
end Go.Proofs.YtggaghghclomkaaGreat
