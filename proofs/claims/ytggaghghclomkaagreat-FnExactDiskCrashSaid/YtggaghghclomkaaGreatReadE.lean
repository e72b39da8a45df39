/- Contracts: a file is read. -/
import Derived.Test.YtggaghghclomkaaGreatReadD
namespace Go.Proofs.YtggaghghclomkaaGreat
open Go.RowKit
theorem DOk.ids_ge {d : DiskP} (h : DOk d) (s : List UInt8) : dFind (pDir d) s = 0 ↔ dHas (pDir d) s = false := by
  have := pFind_pos h s
  constructor
  · intro h0
    cases hh : dHas (pDir d) s with
    | false => rfl
    | true => rw [hh, h0] at this; exact absurd (this.2 rfl) (by decide)
  · intro hh; exact dFind_none hh
theorem pTurn_len {L : List LkD} {t : TnD} : (pTurn L t).length ≤ L.length + 1 := pTurn_length L t
theorem pDirs_length {d : DiskP} : (pDirs d).length ≤ 48 := by
  by_cases h : DOk d
  · rw [pDirs_yes h]
    have := runT_length d.kept d.turns
    have hB := h.base
    unfold dBase at hB
    unfold pDir
    omega
  · rw [pDirs_no h]; simp
attribute [local irreducible] TL TC TN TX TR TQ TA Pu Ret
set_option maxRecDepth 100000 in
set_option maxHeartbeats 4000000 in
theorem specDiskRead_c {w : World} {lo hi : Nat} {d : DiskP} {sn sk st : Value} {s : List UInt8} (h : RDk w lo hi d sn sk st) (hf : d.fits) (hl : totD d ≤ 1048576) :
    Ret Tryz.prog 106 #[.agg (dskC d sn sk st).toArray, S s] w fun v' w' => ∃ v2, v' = .tuple #[v2, .bool (pRead d s).2] ∧ Ext w w' ∧ RB w' 0 w'.heap.size v2 (pRead d s).1 := by
  have hh := h
  obtain ⟨ds, A, c, hm, rfl, hc, hr, hok⟩ := h.1
  have hln : d.nodes.length = ds.length := by rw [← hm, List.length_map]
  have hl1 := (totD_parts hl).1
  have hl0 := totNd_nn d.nodes
  refine Ret_enter Tryz.func106 rfl rfl rfl ?_
  repeat' (first | apply Jbs | apply Jbt)
  refine TL_box (cs := dskC d (.slice A ds.length c) sk st) rfl rfl ?_
  intro wb g E hg hz hb0
  clear hz
  repeat' (first | apply Jbq | apply Jbr | apply Jbs | apply Jbt | (apply Jcg; exact Jab rfl; exact rfl) | refine Jcg (Pu_loadAgg (cs := dskC d (.slice A ds.length c) sk st) Us.h rfl Sz.h rfl (fun _ e j u hu => by rw [e, add0, hb0.cell]; exact hu)) rfl ?_)
  refine TL_call rfl en86 (specDiskDir_c (hh.ext E) hf hl) rfl rfl ?_
  rintro v1 w1 ⟨e1, hr1⟩
  have hpl := pDirs_length (d := d)
  repeat' ((apply Jcg; exact Jaa rfl; exact rfl))
  refine TL_call rfl en85 (l03Find_c hr1 (by omega)) rfl rfl ?_
  rintro _ w2 ⟨rfl, e2⟩
  have E2 := (E.ext e1).ext e2
  have hb2 := (hb0.ext e1).ext e2
  repeat' (first | apply Jbq | apply Jbr | apply Jbs | apply Jbt | (apply Jcg; (first | exact Jaa rfl | exact Jab rfl | exact Jak rfl rfl); exact rfl))
  refine Jcx rfl (fun h0 => ?_) (fun h0 => ?_)
  · repeat' (first | apply Jbq | apply Jbr | apply Jbs | apply Jbt | apply Jbu | apply Jbv | (apply Jcg; exact Jab rfl; exact rfl))
    refine TR_of (res2 rfl rfl rfl) ⟨.slice none 0 0, ?_, E2, ?_⟩
    · have : pRead d s = ([], false) := pRead_no (fun h => by rw [pDirs_yes h.1, DOk.ids_ge h.1, h.2] at h0; cases h0)
      rw [this]
    · have : pRead d s = ([], false) := pRead_no (fun h => by rw [pDirs_yes h.1, DOk.ids_ge h.1, h.2] at h0; cases h0)
      rw [this]
      exact ⟨none, 0, rfl, Nat.le_refl _, ⟨rfl, Nat.le_refl _, fun h => absurd h (by simp)⟩⟩
  · have hD : DOk d := by
      by_cases h : DOk d
      · exact h
      · rw [pDirs_no h] at h0; exact absurd rfl h0
    rw [pDirs_yes hD] at h0 ⊢
    have hhas : dHas (pDir d) s = true := by
      cases hh : dHas (pDir d) s with
      | true => rfl
      | false => exact absurd ((DOk.ids_ge hD s).2 hh) h0
    obtain ⟨i, hi, hat, _⟩ := hD.dirAt hhas
    rw [pRead_yes hD hhas, hat]
    simp only
    rw [bodyAt_nat hi]
    obtain ⟨ad, rfl, hcell⟩ := Rd.elem NdC_len (hr.ext E2) (k := i) (by omega)
    have hni : d.nodes[i] = NdP ds[i] := by simp only [← hm, List.getElem_map]
    have hbody : d.nodes[i].2.1 = ds[i].body := by rw [hni]; rfl
    have hrb := (hok _ (List.getElem_mem (show i < ds.length by omega))).1
    have hwk := totNd_mem (List.getElem_mem hi)
    unfold NdW at hwk
    rw [hbody] at hwk ⊢
    have hcv : w2.cell? ((ad.add (i * 3)).add 1) = some (ds[i]'(by omega)).vb := hcell 1 _ rfl
    obtain ⟨x, hx⟩ : ∃ x, x = ds[i]'(by omega) := ⟨_, rfl⟩
    rw [← hx] at hcv hrb hwk ⊢
    obtain ⟨Ab, cb, hvb, hcb, hrdb⟩ := hrb
    rw [hvb] at hcv
    repeat' (first | apply Jbr | apply Jbs | apply Jbz)
    refine TC_any mixed rfl ?_
    intro w3 hE hz3
    (refine Jco 1 rfl (by kernel_rfl) (by kernel_rfl) (by kernel_rfl) (fun _ _ _ h => h) hE (by (apply Jbl; exact Us.h; exact rfl; exact Sz.h; exact rfl)) rfl ?_; refine Jco 2 rfl (by kernel_rfl) (by kernel_rfl) (by kernel_rfl) (fun _ _ _ h => h) hE (by exact Pu_load Fl.h rfl (fun _ e => Ext.cell e (hb2.ld rfl))) rfl ?_; refine Jco 3 rfl (by kernel_rfl) (by kernel_rfl) (by kernel_rfl) (fun _ _ _ h => h) hE (by exact Pu_loadAgg (cs := dskC d (.slice (some ad) ds.length c) sk st) Us.h rfl Sz.h rfl (fun _ e j u hu => Ext.cell e (by rw [add0, hb2.cell]; exact hu))) rfl ?_; refine Jco 4 rfl (by kernel_rfl) (by kernel_rfl) (by kernel_rfl) (fun _ _ _ h => h) hE (by exact Jaa rfl) rfl ?_)
    refine TA_two 0 5 (by kernel_rfl) rfl rfl ?_ ?_
    · refine TL_buildSlice0 Us.h Sz.h rfl ?_
      intro w4 g4 e4 hg4 hz4 hown4
      have hE4 := hE.ext e4
      refine Jbq (TN_any hE4 ?_)
      refine TA_one 5 (by kernel_rfl) rfl ?_
      refine TL_call rfl en84 (specl03At_c (hh.ext (E2.ext hE4)) (by omega)) rfl rfl ?_
      rintro _ w5 ⟨rfl, e5⟩
      rw [hat]
      have hE := hE4.ext e5
      refine Jbq (TN_any hE ?_)
      (refine Jco 6 rfl (by kernel_rfl) (by kernel_rfl) (by kernel_rfl) (fun _ _ _ h => h) hE (by exact Jar Us.h Sz.h rfl rfl (by omega)) rfl ?_; refine Jco 7 rfl (by kernel_rfl) (by kernel_rfl) (by kernel_rfl) (fun _ _ _ h => h) hE (by (apply Jbl; exact Us.h; exact rfl; exact Sz.h; exact rfl)) rfl ?_; refine Jco 8 rfl (by kernel_rfl) (by kernel_rfl) (by kernel_rfl) (fun _ _ _ h => h) hE (by exact Pu_load Fl.h rfl (fun _ e => Ext.cell e hcv)) rfl ?_)
      refine TA_one 9 (by kernel_rfl) rfl ?_
      have hnew : OB w5 w3.heap.size w4.heap.size _ [] := (OB_new (s := []) rfl hown4 hg4 hz4).ext e5
      refine TL_appendB Us.h rfl rfl hnew ⟨_, _, rfl, hcb, hrdb.ext (E2.ext hE)⟩ (by have := e4.size; have := e5.size; omega) (by simp only [List.length_nil]; omega) rfl ?_
      intro w6 v6 c6 ho6
      have hE6 : Ext w2 w6 := Ext.then_iv hE c6 (by omega)
      refine Jbq (TN_any hE6 ?_)
      clear hE
      have hE := hE6
      (refine Jco 10 rfl (by kernel_rfl) (by kernel_rfl) (by kernel_rfl) (fun _ _ _ h => h) hE (by exact Jab rfl) rfl ?_; refine Jco 11 rfl (by kernel_rfl) (by kernel_rfl) (by kernel_rfl) (fun _ _ _ h => h) hE (by exact Jab rfl) rfl ?_)
      refine TA_done (by kernel_rfl) ?_
      repeat' (first | apply Jbr | apply Jbu)
      exact TR_of (res2 rfl rfl rfl) ⟨v6, rfl, E2.ext hE, by obtain ⟨A', c', h1, h2, h3⟩ := ho6.rd; exact ⟨A', c', h1, h2, h3.wide (Nat.zero_le _) (Nat.le_refl _) (Nat.le_refl _)⟩⟩
    · refine TL_call rfl en84 (specl03At_c (hh.ext (E2.ext hE)) (by omega)) rfl rfl ?_
      rintro _ w4 ⟨rfl, e4⟩
      rw [hat]
      have hE4 := hE.ext e4
      clear hE
      have hE := hE4
      refine Jbq (TN_any hE ?_)
      (refine Jco 6 rfl (by kernel_rfl) (by kernel_rfl) (by kernel_rfl) (fun _ _ _ h => h) hE (by exact Jar Us.h Sz.h rfl rfl (by omega)) rfl ?_; refine Jco 7 rfl (by kernel_rfl) (by kernel_rfl) (by kernel_rfl) (fun _ _ _ h => h) hE (by (apply Jbl; exact Us.h; exact rfl; exact Sz.h; exact rfl)) rfl ?_; refine Jco 8 rfl (by kernel_rfl) (by kernel_rfl) (by kernel_rfl) (fun _ _ _ h => h) hE (by exact Pu_load Fl.h rfl (fun _ e => Ext.cell e hcv)) rfl ?_)
      refine TA_one 0 (by kernel_rfl) rfl ?_
      refine TL_buildSlice0 Us.h Sz.h rfl ?_
      intro w5 g5 e5 hg5 hz5 hown5
      have hE5 := hE.ext e5
      refine Jbq (TN_any hE5 ?_)
      refine TA_one 9 (by kernel_rfl) rfl ?_
      have hnew : OB w5 w4.heap.size w5.heap.size _ [] := OB_new (s := []) rfl hown5 hg5 hz5
      refine TL_appendB Us.h rfl rfl hnew ⟨_, _, rfl, hcb, hrdb.ext (E2.ext hE5)⟩ e5.size (by simp only [List.length_nil]; omega) rfl ?_
      intro w6 v6 c6 ho6
      have hE6 : Ext w2 w6 := Ext.then_iv hE5 c6 (by have := hE.size; omega)
      refine Jbq (TN_any hE6 ?_)
      clear hE
      have hE := hE6
      (refine Jco 10 rfl (by kernel_rfl) (by kernel_rfl) (by kernel_rfl) (fun _ _ _ h => h) hE (by exact Jab rfl) rfl ?_; refine Jco 11 rfl (by kernel_rfl) (by kernel_rfl) (by kernel_rfl) (fun _ _ _ h => h) hE (by exact Jab rfl) rfl ?_)
      refine TA_done (by kernel_rfl) ?_
      repeat' (first | apply Jbr | apply Jbu)
      exact TR_of (res2 rfl rfl rfl) ⟨v6, rfl, E2.ext hE, by obtain ⟨A', c', h1, h2, h3⟩ := ho6.rd; exact ⟨A', c', h1, h2, h3.wide (Nat.zero_le _) (Nat.le_refl _) (Nat.le_refl _)⟩⟩
set_option maxRecDepth 100000 in
set_option maxHeartbeats 4000000 in
theorem implDiskRead_c {w : World} {lo hi : Nat} {d : DiskP} {sn sk st : Value} {s : List UInt8} (h : RDk w lo hi d sn sk st) (hf : d.fits) (hl : totD d ≤ 1048576) (hs : s.length ≤ 9223372036854775807) :
    Ret Tryz.prog 37 #[.agg (dskC d sn sk st).toArray, S s] w fun v' w' => ∃ v2, v' = .tuple #[v2, .bool (pRead d s).2] ∧ Ext w w' ∧ OB w' w.heap.size w'.heap.size v2 (pRead d s).1 := by
  have hh := h
  obtain ⟨ds, A, c, hm, rfl, hc, hr, hok⟩ := h.1
  have hln : d.nodes.length = ds.length := by rw [← hm, List.length_map]
  have hl1 := (totD_parts hl).1
  have hl0 := totNd_nn d.nodes
  obtain ⟨ft1, ft2⟩ := fits_tk hf
  refine Ret_enter Tryz.func37 rfl rfl rfl ?_
  repeat' (first | apply Jbs | apply Jbt)
  refine TL_box (cs := dskC d (.slice A ds.length c) sk st) rfl rfl ?_
  intro wb g E hg hz hb0
  clear hz
  repeat' (first | apply Jbq | apply Jbr | apply Jbs | apply Jbt | (apply Jcg; exact Jab rfl; exact rfl) | refine Jcg (Pu_loadAgg (cs := dskC d (.slice A ds.length c) sk st) Us.h rfl Sz.h rfl (fun _ e j u hu => by rw [e, add0, hb0.cell]; exact hu)) rfl ?_)
  refine TL_call rfl en65 (implDiskOk_c (hh.ext E) hf hl) rfl rfl ?_
  rintro _ w1 ⟨rfl, e1⟩
  have E1 := E.ext e1
  have hb1 := hb0.ext e1
  cases hp : pDOk d with
  | false =>
    have hno : pRead d s = ([], false) := pRead_no (fun h => by rw [pDOk_yes h.1] at hp; cases hp)
    rw [hno]
    repeat' (first | apply Jbq | apply Jbr | apply Jbs | apply Jbt | apply Jbu | apply Jbv | (refine Jce rfl ?_) | (apply Jcg; (first | exact Jab rfl | exact Jaj rfl); exact rfl))
    exact TR_of (res2 rfl rfl rfl) ⟨.slice none 0 0, rfl, E1, OB.nil _ _ E1.size⟩
  | true =>
    have hD := pDOk_of hp
    have hB := hD.base
    unfold dBase at hB
    repeat' (first | apply Jbq | apply Jbr | apply Jbs | apply Jbt | apply Jbz | (refine Jcf rfl ?_) | (apply Jcg; (first | exact Jaj rfl | (apply Jbl; exact Us.h; exact rfl; exact Sz.h; exact rfl)); exact rfl) | refine Jcg (Pu_load Fl.h rfl (fun _ e => by rw [e]; exact hb1.ld rfl)) rfl ?_)
    refine TL_call rfl en67 (dirOf_c (hh.2.1.ext E1) (hh.2.2.ext E1) (kept_asc ((dok_iff d).1 hD).link) (by omega) (by omega) ft1 ft2) rfl rfl ?_
    rintro _ w2 ⟨e2, hq⟩
    have E2 := E1.ext e2
    have hb2 := hb1.ext e2
    rcases hq with ⟨_, b, kb, rfl, _, _, hM⟩ | ⟨hA, _⟩
    · cases hhas : dHas (pDir d) s with
      | false =>
        have hno : pRead d s = ([], false) := pRead_no (fun h => by rw [h.2] at hhas; cases hhas)
        rw [hno]
        repeat' (first | apply Jbq | apply Jbr | apply Jbs | apply Jbt | apply Jbu | apply Jbv | (refine Jce rfl ?_) | (apply Jcg; (first | exact Jaa rfl | exact Jab rfl | exact Jae rfl rfl | exact Jaj rfl); exact rfl) | refine Jcg (Pu_dirLookB rfl rfl hs hhas (fun w' e => ⟨kb, by rw [e]; exact hM⟩)) rfl ?_)
        exact TR_of (res2 rfl rfl rfl) ⟨.slice none 0 0, rfl, E2, OB.nil _ _ E2.size⟩
      | true =>
        obtain ⟨i, hi, hat, _⟩ := hD.dirAt hhas
        rw [pRead_yes hD hhas, hat]
        simp only
        rw [bodyAt_nat hi]
        obtain ⟨ad, rfl, hcell⟩ := Rd.elem NdC_len (hr.ext E2) (k := i) (by omega)
        have hni : d.nodes[i] = NdP ds[i] := by simp only [← hm, List.getElem_map]
        have hbody : d.nodes[i].2.1 = ds[i].body := by rw [hni]; rfl
        have hrb := (hok _ (List.getElem_mem (show i < ds.length by omega))).1
        have hwk := totNd_mem (List.getElem_mem hi)
        unfold NdW at hwk
        rw [hbody] at hwk ⊢
        have hcv : w2.cell? ((ad.add (i * 3)).add 1) = some (ds[i]'(by omega)).vb := hcell 1 _ rfl
        obtain ⟨x, hx⟩ : ∃ x, x = ds[i]'(by omega) := ⟨_, rfl⟩
        rw [← hx] at hcv hrb hwk ⊢
        obtain ⟨Ab, cb, hvb, hcb, hrdb⟩ := hrb
        rw [hvb] at hcv
        repeat' (first | apply Jbq | apply Jbr | apply Jbs | apply Jbt | apply Jbz | (refine Jcf rfl ?_) | (apply Jcg; (first | exact Jaa rfl | exact Jab rfl | exact Jae rfl rfl | exact Jaj rfl); exact rfl) | refine Jcg (Pu_dirLookB rfl rfl hs hhas (fun w' e => ⟨kb, by rw [e]; exact hM⟩)) rfl ?_)
        refine TC_any mixed rfl ?_
        intro w3 hE hz3
        (refine Jco 0 rfl (by kernel_rfl) (by kernel_rfl) (by kernel_rfl) (fun _ _ _ h => h) hE (by (apply Jbl; exact Us.h; exact rfl; exact Sz.h; exact rfl)) rfl ?_; refine Jco 1 rfl (by kernel_rfl) (by kernel_rfl) (by kernel_rfl) (fun _ _ _ h => h) hE (by exact Pu_load Fl.h rfl (fun _ e => Ext.cell e (hb2.ld rfl))) rfl ?_; refine Jco 2 rfl (by kernel_rfl) (by kernel_rfl) (by kernel_rfl) (fun _ _ _ h => h) hE (by exact Pu_loadAgg (cs := dskC d (.slice (some ad) ds.length c) sk st) Us.h rfl Sz.h rfl (fun _ e j u hu => Ext.cell e (by rw [add0, hb2.cell]; exact hu))) rfl ?_; refine Jco 3 rfl (by kernel_rfl) (by kernel_rfl) (by kernel_rfl) (fun _ _ _ h => h) hE (by exact Jaa rfl) rfl ?_)
        refine TA_one 4 (by kernel_rfl) rfl ?_
        refine TL_call rfl en94 (implnodeAt_c (hh.ext (E2.ext hE)) (by omega)) rfl rfl ?_
        rintro _ w4 ⟨rfl, e4⟩
        first | rw [hat] | rw [show nAt d.nodes (dFind (runT d.kept d.turns) s) = (i : Int) from hat]
        have hE4 := hE.ext e4
        clear hE
        have hE := hE4
        refine Jbq (TN_any hE ?_)
        (refine Jco 5 rfl (by kernel_rfl) (by kernel_rfl) (by kernel_rfl) (fun _ _ _ h => h) hE (by exact Jar Us.h Sz.h rfl rfl (by omega)) rfl ?_; refine Jco 6 rfl (by kernel_rfl) (by kernel_rfl) (by kernel_rfl) (fun _ _ _ h => h) hE (by (apply Jbl; exact Us.h; exact rfl; exact Sz.h; exact rfl)) rfl ?_; refine Jco 7 rfl (by kernel_rfl) (by kernel_rfl) (by kernel_rfl) (fun _ _ _ h => h) hE (by exact Pu_load Fl.h rfl (fun _ e => Ext.cell e hcv)) rfl ?_)
        refine TA_one 8 (by kernel_rfl) rfl ?_
        refine TL_call rfl en71 (copyBytes_c (hrdb.ext (E2.ext hE)) (by omega)) rfl rfl ?_
        rintro _ w5 ⟨A5, c5, rfl, e5, ho5⟩
        have hE5 := hE.ext e5
        clear hE4
        have hE0 := hE
        clear hE
        have hE := hE5
        refine Jbq (TN_any hE ?_)
        (refine Jco 9 rfl (by kernel_rfl) (by kernel_rfl) (by kernel_rfl) (fun _ _ _ h => h) hE (by exact Jab rfl) rfl ?_; refine Jco 10 rfl (by kernel_rfl) (by kernel_rfl) (by kernel_rfl) (fun _ _ _ h => h) hE (by exact Jab rfl) rfl ?_)
        refine TA_done (by kernel_rfl) ?_
        repeat' (first | apply Jbr | apply Jbu)
        exact TR_of (res2 rfl rfl rfl) ⟨_, rfl, E2.ext hE, A5, c5, rfl, ho5.wide (E2.ext hE0).size (Nat.le_refl _) (Nat.le_refl _)⟩
    · exact absurd ((dok_iff d).1 hD).turn hA
end Go.Proofs.YtggaghghclomkaaGreat
