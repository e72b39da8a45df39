/- Contracts: everything is made safe, by the program. -/
import Derived.Test.YtmkmphdfpghjbaaOnlyD
import Derived.Test.YtmkmphdfpghjbaaNoD
namespace Go.Proofs.Ytmkmphdfpghjbaa
open Go.RowKit
/-! ### the plain law -/
def calmP (p : NodeP) : NodeP := (p.1, p.2.1, p.2.1)
def calmD (d : DiskP) : DiskP := { d with nodes := (onlyP d.nodes ((pDir d).map (·.id))).mapIdx (fun _ p => calmP p), kept := pDir d, turns := [] }
open Classical in
noncomputable def pCalm (d : DiskP) : DiskP × Bool := if DOk d then (calmD d, true) else (noDk, false)
open Classical in
theorem pCalm_yes {d : DiskP} (h : DOk d) : pCalm d = (calmD d, true) := by unfold pCalm; exact if_pos h
open Classical in
theorem pCalm_no {d : DiskP} (h : ¬ DOk d) : pCalm d = (noDk, false) := by unfold pCalm; exact if_neg h
theorem DOk.idB {d : DiskP} (h : DOk d) : ∀ i ∈ nIds d.nodes, -9223372036854775808 ≤ i ∧ i ≤ 9223372036854775807 := by
  intro i hi
  obtain ⟨p, hp, rfl⟩ := List.mem_map.1 hi
  obtain ⟨j, hj, rfl⟩ := List.mem_iff_getElem.1 hp
  have h1 := h.node j hj
  have hB := h.base
  unfold dBase at hB
  omega
theorem ONx.open {w : World} {v : Value} {es : List Nd} {k : Nat} (h : ONx w v es) (hk : k < es.length) : ∃ g c lo hi, v = .slice (some ⟨g, 0, none⟩) es.length c ∧ Own w lo hi 86 3 (some ⟨g, 0, none⟩) es.length c (cellsL NdC es) := by
  obtain ⟨⟨lo, hi, ⟨A, c, rfl, ho⟩, _⟩, _, _⟩ := h
  rcases ho.head with rfl | ⟨g, rfl, _, _⟩
  · obtain ⟨ad, h, _⟩ := ho.rd.at_ (by omega); cases h
  · exact ⟨g, c, lo, hi, rfl, ho⟩
theorem OBx.sl {w : World} {v : Value} {s : List UInt8} (h : OBx w v s) : ∃ A c lo hi, v = .slice A s.length c ∧ Own w lo hi 5 1 A s.length c (u8s s) := by
  obtain ⟨lo, hi, ⟨A, c, rfl, ho⟩, _⟩ := h
  exact ⟨A, c, lo, hi, rfl, ho⟩
theorem bkd_in {v : Value} {es : List Nd} {k : Nat} (hk : k < es.length) : ∀ b ∈ bkd es[k], b ∈ bksN v es := fun b hb => List.mem_append.2 (.inr (List.mem_flatMap.2 ⟨_, List.getElem_mem hk, hb⟩))
theorem onlyP_mem {l : List NodeP} {s : List Int} {p : NodeP} (h : p ∈ onlyP l s) : p ∈ l := (List.mem_filter.1 h).1
theorem onlyP_length (l : List NodeP) (s : List Int) : (onlyP l s).length ≤ l.length := List.length_filter_le _ _
theorem totNd_mapIdx : ∀ (l : List NodeP) (f : Nat → NodeP → NodeP), (∀ i p, NdW (f i p) ≤ 2 * NdM p) → totNd (l.mapIdx f) ≤ 2 * pUsed l
  | [], _, _ => by simp [totNd, pUsed]
  | p :: r, f, h => by
    have h1 := totNd_mapIdx r (fun i => f (i + 1)) (fun i p => h (i + 1) p)
    have h2 := h 0 p
    rw [List.mapIdx_cons]
    simp only [totNd, pUsed, List.map_cons, List.sum_cons] at *
    omega
theorem pUsed_only (s : List Int) : ∀ l : List NodeP, pUsed (onlyP l s) ≤ pUsed l
  | [] => Int.le_refl _
  | p :: r => by
    have h := pUsed_only s r
    have h0 : 0 ≤ NdM p := by unfold NdM; omega
    unfold onlyP at *
    rw [List.filter_cons]
    split
    · simp only [pUsed, List.map_cons, List.sum_cons] at *; omega
    · simp only [pUsed, List.map_cons, List.sum_cons] at *; omega
/-- A disk of nodes that were turned, within the room that was. -/
theorem tot_turned {d : DiskP} (h : DOk d) {L : List LkD} (h1 : L.length ≤ 8) (h2 : ∀ x ∈ L, pName x.name = true) {f : Nat → NodeP → NodeP} (hf : ∀ i p, NdW (f i p) ≤ 2 * NdM p) (a b c : Int) :
    totD ⟨a, b, c, (onlyP d.nodes (L.map (·.id))).mapIdx f, L, []⟩ ≤ 1048576 := by
  have hB := h.base
  unfold dBase at hB
  have hu := h.used
  have h3 := totNd_mapIdx (onlyP d.nodes (L.map (·.id))) f hf
  have h4 := pUsed_only (L.map (·.id)) d.nodes
  have h5 := onlyP_length d.nodes (L.map (·.id))
  have h6 := totLk_names h2
  unfold totD
  simp only [List.length_mapIdx, List.length_nil, totTn, List.map_nil, List.sum_nil]
  omega
theorem pCalm_tot {d : DiskP} : totD (pCalm d).1 ≤ 1048576 := by
  by_cases h : DOk d
  · rw [pCalm_yes h]
    have h1 := h.dirLe d.turns.length (Nat.le_refl _)
    have h2 := h.dirName d.turns.length (Nat.le_refl _)
    rw [List.take_length] at h1 h2
    exact tot_turned h h1 h2 (fun _ p => by unfold calmP NdW NdM; simp only; omega) _ _ _
  · rw [pCalm_no h, totD_no]; decide
attribute [local irreducible] TL TC TN TX TR TQ TA Pu Ret
set_option maxRecDepth 100000 in
set_option maxHeartbeats 4000000 in
theorem implDiskCalm_c {w : World} {lo hi : Nat} {d : DiskP} {sn sk st : Value} (h : RDk w lo hi d sn sk st) (hf : d.fits) (hl : totD d ≤ 1048576) :
    Ret Try.prog 50 #[.agg (dskC d sn sk st).toArray] w fun v' w' => ∃ sn' sk' st', v' = .tuple #[.agg (dskC (pCalm d).1 sn' sk' st').toArray, .bool (pCalm d).2] ∧ Ext w w' ∧ ODk w' w.heap.size w'.heap.size (pCalm d).1 sn' sk' st' := by
  have hh := h
  obtain ⟨ft1, ft2⟩ := fits_tk hf
  refine Ret_enter Try.func50 rfl rfl rfl ?_
  repeat' (first | apply Jbq | apply Jbr | apply Jbs | apply Jbt | apply Jbu | apply Jbv | apply Jbw | apply Jbx | apply Jby | apply Jbz | apply Jca | apply Jcb | apply Jcc | (refine Jcd rfl ?_) | (refine Jce rfl ?_) | (refine Jcf rfl ?_) | (apply Jcg; (first | exact Jaa rfl | exact Jab rfl | exact Jac Us.h rfl | exact Jad rfl rfl | exact Jae rfl rfl | exact Jaf rfl rfl (by omega) | exact Jag Us.h Sz.h rfl rfl (by omega) | exact Jaj rfl | exact Jaq Us.h rfl | exact Jar Us.h Sz.h rfl rfl (by omega) | (apply Jbl; exact Us.h; exact rfl; exact Sz.h; exact rfl)); exact rfl) | refine Jch rfl rfl rfl ?_ | refine Jci rfl rfl rfl rfl rfl ?_ | refine Jcj rfl rfl rfl rfl ?_)
  refine TL_box (cs := dskC d sn sk st) rfl rfl ?_
  intro w1 g1 e1 hg1 hz1 hb1
  repeat' (first | apply Jbq | apply Jbr | apply Jbs | apply Jbt | apply Jbu | apply Jbv | apply Jbw | apply Jbx | apply Jby | apply Jbz | apply Jca | apply Jcb | apply Jcc | (refine Jcd rfl ?_) | (refine Jce rfl ?_) | (refine Jcf rfl ?_) | (apply Jcg; (first | exact Jaa rfl | exact Jab rfl | exact Jac Us.h rfl | exact Jad rfl rfl | exact Jae rfl rfl | exact Jaf rfl rfl (by omega) | exact Jag Us.h Sz.h rfl rfl (by omega) | exact Jaj rfl | exact Jaq Us.h rfl | exact Jar Us.h Sz.h rfl rfl (by omega) | (apply Jbl; exact Us.h; exact rfl; exact Sz.h; exact rfl)); exact rfl) | refine Jch rfl rfl rfl ?_ | refine Jci rfl rfl rfl rfl rfl ?_ | refine Jcj rfl rfl rfl rfl ?_)
  refine TL_alloc Zs.h rfl rfl ?_
  intro w2 g2 e2 hg2 hz2 hb2
  replace hb1 := hb1.ext e2
  have E2 : Ext w w2 := e1.ext e2
  repeat' (first | apply Jbq | apply Jbr | apply Jbs | apply Jbt | apply Jbu | apply Jbv | apply Jbw | apply Jbx | apply Jby | apply Jbz | apply Jca | apply Jcb | apply Jcc | (refine Jcd rfl ?_) | (refine Jce rfl ?_) | (refine Jcf rfl ?_) | (apply Jcg; (first | exact Jaa rfl | exact Jab rfl | exact Jac Us.h rfl | exact Jad rfl rfl | exact Jae rfl rfl | exact Jaf rfl rfl (by omega) | exact Jag Us.h Sz.h rfl rfl (by omega) | exact Jaj rfl | exact Jaq Us.h rfl | exact Jar Us.h Sz.h rfl rfl (by omega) | (apply Jbl; exact Us.h; exact rfl; exact Sz.h; exact rfl)); exact rfl) | refine Jch rfl rfl rfl ?_ | refine Jci rfl rfl rfl rfl rfl ?_ | refine Jcj rfl rfl rfl rfl ?_ | refine Jcg (Pu_loadAgg (cs := dskC d sn sk st) Us.h rfl Sz.h rfl (fun _ e j u hu => by rw [e, add0, hb1.cell]; exact hu)) rfl ?_)
  refine TL_call rfl en18 (implDiskOk_c (hh.ext E2) hf hl) rfl rfl ?_
  rintro _ w3 ⟨rfl, e3⟩
  replace hb1 := hb1.ext e3
  replace hb2 := hb2.ext e3
  have hs3 := e3.size
  have E3 := E2.ext e3
  cases hp : pDOk d with
  | false =>
    rw [pCalm_no (fun h => by rw [pDOk_yes h] at hp; cases hp)]
    repeat' (first | apply Jbq | apply Jbr | apply Jbs | apply Jbt | apply Jbu | apply Jbv | apply Jbw | apply Jbx | apply Jby | apply Jbz | apply Jca | apply Jcb | apply Jcc | (refine Jcd rfl ?_) | (refine Jce rfl ?_) | (refine Jcf rfl ?_) | (apply Jcg; (first | exact Jaa rfl | exact Jab rfl | exact Jac Us.h rfl | exact Jad rfl rfl | exact Jae rfl rfl | exact Jaf rfl rfl (by omega) | exact Jag Us.h Sz.h rfl rfl (by omega) | exact Jaj rfl | exact Jaq Us.h rfl | exact Jar Us.h Sz.h rfl rfl (by omega) | (apply Jbl; exact Us.h; exact rfl; exact Sz.h; exact rfl)); exact rfl) | refine Jch rfl rfl rfl ?_ | refine Jci rfl rfl rfl rfl rfl ?_ | refine Jcj rfl rfl rfl rfl ?_ | refine Jcg (Pu_build (cs := dskC noDk (.slice none 0 0) (.slice none 0 0) (.slice none 0 0)) rfl (by kernel_rfl)) rfl ?_)
    refine TL_storeAgg rfl rfl Sz.h rfl hb2 rfl ?_
    intro w8 c8 hz8 hb8
    have E8 : Ext w w8 := Ext.then_iv E3 c8 (by omega)
    repeat' (first | apply Jbq | apply Jbr | apply Jbs | apply Jbt | apply Jbu | apply Jbv | apply Jbw | apply Jbx | apply Jby | apply Jbz | apply Jca | apply Jcb | apply Jcc | (refine Jcd rfl ?_) | (refine Jce rfl ?_) | (refine Jcf rfl ?_) | (apply Jcg; (first | exact Jaa rfl | exact Jab rfl | exact Jac Us.h rfl | exact Jad rfl rfl | exact Jae rfl rfl | exact Jaf rfl rfl (by omega) | exact Jag Us.h Sz.h rfl rfl (by omega) | exact Jaj rfl | exact Jaq Us.h rfl | exact Jar Us.h Sz.h rfl rfl (by omega) | (apply Jbl; exact Us.h; exact rfl; exact Sz.h; exact rfl)); exact rfl) | refine Jch rfl rfl rfl ?_ | refine Jci rfl rfl rfl rfl rfl ?_ | refine Jcj rfl rfl rfl rfl ?_)
    exact TR_of (resA1 rfl rfl rfl hb8 Us.h rfl Sz.h) ⟨_, _, _, rfl, E8, ODk.nil (Nat.le_refl _)⟩
  | true =>
    have hD := pDOk_of hp
    have hB := hD.base
    unfold dBase at hB
    rw [pCalm_yes hD]
    repeat' (first | apply Jbq | apply Jbr | apply Jbs | apply Jbt | apply Jbu | apply Jbv | apply Jbw | apply Jbx | apply Jby | apply Jbz | apply Jca | apply Jcb | apply Jcc | (refine Jcd rfl ?_) | (refine Jce rfl ?_) | (refine Jcf rfl ?_) | (apply Jcg; (first | exact Jaa rfl | exact Jab rfl | exact Jac Us.h rfl | exact Jad rfl rfl | exact Jae rfl rfl | exact Jaf rfl rfl (by omega) | exact Jag Us.h Sz.h rfl rfl (by omega) | exact Jaj rfl | exact Jaq Us.h rfl | exact Jar Us.h Sz.h rfl rfl (by omega) | (apply Jbl; exact Us.h; exact rfl; exact Sz.h; exact rfl)); exact rfl) | refine Jch rfl rfl rfl ?_ | refine Jci rfl rfl rfl rfl rfl ?_ | refine Jcj rfl rfl rfl rfl ?_ | refine Jcg (Pu_loadAgg (cs := dskC d sn sk st) Us.h rfl Sz.h rfl (fun _ e j u hu => by rw [e, add0, hb1.cell]; exact hu)) rfl ?_)
    refine TL_call rfl en84 (implcopyDisk_c (hh.ext E3) hl) rfl rfl ?_
    rintro _ w4 ⟨sn1, sk1, st1, rfl, e4, hx⟩
    replace hb1 := hb1.ext e4
    replace hb2 := hb2.ext e4
    have hs4 := e4.size
    have E4 := E3.ext e4
    have hone := hx.one
    repeat' (first | apply Jbq | apply Jbr | apply Jbs | apply Jbt | apply Jbu | apply Jbv | apply Jbw | apply Jbx | apply Jby | apply Jbz | apply Jca | apply Jcb | apply Jcc | (refine Jcd rfl ?_) | (refine Jce rfl ?_) | (refine Jcf rfl ?_) | (apply Jcg; (first | exact Jaa rfl | exact Jab rfl | exact Jac Us.h rfl | exact Jad rfl rfl | exact Jae rfl rfl | exact Jaf rfl rfl (by omega) | exact Jag Us.h Sz.h rfl rfl (by omega) | exact Jaj rfl | exact Jaq Us.h rfl | exact Jar Us.h Sz.h rfl rfl (by omega) | (apply Jbl; exact Us.h; exact rfl; exact Sz.h; exact rfl)); exact rfl) | refine Jch rfl rfl rfl ?_ | refine Jci rfl rfl rfl rfl rfl ?_ | refine Jcj rfl rfl rfl rfl ?_)
    refine TL_alloc Zs.h rfl rfl ?_
    intro w5 g5 e5 hg5 hz5 hb5
    replace hb1 := hb1.ext e5
    replace hb2 := hb2.ext e5
    replace hx := hx.ext e5
    repeat' (first | apply Jbq | apply Jbr | apply Jbs | apply Jbt | apply Jbu | apply Jbv | apply Jbw | apply Jbx | apply Jby | apply Jbz | apply Jca | apply Jcb | apply Jcc | (refine Jcd rfl ?_) | (refine Jce rfl ?_) | (refine Jcf rfl ?_) | (apply Jcg; (first | exact Jaa rfl | exact Jab rfl | exact Jac Us.h rfl | exact Jad rfl rfl | exact Jae rfl rfl | exact Jaf rfl rfl (by omega) | exact Jag Us.h Sz.h rfl rfl (by omega) | exact Jaj rfl | exact Jaq Us.h rfl | exact Jar Us.h Sz.h rfl rfl (by omega) | (apply Jbl; exact Us.h; exact rfl; exact Sz.h; exact rfl)); exact rfl) | refine Jch rfl rfl rfl ?_ | refine Jci rfl rfl rfl rfl rfl ?_ | refine Jcj rfl rfl rfl rfl ?_)
    refine TL_storeAgg rfl rfl Sz.h hone hb5 rfl ?_
    clear hb5
    intro w6 c6 hz6 hb5
    replace hb1 := hb1.ch c6 (by simp only [Iv]; omega)
    replace hb2 := hb2.ch c6 (by simp only [Iv]; omega)
    replace hx := hx.ch c6 (by intro k _ _; simp only [Iv]; omega)
    have E6 : Ext w w6 := Ext.then_iv (E4.ext e5) c6 (by have := E4.size; omega)
    repeat' (first | apply Jbq | apply Jbr | apply Jbs | apply Jbt | apply Jbu | apply Jbv | apply Jbw | apply Jbx | apply Jby | apply Jbz | apply Jca | apply Jcb | apply Jcc | (refine Jcd rfl ?_) | (refine Jce rfl ?_) | (refine Jcf rfl ?_) | (apply Jcg; (first | exact Jaa rfl | exact Jab rfl | exact Jac Us.h rfl | exact Jad rfl rfl | exact Jae rfl rfl | exact Jaf rfl rfl (by omega) | exact Jag Us.h Sz.h rfl rfl (by omega) | exact Jaj rfl | exact Jaq Us.h rfl | exact Jar Us.h Sz.h rfl rfl (by omega) | (apply Jbl; exact Us.h; exact rfl; exact Sz.h; exact rfl)); exact rfl) | refine Jch rfl rfl rfl ?_ | refine Jci rfl rfl rfl rfl rfl ?_ | refine Jcj rfl rfl rfl rfl ?_ | refine Jcg (Pu_load Fl.h rfl (fun _ e => by rw [e]; exact hb1.ld rfl)) rfl ?_)
    refine TL_call rfl en73 (dirOf_c (hh.2.1.ext E6) (hh.2.2.ext E6) (kept_asc ((dok_iff d).1 hD).link) (by omega) (by omega) ft1 ft2) rfl rfl ?_
    rintro _ w7 ⟨e7, hq⟩
    rcases hq with ⟨_, b, kb, rfl, _, _, hM⟩ | ⟨hA, _⟩
    case inr => exact absurd ((dok_iff d).1 hD).turn hA
    have hs7 := e7.size
    have E7 := E6.ext e7
    have hb57 := hb5.ext e7
    have hdir := hD.dirLe d.turns.length (Nat.le_refl _)
    have hids := hD.dirIds d.turns.length (Nat.le_refl _)
    have hasc := hD.asc d.turns.length (Nat.le_refl _)
    rw [List.take_length, show runT d.kept d.turns = pDir d from rfl] at hdir hids hasc
    rw [show runT d.kept d.turns = pDir d from rfl] at hM
    repeat' (first | apply Jbq | apply Jbr | apply Jbs | apply Jbt | apply Jbu | apply Jbv | apply Jbw | apply Jbx | apply Jby | apply Jbz | apply Jca | apply Jcb | apply Jcc | (refine Jcd rfl ?_) | (refine Jce rfl ?_) | (refine Jcf rfl ?_) | (apply Jcg; (first | exact Jaa rfl | exact Jab rfl | exact Jac Us.h rfl | exact Jad rfl rfl | exact Jae rfl rfl | exact Jaf rfl rfl (by omega) | exact Jag Us.h Sz.h rfl rfl (by omega) | exact Jaj rfl | exact Jaq Us.h rfl | exact Jar Us.h Sz.h rfl rfl (by omega) | (apply Jbl; exact Us.h; exact rfl; exact Sz.h; exact rfl)); exact rfl) | refine Jch rfl rfl rfl ?_ | refine Jci rfl rfl rfl rfl rfl ?_ | refine Jcj rfl rfl rfl rfl ?_)
    refine TL_call rfl en105 (links_c hM hasc (by omega)) rfl rfl ?_
    rintro vk w8 ⟨e8, hok⟩
    have hs8 := e8.size
    have E8 := E7.ext e8
    have hb58 := hb57.ext e8
    have hx8 := hx.ext (e7.ext e8)
    obtain ⟨_, ds, hmap, hN, hrk, hrt, hnd, hin⟩ := hx8
    have hinN : ∀ b ∈ bksN sn1 ds, w3.heap.size ≤ b ∧ b < w4.heap.size := fun b hb => hin b (List.mem_append.2 (.inl hb))
    obtain ⟨A1, c1, rfl, hc1, hr1⟩ := hN.row.rr (fun b hb => hinN b (List.mem_append.2 (.inl hb))) (by omega)
    have hdl : ds.length = d.nodes.length := by rw [← hmap, List.length_map]
    repeat' (first | apply Jbq | apply Jbr | apply Jbs | apply Jbt | apply Jbu | apply Jbv | apply Jbw | apply Jbx | apply Jby | apply Jbz | apply Jca | apply Jcb | apply Jcc | (refine Jcd rfl ?_) | (refine Jce rfl ?_) | (refine Jcf rfl ?_) | (apply Jcg; (first | exact Jaa rfl | exact Jab rfl | exact Jac Us.h rfl | exact Jad rfl rfl | exact Jae rfl rfl | exact Jaf rfl rfl (by omega) | exact Jag Us.h Sz.h rfl rfl (by omega) | exact Jaj rfl | exact Jaq Us.h rfl | exact Jar Us.h Sz.h rfl rfl (by omega) | (apply Jbl; exact Us.h; exact rfl; exact Sz.h; exact rfl)); exact rfl) | refine Jch rfl rfl rfl ?_ | refine Jci rfl rfl rfl rfl rfl ?_ | refine Jcj rfl rfl rfl rfl ?_)
    refine TL_call rfl en104 (only_c hb58 hr1 (fun x hx => by obtain ⟨h1, h2⟩ := hN.ok x hx; obtain ⟨A, c, _, _, h3, _⟩ := h1.sl; obtain ⟨A', c', _, _, h4, _⟩ := h2.sl; exact ⟨⟨A, _, c, h3⟩, ⟨A', _, c', h4⟩⟩) hok.rd (by omega) (by omega) (fun x hx => hD.idB _ (hids x hx))
      (fun x hx => hD.idB _ (by rw [← hmap]; unfold nIds; rw [List.map_map]; exact List.mem_map.2 ⟨x, hx, rfl⟩))) rfl rfl ?_
    rintro _ w9 ⟨rfl, c9, vn, hb9, hon⟩
    have hs9 := c9.size
    have hokb := hok.bin
    have hN9 : ONx w9 vn (only ds ((pDir d).map (·.id))) := hN.keep hon c9 (fun b hb => by have := hinN b hb; simp only [Iv]; omega) (fun b hb => by have := hinN b hb; omega)
    have hbk9 : ∀ b ∈ bksN vn (only ds ((pDir d).map (·.id))), w3.heap.size ≤ b ∧ b < w9.heap.size ∧ (b < w7.heap.size ∨ w8.heap.size ≤ b) ∧ b ≠ g5 := fun b hb => by
      have h1 := bks_keep hon hinN b hb
      exact ⟨by omega, by omega, by omega, by omega⟩
    replace hok := hok.ch c9 (by intro k _ _; simp only [Iv]; omega)
    have E9 : Ext w w9 := Ext.then_iv E8 c9 (by have := E4.size; omega)
    replace hb2 := ((hb2.ext e7).ext e8).ch c9 (by simp only [Iv]; omega)
    obtain ⟨l, hlq⟩ : ∃ l, l = onlyP d.nodes ((pDir d).map (·.id)) := ⟨_, rfl⟩
    have hmap9 : (only ds ((pDir d).map (·.id))).map NdP = l := by rw [only_map, hmap, hlq]
    obtain ⟨es0, hes0⟩ : ∃ es0, es0 = only ds ((pDir d).map (·.id)) := ⟨_, rfl⟩
    rw [← hes0] at hmap9 hN9 hbk9 hon
    have hl8 : l.length ≤ 8 := by rw [hlq]; have := onlyP_length d.nodes ((pDir d).map (·.id)); omega
    have hlen0 : es0.length = l.length := by rw [← hmap9, List.length_map]
    obtain ⟨An, cn, rfl, hown⟩ := hon
    clear hown hr1 hrk hrt hN hmap hnd hin hM hb1
    repeat' (first | apply Jbq | apply Jbr | apply Jbs | apply Jbt | apply Jbu | apply Jbv | apply Jbw | apply Jbx | apply Jby | apply Jbz | apply Jca | apply Jcb | apply Jcc | (refine Jcd rfl ?_) | (refine Jce rfl ?_) | (refine Jcf rfl ?_) | (apply Jcg; (first | exact Jaa rfl | exact Jab rfl | exact Jac Us.h rfl | exact Jad rfl rfl | exact Jae rfl rfl | exact Jaf rfl rfl (by omega) | exact Jag Us.h Sz.h rfl rfl (by omega) | exact Jaj rfl | exact Jaq Us.h rfl | exact Jar Us.h Sz.h rfl rfl (by omega) | (apply Jbl; exact Us.h; exact rfl; exact Sz.h; exact rfl)); exact rfl) | refine Jch rfl rfl rfl ?_ | refine Jci rfl rfl rfl rfl rfl ?_ | refine Jcj rfl rfl rfl rfl ?_ | refine Jcg (Pu_load Fl.h rfl (fun _ e => by rw [e]; exact hb9.ld rfl)) rfl ?_)
    refine TC_loop (ι := Nat) (fun k => [(2, .pointer (some ⟨g2, 0, none⟩)), (4, .pointer (some ⟨g5, 0, none⟩)), (27, I es0.length), (28, I k)])
      (fun k w' => k ≤ l.length ∧ Ext w w' ∧ w9.heap.size ≤ w'.heap.size ∧ Blk w' g5 33 (dskC d (.slice An es0.length cn) vk (.slice none 0 0)) ∧ RowO LkC 78 2 w' w7.heap.size w8.heap.size vk (pDir d) ∧ Blk w' g2 33 (dskC noDk (.slice none 0 0) (.slice none 0 0) (.slice none 0 0)) ∧
        ∃ es, es.map NdP = (l.take k).mapIdx (fun _ p => calmP p) ++ l.drop k ∧ ONx w' (.slice An es0.length cn) es ∧ ∀ b ∈ bksN (.slice An es0.length cn) es, w3.heap.size ≤ b ∧ b < w'.heap.size ∧ (b < w7.heap.size ∨ w8.heap.size ≤ b) ∧ b ≠ g5) (fun k => l.length - k) 0
      (subEnv_cons rfl (subEnv_cons rfl (subEnv_cons rfl (subEnv_cons rfl (subEnv_nil _))))) ⟨Nat.zero_le _, E9, Nat.le_refl _, hb9, hok, hb2, es0, by rw [hmap9]; simp, hN9, hbk9⟩ ?_
    rintro k w10 ⟨hk10, E10, hs10, hb510, hok10, hb210, es, hes, hN10, hbk10⟩
    repeat' (first | apply Jbq | apply Jbr | apply Jbs | apply Jbt | apply Jbu | apply Jbv | apply Jbw | apply Jbx | apply Jby | apply Jbz | apply Jca | apply Jcb | apply Jcc | (refine Jcd rfl ?_) | (refine Jce rfl ?_) | (refine Jcf rfl ?_) | (apply Jcg; (first | exact Jaa rfl | exact Jab rfl | exact Jac Us.h rfl | exact Jad rfl rfl | exact Jae rfl rfl | exact Jaf rfl rfl (by omega) | exact Jag Us.h Sz.h rfl rfl (by omega) | exact Jaj rfl | exact Jaq Us.h rfl | exact Jar Us.h Sz.h rfl rfl (by omega) | (apply Jbl; exact Us.h; exact rfl; exact Sz.h; exact rfl)); exact rfl) | refine Jch rfl rfl rfl ?_ | refine Jci rfl rfl rfl rfl rfl ?_ | refine Jcj rfl rfl rfl rfl ?_)
    refine Jcx rfl (fun hlt0 => ?_) (fun hge => ?_)
    · have hlt : k < l.length := by omega
      have hel : es.length = l.length := by
        have := congrArg List.length hes
        rw [List.length_map, List.length_append, List.length_mapIdx, List.length_take, List.length_drop] at this
        omega
      have hke : k < es.length := by omega
      obtain ⟨gN, cN, loN, hiN, hvN, hownN⟩ := hN10.open hke
      injection hvN with hv1 hv2 hv3
      subst hv1 hv3
      have hgN := hbk10 gN (List.mem_append.2 (.inl (List.mem_singleton.2 rfl)))
      obtain ⟨x, hx⟩ : ∃ x, x = es[k] := ⟨_, rfl⟩
      have hok2 := hN10.ok es[k] (List.getElem_mem hke)
      have hbx := bkd_in (v := .slice (some ⟨gN, 0, none⟩) es0.length cn) hke
      rw [← hx] at hok2 hbx
      have hxl : NdP x = l[k] := by
        have h1 := upd_get (fun _ p => calmP p) l k hlt
        rw [← hes, List.getElem?_map, List.getElem?_eq_getElem hke, ← hx] at h1
        injection h1
      obtain ⟨id, body, safe, vb, vs⟩ := x
      obtain ⟨hokB, hokS⟩ := hok2
      simp only at hokB hokS
      obtain ⟨Ab, cb, lob, hib, rfl, hownB⟩ := hokB.sl
      have hbl : body.length ≤ 1048576 := by
        have h1 : (id, body, safe) ∈ d.nodes := by
          have h2 : l[k] ∈ l := List.getElem_mem hlt
          rw [← hxl, hlq] at h2
          exact onlyP_mem h2
        have h3 := totNd_mem h1
        have h4 := (totD_parts hl).1
        unfold NdW at h3
        simp only at h3
        omega
      have hcb : w10.cell? ((⟨gN, 0, none⟩ : Addr).add (k * 3) |>.add 1) = some (.slice Ab body.length cb) := by
        rw [add_lit3, hownN.row.cellAt (k * 3 + 1) (by omega), cellsL_at NdC_len es k 1 hke (by omega), ← hx]; rfl
      repeat' (first | apply Jbq | apply Jbr | apply Jbs | apply Jbt | apply Jbu | apply Jbv | apply Jbw | apply Jbx | apply Jby | apply Jbz | apply Jca | apply Jcb | apply Jcc | (refine Jcd rfl ?_) | (refine Jce rfl ?_) | (refine Jcf rfl ?_) | (apply Jcg; (first | exact Jaa rfl | exact Jab rfl | exact Jac Us.h rfl | exact Jad rfl rfl | exact Jae rfl rfl | exact Jaf rfl rfl (by omega) | exact Jag Us.h Sz.h rfl rfl (by omega) | exact Jaj rfl | exact Jaq Us.h rfl | exact Jar Us.h Sz.h rfl rfl (by omega) | (apply Jbl; exact Us.h; exact rfl; exact Sz.h; exact rfl)); exact rfl) | refine Jch rfl rfl rfl ?_ | refine Jci rfl rfl rfl rfl rfl ?_ | refine Jcj rfl rfl rfl rfl ?_)
      refine TC_anyS (fun w' => Ch (Iv gN (gN + 1)) w10 w' ∧ w'.cell? ((⟨gN, 0, none⟩ : Addr).add (k * 3) |>.add 1) = some (.slice Ab body.length cb)) mixed rfl ⟨(Ch.refl _ _).drew, hcb⟩ ?_
      intro w11 e11 hz11 hE
      (refine Jco 0 rfl (by kernel_rfl) (by kernel_rfl) (by kernel_rfl) (fun _ _ _ h => h) hE (by (first | exact Pu_load Fl.h rfl (fun _ e => e.1.cell (hb510.ld rfl) (by rw [block_of_add]; simp only [Iv]; omega)) | exact Pu_load Fl.h rfl (fun _ e => e.2) | (first | exact Jaa rfl | exact Jab rfl | exact Jac Us.h rfl | exact Jad rfl rfl | exact Jae rfl rfl | exact Jaf rfl rfl (by omega) | exact Jag Us.h Sz.h rfl rfl (by omega) | exact Jaj rfl | exact Jaq Us.h rfl | exact Jar Us.h Sz.h rfl rfl (by omega) | (apply Jbl; exact Us.h; exact rfl; exact Sz.h; exact rfl)))) rfl ?_; refine Jco 1 rfl (by kernel_rfl) (by kernel_rfl) (by kernel_rfl) (fun _ _ _ h => h) hE (by (first | exact Pu_load Fl.h rfl (fun _ e => e.1.cell (hb510.ld rfl) (by rw [block_of_add]; simp only [Iv]; omega)) | exact Pu_load Fl.h rfl (fun _ e => e.2) | (first | exact Jaa rfl | exact Jab rfl | exact Jac Us.h rfl | exact Jad rfl rfl | exact Jae rfl rfl | exact Jaf rfl rfl (by omega) | exact Jag Us.h Sz.h rfl rfl (by omega) | exact Jaj rfl | exact Jaq Us.h rfl | exact Jar Us.h Sz.h rfl rfl (by omega) | (apply Jbl; exact Us.h; exact rfl; exact Sz.h; exact rfl)))) rfl ?_; refine Jco 2 rfl (by kernel_rfl) (by kernel_rfl) (by kernel_rfl) (fun _ _ _ h => h) hE (by (first | exact Pu_load Fl.h rfl (fun _ e => e.1.cell (hb510.ld rfl) (by rw [block_of_add]; simp only [Iv]; omega)) | exact Pu_load Fl.h rfl (fun _ e => e.2) | (first | exact Jaa rfl | exact Jab rfl | exact Jac Us.h rfl | exact Jad rfl rfl | exact Jae rfl rfl | exact Jaf rfl rfl (by omega) | exact Jag Us.h Sz.h rfl rfl (by omega) | exact Jaj rfl | exact Jaq Us.h rfl | exact Jar Us.h Sz.h rfl rfl (by omega) | (apply Jbl; exact Us.h; exact rfl; exact Sz.h; exact rfl)))) rfl ?_; refine Jco 3 rfl (by kernel_rfl) (by kernel_rfl) (by kernel_rfl) (fun _ _ _ h => h) hE (by (first | exact Pu_load Fl.h rfl (fun _ e => e.1.cell (hb510.ld rfl) (by rw [block_of_add]; simp only [Iv]; omega)) | exact Pu_load Fl.h rfl (fun _ e => e.2) | (first | exact Jaa rfl | exact Jab rfl | exact Jac Us.h rfl | exact Jad rfl rfl | exact Jae rfl rfl | exact Jaf rfl rfl (by omega) | exact Jag Us.h Sz.h rfl rfl (by omega) | exact Jaj rfl | exact Jaq Us.h rfl | exact Jar Us.h Sz.h rfl rfl (by omega) | (apply Jbl; exact Us.h; exact rfl; exact Sz.h; exact rfl)))) rfl ?_; refine Jco 4 rfl (by kernel_rfl) (by kernel_rfl) (by kernel_rfl) (fun _ _ _ h => h) hE (by (first | exact Pu_load Fl.h rfl (fun _ e => e.1.cell (hb510.ld rfl) (by rw [block_of_add]; simp only [Iv]; omega)) | exact Pu_load Fl.h rfl (fun _ e => e.2) | (first | exact Jaa rfl | exact Jab rfl | exact Jac Us.h rfl | exact Jad rfl rfl | exact Jae rfl rfl | exact Jaf rfl rfl (by omega) | exact Jag Us.h Sz.h rfl rfl (by omega) | exact Jaj rfl | exact Jaq Us.h rfl | exact Jar Us.h Sz.h rfl rfl (by omega) | (apply Jbl; exact Us.h; exact rfl; exact Sz.h; exact rfl)))) rfl ?_; refine Jco 5 rfl (by kernel_rfl) (by kernel_rfl) (by kernel_rfl) (fun _ _ _ h => h) hE (by (first | exact Pu_load Fl.h rfl (fun _ e => e.1.cell (hb510.ld rfl) (by rw [block_of_add]; simp only [Iv]; omega)) | exact Pu_load Fl.h rfl (fun _ e => e.2) | (first | exact Jaa rfl | exact Jab rfl | exact Jac Us.h rfl | exact Jad rfl rfl | exact Jae rfl rfl | exact Jaf rfl rfl (by omega) | exact Jag Us.h Sz.h rfl rfl (by omega) | exact Jaj rfl | exact Jaq Us.h rfl | exact Jar Us.h Sz.h rfl rfl (by omega) | (apply Jbl; exact Us.h; exact rfl; exact Sz.h; exact rfl)))) rfl ?_; refine Jco 6 rfl (by kernel_rfl) (by kernel_rfl) (by kernel_rfl) (fun _ _ _ h => h) hE (by (first | exact Pu_load Fl.h rfl (fun _ e => e.1.cell (hb510.ld rfl) (by rw [block_of_add]; simp only [Iv]; omega)) | exact Pu_load Fl.h rfl (fun _ e => e.2) | (first | exact Jaa rfl | exact Jab rfl | exact Jac Us.h rfl | exact Jad rfl rfl | exact Jae rfl rfl | exact Jaf rfl rfl (by omega) | exact Jag Us.h Sz.h rfl rfl (by omega) | exact Jaj rfl | exact Jaq Us.h rfl | exact Jar Us.h Sz.h rfl rfl (by omega) | (apply Jbl; exact Us.h; exact rfl; exact Sz.h; exact rfl)))) rfl ?_; refine Jco 7 rfl (by kernel_rfl) (by kernel_rfl) (by kernel_rfl) (fun _ _ _ h => h) hE (by (first | exact Pu_load Fl.h rfl (fun _ e => e.1.cell (hb510.ld rfl) (by rw [block_of_add]; simp only [Iv]; omega)) | exact Pu_load Fl.h rfl (fun _ e => e.2) | (first | exact Jaa rfl | exact Jab rfl | exact Jac Us.h rfl | exact Jad rfl rfl | exact Jae rfl rfl | exact Jaf rfl rfl (by omega) | exact Jag Us.h Sz.h rfl rfl (by omega) | exact Jaj rfl | exact Jaq Us.h rfl | exact Jar Us.h Sz.h rfl rfl (by omega) | (apply Jbl; exact Us.h; exact rfl; exact Sz.h; exact rfl)))) rfl ?_; refine Jco 8 rfl (by kernel_rfl) (by kernel_rfl) (by kernel_rfl) (fun _ _ _ h => h) hE (by (first | exact Pu_load Fl.h rfl (fun _ e => e.1.cell (hb510.ld rfl) (by rw [block_of_add]; simp only [Iv]; omega)) | exact Pu_load Fl.h rfl (fun _ e => e.2) | (first | exact Jaa rfl | exact Jab rfl | exact Jac Us.h rfl | exact Jad rfl rfl | exact Jae rfl rfl | exact Jaf rfl rfl (by omega) | exact Jag Us.h Sz.h rfl rfl (by omega) | exact Jaj rfl | exact Jaq Us.h rfl | exact Jar Us.h Sz.h rfl rfl (by omega) | (apply Jbl; exact Us.h; exact rfl; exact Sz.h; exact rfl)))) rfl ?_)
      refine TA_one 9 (by kernel_rfl) rfl ?_
      refine TL_call rfl en79 (copyBytes_c (hownB.ext e11).rd (by omega)) rfl rfl ?_
      rintro _ w12 ⟨A2, c2, rfl, e12, ho2⟩
      have hE12 := hE.1.ext e12
      have hc12 := e12.cell hE.2
      clear hE
      have hE : Ch (Iv gN (gN + 1)) w10 w12 ∧ w12.cell? ((⟨gN, 0, none⟩ : Addr).add (k * 3) |>.add 1) = some (.slice Ab body.length cb) := ⟨hE12, hc12⟩
      refine Jbq (TN_any hE ?_)
      (refine Jco 10 rfl (by kernel_rfl) (by kernel_rfl) (by kernel_rfl) (fun _ _ _ h => h) hE (by (first | exact Jaa rfl | exact Jab rfl | exact Jac Us.h rfl | exact Jad rfl rfl | exact Jae rfl rfl | exact Jaf rfl rfl (by omega) | exact Jag Us.h Sz.h rfl rfl (by omega) | exact Jaj rfl | exact Jaq Us.h rfl | exact Jar Us.h Sz.h rfl rfl (by omega) | (apply Jbl; exact Us.h; exact rfl; exact Sz.h; exact rfl))) rfl ?_; refine Jco 11 rfl (by kernel_rfl) (by kernel_rfl) (by kernel_rfl) (fun _ _ _ h => h) hE (by (first | exact Jaa rfl | exact Jab rfl | exact Jac Us.h rfl | exact Jad rfl rfl | exact Jae rfl rfl | exact Jaf rfl rfl (by omega) | exact Jag Us.h Sz.h rfl rfl (by omega) | exact Jaj rfl | exact Jaq Us.h rfl | exact Jar Us.h Sz.h rfl rfl (by omega) | (apply Jbl; exact Us.h; exact rfl; exact Sz.h; exact rfl))) rfl ?_)
      refine TA_one 12 (by kernel_rfl) rfl ?_
      have e1012 := e11.ext e12
      refine TL_storeOwn rfl (add_lit3 gN (k * 3) 2) rfl Sz.h rfl (hownN.ext e1012) (by omega) ?_
      intro w13 c13 hz13 hown13
      have hs11 := e11.size
      have hs12 := e12.size
      have hx' : es[k] = ⟨id, body, safe, .slice Ab body.length cb, vs⟩ := hx.symm
      rw [cells_safe (s := body) hke hx'] at hown13
      have hlset : (es.set k ⟨id, body, body, .slice Ab body.length cb, .slice A2 body.length c2⟩).length = es0.length := by rw [List.length_set]; omega
      have hc13 : w13.cell? ((⟨gN, 0, none⟩ : Addr).add (k * 3) |>.add 1) = some (.slice Ab body.length cb) := by
        rw [add_lit3, hown13.row.cellAt (k * 3 + 1) (by omega), cellsL_at NdC_len _ k 1 (by rw [List.length_set]; omega) (by omega), List.getElem_set_self]; rfl
      refine Jbq (TN_any ⟨hE12.then c13, hc13⟩ ?_)
      refine TA_done (by kernel_rfl) ?_
      have hN13 := ONx.set (x' := ⟨id, body, body, .slice Ab body.length cb, .slice A2 body.length c2⟩) hke (hN10.ext e1012) c13 ⟨_, _, by rw [hlset], by rw [hlset, ← hel.trans hlen0.symm]; exact hown13⟩ ⟨hokB.ext e1012, OB.x ⟨A2, c2, rfl, ho2⟩⟩
        (by
          show (blk _ ++ blk _).Nodup
          rw [List.nodup_append]
          exact ⟨blk_nodup _, blk_nodup _, fun a ha b hb e => by
            have h1 := hbk10 a (hbx a (List.mem_append.2 (.inl ha)))
            have h2 := (OB.bin (v := .slice A2 body.length c2) ⟨A2, c2, rfl, ho2⟩) b hb
            omega⟩)
        (fun b hb => by
          rcases List.mem_append.1 hb with hb | hb
          · left; rw [hx']; exact List.mem_append.2 (.inl hb)
          · right; intro h; have h1 := hbk10 b h; have h2 := (OB.bin (v := .slice A2 body.length c2) ⟨A2, c2, rfl, ho2⟩) b hb; omega)
      have hbk13 := bks_set (R := fun b => w3.heap.size ≤ b ∧ b < w13.heap.size ∧ (b < w7.heap.size ∨ w8.heap.size ≤ b) ∧ b ≠ g5) (v := .slice (some ⟨gN, 0, none⟩) es0.length cn) (es := es) (k := k) (x' := ⟨id, body, body, .slice Ab body.length cb, .slice A2 body.length c2⟩) (fun b hb => by have := hbk10 b hb; exact ⟨this.1, by omega, this.2.2⟩)
        (fun b hb => by
          rcases List.mem_append.1 hb with hb | hb
          · have := hbk10 b (hbx b (List.mem_append.2 (.inl hb))); exact ⟨this.1, by omega, this.2.2⟩
          · have h2 := (OB.bin (v := .slice A2 body.length c2) ⟨A2, c2, rfl, ho2⟩) b hb
            exact ⟨by omega, by omega, by omega, by omega⟩)
      have hb513 := (hb510.ext e1012).ch c13 (by simp only [Iv]; omega)
      have hb213 := (hb210.ext e1012).ch c13 (by simp only [Iv]; omega)
      have hok13 := (hok10.ext e1012).ch c13 (by intro j h1 h2; simp only [Iv]; omega)
      repeat' (first | apply Jbq | apply Jbr | apply Jbs | apply Jbt | apply Jbu | apply Jbv | apply Jbw | apply Jbx | apply Jby | apply Jbz | apply Jca | apply Jcb | apply Jcc | (refine Jcd rfl ?_) | (refine Jce rfl ?_) | (refine Jcf rfl ?_) | (apply Jcg; (first | exact Jaa rfl | exact Jab rfl | exact Jac Us.h rfl | exact Jad rfl rfl | exact Jae rfl rfl | exact Jaf rfl rfl (by omega) | exact Jag Us.h Sz.h rfl rfl (by omega) | exact Jaj rfl | exact Jaq Us.h rfl | exact Jar Us.h Sz.h rfl rfl (by omega) | (apply Jbl; exact Us.h; exact rfl; exact Sz.h; exact rfl)); exact rfl) | refine Jch rfl rfl rfl ?_ | refine Jci rfl rfl rfl rfl rfl ?_ | refine Jcj rfl rfl rfl rfl ?_)
      exact TN_round (k + 1) (subEnv_cons rfl (subEnv_cons rfl (subEnv_cons rfl (subEnv_cons rfl (subEnv_nil _))))) ⟨hlt, Ext.then_iv (E10.ext e1012) c13 (by omega), by omega, hb513, hok13, hb213, es.set k ⟨id, body, body, .slice Ab body.length cb, .slice A2 body.length c2⟩, by rw [← upd_step _ _ _ hlt, ← hes, List.map_set, ← hxl]; rfl, hN13, hbk13⟩ (by omega)
    · obtain rfl : k = l.length := by omega
      rw [upd_all, hlq] at hes
      repeat' (first | apply Jbq | apply Jbr | apply Jbs | apply Jbt | apply Jbu | apply Jbv | apply Jbw | apply Jbx | apply Jby | apply Jbz | apply Jca | apply Jcb | apply Jcc | (refine Jcd rfl ?_) | (refine Jce rfl ?_) | (refine Jcf rfl ?_) | (apply Jcg; (first | exact Jaa rfl | exact Jab rfl | exact Jac Us.h rfl | exact Jad rfl rfl | exact Jae rfl rfl | exact Jaf rfl rfl (by omega) | exact Jag Us.h Sz.h rfl rfl (by omega) | exact Jaj rfl | exact Jaq Us.h rfl | exact Jar Us.h Sz.h rfl rfl (by omega) | (apply Jbl; exact Us.h; exact rfl; exact Sz.h; exact rfl)); exact rfl) | refine Jch rfl rfl rfl ?_ | refine Jci rfl rfl rfl rfl rfl ?_ | refine Jcj rfl rfl rfl rfl ?_ | refine Jcg (Pu_loadAgg (cs := dskC d (.slice An es0.length cn) vk (.slice none 0 0)) Us.h rfl Sz.h rfl (fun _ e j u hu => by rw [e, add0, hb510.cell]; exact hu)) rfl ?_)
      refine TL_storeAgg rfl rfl Sz.h (by show ((dskC d (.slice An es0.length cn) vk (.slice none 0 0)).all (·.oneCell')) = true; simp only [dskC, List.all_cons, List.all_nil, hok10.rd.one]; rfl) hb210 rfl ?_
      intro w11 c11 hz11 hb11
      repeat' (first | apply Jbq | apply Jbr | apply Jbs | apply Jbt | apply Jbu | apply Jbv | apply Jbw | apply Jbx | apply Jby | apply Jbz | apply Jca | apply Jcb | apply Jcc | (refine Jcd rfl ?_) | (refine Jce rfl ?_) | (refine Jcf rfl ?_) | (apply Jcg; (first | exact Jaa rfl | exact Jab rfl | exact Jac Us.h rfl | exact Jad rfl rfl | exact Jae rfl rfl | exact Jaf rfl rfl (by omega) | exact Jag Us.h Sz.h rfl rfl (by omega) | exact Jaj rfl | exact Jaq Us.h rfl | exact Jar Us.h Sz.h rfl rfl (by omega) | (apply Jbl; exact Us.h; exact rfl; exact Sz.h; exact rfl)); exact rfl) | refine Jch rfl rfl rfl ?_ | refine Jci rfl rfl rfl rfl rfl ?_ | refine Jcj rfl rfl rfl rfl ?_)
      exact TR_of (resA1 rfl rfl rfl hb11 Us.h rfl Sz.h) ⟨.slice An es0.length cn, vk, .slice none 0 0, rfl, Ext.then_iv E10 c11 (by omega), ODk.mk2 (d := calmD d) (Nat.le_refl _) hes (hN10.ch c11 (fun b hb => by have := hbk10 b hb; simp only [Iv]; omega)) (hok10.ch c11 (by intro j _ _; simp only [Iv]; omega)) rfl (fun b hb => by have := hbk10 b hb; exact ⟨by omega, by omega, fun h => by have := hokb b h; omega⟩) (by omega) (by omega)⟩
theorem pIds_flat (d : DiskP) (L : List LkD) : pIds { d with kept := L, turns := [] } = L.map (·.id) := by simp [pIds]
set_option maxRecDepth 100000 in
set_option maxHeartbeats 4000000 in
theorem specDiskCalm_c {w : World} {lo hi : Nat} {d : DiskP} {sn sk st : Value} (h : RDk w lo hi d sn sk st) (hf : d.fits) (hl : totD d ≤ 1048576) :
    Ret Try.prog 57 #[.agg (dskC d sn sk st).toArray] w fun v' w' => ∃ sn' sk' st', v' = .tuple #[.agg (dskC (pCalm d).1 sn' sk' st').toArray, .bool (pCalm d).2] ∧ Ext w w' ∧ ODk w' w.heap.size w'.heap.size (pCalm d).1 sn' sk' st' := by
  have hh := h
  refine Ret_enter Try.func57 rfl rfl rfl ?_
  repeat' (first | apply Jbq | apply Jbr | apply Jbs | apply Jbt | apply Jbu | apply Jbv | apply Jbw | apply Jbx | apply Jby | apply Jbz | apply Jca | apply Jcb | apply Jcc | (refine Jcd rfl ?_) | (refine Jce rfl ?_) | (refine Jcf rfl ?_) | (apply Jcg; (first | exact Jaa rfl | exact Jab rfl | exact Jac Us.h rfl | exact Jad rfl rfl | exact Jae rfl rfl | exact Jaf rfl rfl (by omega) | exact Jag Us.h Sz.h rfl rfl (by omega) | exact Jaj rfl | exact Jaq Us.h rfl | exact Jar Us.h Sz.h rfl rfl (by omega) | (apply Jbl; exact Us.h; exact rfl; exact Sz.h; exact rfl)); exact rfl) | refine Jch rfl rfl rfl ?_ | refine Jci rfl rfl rfl rfl rfl ?_ | refine Jcj rfl rfl rfl rfl ?_)
  refine TL_box (cs := dskC d sn sk st) rfl rfl ?_
  intro w1 g1 e1 hg1 hz1 hb1
  repeat' (first | apply Jbq | apply Jbr | apply Jbs | apply Jbt | apply Jbu | apply Jbv | apply Jbw | apply Jbx | apply Jby | apply Jbz | apply Jca | apply Jcb | apply Jcc | (refine Jcd rfl ?_) | (refine Jce rfl ?_) | (refine Jcf rfl ?_) | (apply Jcg; (first | exact Jaa rfl | exact Jab rfl | exact Jac Us.h rfl | exact Jad rfl rfl | exact Jae rfl rfl | exact Jaf rfl rfl (by omega) | exact Jag Us.h Sz.h rfl rfl (by omega) | exact Jaj rfl | exact Jaq Us.h rfl | exact Jar Us.h Sz.h rfl rfl (by omega) | (apply Jbl; exact Us.h; exact rfl; exact Sz.h; exact rfl)); exact rfl) | refine Jch rfl rfl rfl ?_ | refine Jci rfl rfl rfl rfl rfl ?_ | refine Jcj rfl rfl rfl rfl ?_)
  refine TL_alloc Zs.h rfl rfl ?_
  intro w2 g2 e2 hg2 hz2 hb2
  replace hb1 := hb1.ext e2
  have E2 : Ext w w2 := e1.ext e2
  repeat' (first | apply Jbq | apply Jbr | apply Jbs | apply Jbt | apply Jbu | apply Jbv | apply Jbw | apply Jbx | apply Jby | apply Jbz | apply Jca | apply Jcb | apply Jcc | (refine Jcd rfl ?_) | (refine Jce rfl ?_) | (refine Jcf rfl ?_) | (apply Jcg; (first | exact Jaa rfl | exact Jab rfl | exact Jac Us.h rfl | exact Jad rfl rfl | exact Jae rfl rfl | exact Jaf rfl rfl (by omega) | exact Jag Us.h Sz.h rfl rfl (by omega) | exact Jaj rfl | exact Jaq Us.h rfl | exact Jar Us.h Sz.h rfl rfl (by omega) | (apply Jbl; exact Us.h; exact rfl; exact Sz.h; exact rfl)); exact rfl) | refine Jch rfl rfl rfl ?_ | refine Jci rfl rfl rfl rfl rfl ?_ | refine Jcj rfl rfl rfl rfl ?_ | refine Jcg (Pu_loadAgg (cs := dskC d sn sk st) Us.h rfl Sz.h rfl (fun _ e j u hu => by rw [e, add0, hb1.cell]; exact hu)) rfl ?_)
  refine TL_call rfl en16 (specDiskOk_c (hh.ext E2) hf hl) rfl rfl ?_
  rintro _ w3 ⟨rfl, e3⟩
  replace hb1 := hb1.ext e3
  replace hb2 := hb2.ext e3
  have hs3 := e3.size
  have E3 := E2.ext e3
  cases hp : pDOk d with
  | false =>
    rw [pCalm_no (fun h => by rw [pDOk_yes h] at hp; cases hp)]
    repeat' (first | apply Jbq | apply Jbr | apply Jbs | apply Jbt | apply Jbu | apply Jbv | apply Jbw | apply Jbx | apply Jby | apply Jbz | apply Jca | apply Jcb | apply Jcc | (refine Jcd rfl ?_) | (refine Jce rfl ?_) | (refine Jcf rfl ?_) | (apply Jcg; (first | exact Jaa rfl | exact Jab rfl | exact Jac Us.h rfl | exact Jad rfl rfl | exact Jae rfl rfl | exact Jaf rfl rfl (by omega) | exact Jag Us.h Sz.h rfl rfl (by omega) | exact Jaj rfl | exact Jaq Us.h rfl | exact Jar Us.h Sz.h rfl rfl (by omega) | (apply Jbl; exact Us.h; exact rfl; exact Sz.h; exact rfl)); exact rfl) | refine Jch rfl rfl rfl ?_ | refine Jci rfl rfl rfl rfl rfl ?_ | refine Jcj rfl rfl rfl rfl ?_ | refine Jcg (Pu_build (cs := dskC noDk (.slice none 0 0) (.slice none 0 0) (.slice none 0 0)) rfl (by kernel_rfl)) rfl ?_)
    refine TL_storeAgg rfl rfl Sz.h rfl hb2 rfl ?_
    intro w8 c8 hz8 hb8
    have E8 : Ext w w8 := Ext.then_iv E3 c8 (by omega)
    repeat' (first | apply Jbq | apply Jbr | apply Jbs | apply Jbt | apply Jbu | apply Jbv | apply Jbw | apply Jbx | apply Jby | apply Jbz | apply Jca | apply Jcb | apply Jcc | (refine Jcd rfl ?_) | (refine Jce rfl ?_) | (refine Jcf rfl ?_) | (apply Jcg; (first | exact Jaa rfl | exact Jab rfl | exact Jac Us.h rfl | exact Jad rfl rfl | exact Jae rfl rfl | exact Jaf rfl rfl (by omega) | exact Jag Us.h Sz.h rfl rfl (by omega) | exact Jaj rfl | exact Jaq Us.h rfl | exact Jar Us.h Sz.h rfl rfl (by omega) | (apply Jbl; exact Us.h; exact rfl; exact Sz.h; exact rfl)); exact rfl) | refine Jch rfl rfl rfl ?_ | refine Jci rfl rfl rfl rfl rfl ?_ | refine Jcj rfl rfl rfl rfl ?_)
    exact TR_of (resA1 rfl rfl rfl hb8 Us.h rfl Sz.h) ⟨_, _, _, rfl, E8, ODk.nil (Nat.le_refl _)⟩
  | true =>
    have hD := pDOk_of hp
    have hB := hD.base
    unfold dBase at hB
    rw [pCalm_yes hD]
    repeat' (first | apply Jbq | apply Jbr | apply Jbs | apply Jbt | apply Jbu | apply Jbv | apply Jbw | apply Jbx | apply Jby | apply Jbz | apply Jca | apply Jcb | apply Jcc | (refine Jcd rfl ?_) | (refine Jce rfl ?_) | (refine Jcf rfl ?_) | (apply Jcg; (first | exact Jaa rfl | exact Jab rfl | exact Jac Us.h rfl | exact Jad rfl rfl | exact Jae rfl rfl | exact Jaf rfl rfl (by omega) | exact Jag Us.h Sz.h rfl rfl (by omega) | exact Jaj rfl | exact Jaq Us.h rfl | exact Jar Us.h Sz.h rfl rfl (by omega) | (apply Jbl; exact Us.h; exact rfl; exact Sz.h; exact rfl)); exact rfl) | refine Jch rfl rfl rfl ?_ | refine Jci rfl rfl rfl rfl rfl ?_ | refine Jcj rfl rfl rfl rfl ?_ | refine Jcg (Pu_loadAgg (cs := dskC d sn sk st) Us.h rfl Sz.h rfl (fun _ e j u hu => by rw [e, add0, hb1.cell]; exact hu)) rfl ?_)
    refine TL_call rfl en107 (specl03Copy_c (hh.ext E3) hl) rfl rfl ?_
    rintro _ w4 ⟨sn1, sk1, st1, rfl, e4, hx⟩
    replace hb1 := hb1.ext e4
    replace hb2 := hb2.ext e4
    have hs4 := e4.size
    have E4 := E3.ext e4
    have hone := hx.one
    repeat' (first | apply Jbq | apply Jbr | apply Jbs | apply Jbt | apply Jbu | apply Jbv | apply Jbw | apply Jbx | apply Jby | apply Jbz | apply Jca | apply Jcb | apply Jcc | (refine Jcd rfl ?_) | (refine Jce rfl ?_) | (refine Jcf rfl ?_) | (apply Jcg; (first | exact Jaa rfl | exact Jab rfl | exact Jac Us.h rfl | exact Jad rfl rfl | exact Jae rfl rfl | exact Jaf rfl rfl (by omega) | exact Jag Us.h Sz.h rfl rfl (by omega) | exact Jaj rfl | exact Jaq Us.h rfl | exact Jar Us.h Sz.h rfl rfl (by omega) | (apply Jbl; exact Us.h; exact rfl; exact Sz.h; exact rfl)); exact rfl) | refine Jch rfl rfl rfl ?_ | refine Jci rfl rfl rfl rfl rfl ?_ | refine Jcj rfl rfl rfl rfl ?_)
    refine TL_alloc Zs.h rfl rfl ?_
    intro w5 g5 e5 hg5 hz5 hb5
    replace hb1 := hb1.ext e5
    replace hb2 := hb2.ext e5
    replace hx := hx.ext e5
    repeat' (first | apply Jbq | apply Jbr | apply Jbs | apply Jbt | apply Jbu | apply Jbv | apply Jbw | apply Jbx | apply Jby | apply Jbz | apply Jca | apply Jcb | apply Jcc | (refine Jcd rfl ?_) | (refine Jce rfl ?_) | (refine Jcf rfl ?_) | (apply Jcg; (first | exact Jaa rfl | exact Jab rfl | exact Jac Us.h rfl | exact Jad rfl rfl | exact Jae rfl rfl | exact Jaf rfl rfl (by omega) | exact Jag Us.h Sz.h rfl rfl (by omega) | exact Jaj rfl | exact Jaq Us.h rfl | exact Jar Us.h Sz.h rfl rfl (by omega) | (apply Jbl; exact Us.h; exact rfl; exact Sz.h; exact rfl)); exact rfl) | refine Jch rfl rfl rfl ?_ | refine Jci rfl rfl rfl rfl rfl ?_ | refine Jcj rfl rfl rfl rfl ?_)
    refine TL_storeAgg rfl rfl Sz.h hone hb5 rfl ?_
    clear hb5
    intro w6 c6 hz6 hb5
    replace hb1 := hb1.ch c6 (by simp only [Iv]; omega)
    replace hb2 := hb2.ch c6 (by simp only [Iv]; omega)
    replace hx := hx.ch c6 (by intro k _ _; simp only [Iv]; omega)
    have E6 : Ext w w6 := Ext.then_iv (E4.ext e5) c6 (by have := E4.size; omega)
    repeat' (first | apply Jbq | apply Jbr | apply Jbs | apply Jbt | apply Jbu | apply Jbv | apply Jbw | apply Jbx | apply Jby | apply Jbz | apply Jca | apply Jcb | apply Jcc | (refine Jcd rfl ?_) | (refine Jce rfl ?_) | (refine Jcf rfl ?_) | (apply Jcg; (first | exact Jaa rfl | exact Jab rfl | exact Jac Us.h rfl | exact Jad rfl rfl | exact Jae rfl rfl | exact Jaf rfl rfl (by omega) | exact Jag Us.h Sz.h rfl rfl (by omega) | exact Jaj rfl | exact Jaq Us.h rfl | exact Jar Us.h Sz.h rfl rfl (by omega) | (apply Jbl; exact Us.h; exact rfl; exact Sz.h; exact rfl)); exact rfl) | refine Jch rfl rfl rfl ?_ | refine Jci rfl rfl rfl rfl rfl ?_ | refine Jcj rfl rfl rfl rfl ?_ | refine Jcg (Pu_loadAgg (cs := dskC d sn sk st) Us.h rfl Sz.h rfl (fun _ e j u hu => by rw [e, add0, hb1.cell]; exact hu)) rfl ?_)
    refine TL_call rfl en51 (specDiskDir_o (hh.ext E6) hf hl) rfl rfl ?_
    rintro vk w7 ⟨e7, hok⟩
    rw [pDirs_yes hD] at hok
    have hs7 := e7.size
    have hokb := hok.bin
    have E7 := E6.ext e7
    replace hb5 := hb5.ext e7
    replace hb2 := hb2.ext e7
    replace hx := hx.ext e7
    have hdir := hD.dirLe d.turns.length (Nat.le_refl _)
    rw [List.take_length, show runT d.kept d.turns = pDir d from rfl] at hdir
    repeat' (first | apply Jbq | apply Jbr | apply Jbs | apply Jbt | apply Jbu | apply Jbv | apply Jbw | apply Jbx | apply Jby | apply Jbz | apply Jca | apply Jcb | apply Jcc | (refine Jcd rfl ?_) | (refine Jce rfl ?_) | (refine Jcf rfl ?_) | (apply Jcg; (first | exact Jaa rfl | exact Jab rfl | exact Jac Us.h rfl | exact Jad rfl rfl | exact Jae rfl rfl | exact Jaf rfl rfl (by omega) | exact Jag Us.h Sz.h rfl rfl (by omega) | exact Jaj rfl | exact Jaq Us.h rfl | exact Jar Us.h Sz.h rfl rfl (by omega) | (apply Jbl; exact Us.h; exact rfl; exact Sz.h; exact rfl)); exact rfl) | refine Jch rfl rfl rfl ?_ | refine Jci rfl rfl rfl rfl rfl ?_ | refine Jcj rfl rfl rfl rfl ?_)
    refine TL_store rfl rfl Sz.h hok.rd.one hb5 rfl ?_
    clear hb5
    intro w8 c8 hz8 hb5
    repeat' (first | apply Jbq | apply Jbr | apply Jbs | apply Jbt | apply Jbu | apply Jbv | apply Jbw | apply Jbx | apply Jby | apply Jbz | apply Jca | apply Jcb | apply Jcc | (refine Jcd rfl ?_) | (refine Jce rfl ?_) | (refine Jcf rfl ?_) | (apply Jcg; (first | exact Jaa rfl | exact Jab rfl | exact Jac Us.h rfl | exact Jad rfl rfl | exact Jae rfl rfl | exact Jaf rfl rfl (by omega) | exact Jag Us.h Sz.h rfl rfl (by omega) | exact Jaj rfl | exact Jaq Us.h rfl | exact Jar Us.h Sz.h rfl rfl (by omega) | (apply Jbl; exact Us.h; exact rfl; exact Sz.h; exact rfl)); exact rfl) | refine Jch rfl rfl rfl ?_ | refine Jci rfl rfl rfl rfl rfl ?_ | refine Jcj rfl rfl rfl rfl ?_)
    refine TL_store rfl rfl Sz.h rfl hb5 rfl ?_
    clear hb5
    intro w9 c9 hz9 hb5
    replace hb5 : Blk w9 g5 33 (dskC d sn1 vk (.slice none 0 0)) := hb5
    replace hb2 := (hb2.ch c8 (by simp only [Iv]; omega)).ch c9 (by simp only [Iv]; omega)
    replace hx := (hx.ch c8 (by intro k _ _; simp only [Iv]; omega)).ch c9 (by intro k _ _; simp only [Iv]; omega)
    replace hok := (hok.ch c8 (by intro k _ _; simp only [Iv]; omega)).ch c9 (by intro k _ _; simp only [Iv]; omega)
    have E9 : Ext w w9 := Ext.then_iv (Ext.then_iv E7 c8 (by have := E4.size; omega)) c9 (by have := E4.size; omega)
    obtain ⟨_, ds, hmap, hN, hrk, hrt, hnd, hin⟩ := hx
    have hinN : ∀ b ∈ bksN sn1 ds, w3.heap.size ≤ b ∧ b < w4.heap.size := fun b hb => hin b (List.mem_append.2 (.inl hb))
    obtain ⟨A1, c1, rfl, hc1, hr1⟩ := hN.row.rr (fun b hb => hinN b (List.mem_append.2 (.inl hb))) (by omega)
    have hdl : ds.length = d.nodes.length := by rw [← hmap, List.length_map]
    have hrd : RDk w9 0 w9.heap.size { d with kept := pDir d, turns := [] } (.slice A1 ds.length c1) vk (.slice none 0 0) :=
      ⟨by rw [← hmap]; have := hN.rn hinN (by omega); obtain ⟨a, b, c, h1, h2, h3, h4, h5⟩ := this; exact ⟨a, b, c, h1, h2, h3, h4.wide (Nat.zero_le _) (by omega) (Nat.le_refl _), fun x hx => ⟨by obtain ⟨A, c, q1, q2, q3⟩ := (h5 x hx).1; exact ⟨A, c, q1, q2, q3.wide (Nat.zero_le _) (by omega) (Nat.le_refl _)⟩, by obtain ⟨A, c, q1, q2, q3⟩ := (h5 x hx).2; exact ⟨A, c, q1, q2, q3.wide (Nat.zero_le _) (by omega) (Nat.le_refl _)⟩⟩⟩,
        hok.rk, RowR.rt (RowO.nil (e := 91) w9 0 (Nat.zero_le _)).rd⟩
    repeat' (first | apply Jbq | apply Jbr | apply Jbs | apply Jbt | apply Jbu | apply Jbv | apply Jbw | apply Jbx | apply Jby | apply Jbz | apply Jca | apply Jcb | apply Jcc | (refine Jcd rfl ?_) | (refine Jce rfl ?_) | (refine Jcf rfl ?_) | (apply Jcg; (first | exact Jaa rfl | exact Jab rfl | exact Jac Us.h rfl | exact Jad rfl rfl | exact Jae rfl rfl | exact Jaf rfl rfl (by omega) | exact Jag Us.h Sz.h rfl rfl (by omega) | exact Jaj rfl | exact Jaq Us.h rfl | exact Jar Us.h Sz.h rfl rfl (by omega) | (apply Jbl; exact Us.h; exact rfl; exact Sz.h; exact rfl)); exact rfl) | refine Jch rfl rfl rfl ?_ | refine Jci rfl rfl rfl rfl rfl ?_ | refine Jcj rfl rfl rfl rfl ?_ | refine Jcg (Pu_loadAgg (cs := dskC d (.slice A1 ds.length c1) vk (.slice none 0 0)) Us.h rfl Sz.h rfl (fun _ e j u hu => by rw [e, add0, hb5.cell]; exact hu)) rfl ?_)
    refine TL_call rfl en114 (l04Only_c (d := { d with kept := pDir d, turns := [] }) hrd hr1 (fun x hx => by obtain ⟨h1, h2⟩ := hN.ok x hx; obtain ⟨A, c, _, _, h3, _⟩ := h1.sl; obtain ⟨A', c', _, _, h4, _⟩ := h2.sl; exact ⟨⟨A, _, c, h3⟩, ⟨A', _, c', h4⟩⟩) (by simp only; omega) (by simp) (by omega)) rfl rfl ?_
    rintro _ w10 ⟨vn, rfl, e10, hon⟩
    rw [pIds_flat] at hon
    have hs10 := e10.size
    replace hb5 := hb5.ext e10
    have hN10 : ONx w10 vn (only ds ((pDir d).map (·.id))) := hN.keep hon e10 (fun b hb t => t) (fun b hb => by have := hinN b hb; omega)
    have hbk10 : ∀ b ∈ bksN vn (only ds ((pDir d).map (·.id))), w3.heap.size ≤ b ∧ b < w10.heap.size ∧ (b < w6.heap.size ∨ w7.heap.size ≤ b) ∧ b ≠ g5 := fun b hb => by
      have h1 := bks_keep hon hinN b hb
      exact ⟨by omega, by omega, by omega, by omega⟩
    replace hok := hok.ext e10
    replace hb2 := hb2.ext e10
    have E10 : Ext w w10 := E9.ext e10
    obtain ⟨l, hlq⟩ : ∃ l, l = onlyP d.nodes ((pDir d).map (·.id)) := ⟨_, rfl⟩
    have hmap9 : (only ds ((pDir d).map (·.id))).map NdP = l := by rw [only_map, hmap, hlq]
    obtain ⟨es0, hes0⟩ : ∃ es0, es0 = only ds ((pDir d).map (·.id)) := ⟨_, rfl⟩
    rw [← hes0] at hmap9 hN10 hbk10 hon
    have hl8 : l.length ≤ 8 := by rw [hlq]; have := onlyP_length d.nodes ((pDir d).map (·.id)); omega
    have hlen0 : es0.length = l.length := by rw [← hmap9, List.length_map]
    obtain ⟨An, cn, rfl, hown⟩ := hon
    clear hown hr1 hrk hrt hN hmap hnd hin hb1 hrd
    repeat' (first | apply Jbq | apply Jbr | apply Jbs | apply Jbt | apply Jbu | apply Jbv | apply Jbw | apply Jbx | apply Jby | apply Jbz | apply Jca | apply Jcb | apply Jcc | (refine Jcd rfl ?_) | (refine Jce rfl ?_) | (refine Jcf rfl ?_) | (apply Jcg; (first | exact Jaa rfl | exact Jab rfl | exact Jac Us.h rfl | exact Jad rfl rfl | exact Jae rfl rfl | exact Jaf rfl rfl (by omega) | exact Jag Us.h Sz.h rfl rfl (by omega) | exact Jaj rfl | exact Jaq Us.h rfl | exact Jar Us.h Sz.h rfl rfl (by omega) | (apply Jbl; exact Us.h; exact rfl; exact Sz.h; exact rfl)); exact rfl) | refine Jch rfl rfl rfl ?_ | refine Jci rfl rfl rfl rfl rfl ?_ | refine Jcj rfl rfl rfl rfl ?_)
    refine TL_storeAgg rfl rfl Sz.h (by show ((dskC d (.slice An es0.length cn) vk (.slice none 0 0)).all (·.oneCell')) = true; simp only [dskC, List.all_cons, List.all_nil, hok.rd.one]; rfl) hb5 rfl ?_
    clear hb5
    intro w11 c11 hz11 hb5
    replace hb5 : Blk w11 g5 33 (dskC d (.slice An es0.length cn) vk (.slice none 0 0)) := hb5
    replace hok := hok.ch c11 (by intro k _ _; simp only [Iv]; omega)
    replace hb2 := hb2.ch c11 (by simp only [Iv]; omega)
    replace hN10 := hN10.ch c11 (fun b hb => by have := hbk10 b hb; simp only [Iv]; omega)
    have E11 : Ext w w11 := Ext.then_iv E10 c11 (by have := E4.size; omega)
    repeat' (first | apply Jbq | apply Jbr | apply Jbs | apply Jbt | apply Jbu | apply Jbv | apply Jbw | apply Jbx | apply Jby | apply Jbz | apply Jca | apply Jcb | apply Jcc | (refine Jcd rfl ?_) | (refine Jce rfl ?_) | (refine Jcf rfl ?_) | (apply Jcg; (first | exact Jaa rfl | exact Jab rfl | exact Jac Us.h rfl | exact Jad rfl rfl | exact Jae rfl rfl | exact Jaf rfl rfl (by omega) | exact Jag Us.h Sz.h rfl rfl (by omega) | exact Jaj rfl | exact Jaq Us.h rfl | exact Jar Us.h Sz.h rfl rfl (by omega) | (apply Jbl; exact Us.h; exact rfl; exact Sz.h; exact rfl)); exact rfl) | refine Jch rfl rfl rfl ?_ | refine Jci rfl rfl rfl rfl rfl ?_ | refine Jcj rfl rfl rfl rfl ?_ | refine Jcg (Pu_load Fl.h rfl (fun _ e => by rw [e]; exact hb5.ld rfl)) rfl ?_)
    refine TC_loop (ι := Nat) (fun k => [(2, .pointer (some ⟨g2, 0, none⟩)), (4, .pointer (some ⟨g5, 0, none⟩)), (20, .slice An es0.length cn), (21, I es0.length), (22, I k)])
      (fun k w' => k ≤ l.length ∧ Ext w w' ∧ w11.heap.size ≤ w'.heap.size ∧ Blk w' g5 33 (dskC d (.slice An es0.length cn) vk (.slice none 0 0)) ∧ RowO LkC 78 2 w' w6.heap.size w7.heap.size vk (pDir d) ∧ Blk w' g2 33 (dskC noDk (.slice none 0 0) (.slice none 0 0) (.slice none 0 0)) ∧
        ∃ es, es.map NdP = (l.take k).mapIdx (fun _ p => calmP p) ++ l.drop k ∧ ONx w' (.slice An es0.length cn) es ∧ ∀ b ∈ bksN (.slice An es0.length cn) es, w3.heap.size ≤ b ∧ b < w'.heap.size ∧ (b < w6.heap.size ∨ w7.heap.size ≤ b) ∧ b ≠ g5) (fun k => l.length - k) 0
      (subEnv_cons rfl (subEnv_cons rfl (subEnv_cons rfl (subEnv_cons rfl (subEnv_cons rfl (subEnv_nil _)))))) ⟨Nat.zero_le _, E11, Nat.le_refl _, hb5, hok, hb2, es0, by rw [hmap9]; simp, hN10, fun b hb => by have := hbk10 b hb; omega⟩ ?_
    rintro k w12 ⟨hk12, E12, hs12, hb512, hok12, hb212, es, hes, hN12, hbk12⟩
    repeat' (first | apply Jbq | apply Jbr | apply Jbs | apply Jbt | apply Jbu | apply Jbv | apply Jbw | apply Jbx | apply Jby | apply Jbz | apply Jca | apply Jcb | apply Jcc | (refine Jcd rfl ?_) | (refine Jce rfl ?_) | (refine Jcf rfl ?_) | (apply Jcg; (first | exact Jaa rfl | exact Jab rfl | exact Jac Us.h rfl | exact Jad rfl rfl | exact Jae rfl rfl | exact Jaf rfl rfl (by omega) | exact Jag Us.h Sz.h rfl rfl (by omega) | exact Jaj rfl | exact Jaq Us.h rfl | exact Jar Us.h Sz.h rfl rfl (by omega) | (apply Jbl; exact Us.h; exact rfl; exact Sz.h; exact rfl)); exact rfl) | refine Jch rfl rfl rfl ?_ | refine Jci rfl rfl rfl rfl rfl ?_ | refine Jcj rfl rfl rfl rfl ?_)
    refine Jcx rfl (fun hlt0 => ?_) (fun hge => ?_)
    · have hlt : k < l.length := by omega
      have hel : es.length = l.length := by
        have := congrArg List.length hes
        rw [List.length_map, List.length_append, List.length_mapIdx, List.length_take, List.length_drop] at this
        omega
      have hke : k < es.length := by omega
      obtain ⟨gN, cN, loN, hiN, hvN, hownN⟩ := hN12.open hke
      injection hvN with hv1 hv2 hv3
      subst hv1 hv3
      have hgN := hbk12 gN (List.mem_append.2 (.inl (List.mem_singleton.2 rfl)))
      obtain ⟨x, hx⟩ : ∃ x, x = es[k] := ⟨_, rfl⟩
      have hok2 := hN12.ok es[k] (List.getElem_mem hke)
      have hbx := bkd_in (v := .slice (some ⟨gN, 0, none⟩) es0.length cn) hke
      rw [← hx] at hok2 hbx
      have hxl : NdP x = l[k] := by
        have h1 := upd_get (fun _ p => calmP p) l k hlt
        rw [← hes, List.getElem?_map, List.getElem?_eq_getElem hke, ← hx] at h1
        injection h1
      have hcell : ∀ j u, (NdC x)[j]? = some u → w12.cell? ((⟨gN, 0, none⟩ : Addr).add (k * 3) |>.add j) = some u := fun j u hu => by
        have hj : j < 3 := by have := (List.getElem?_eq_some_iff.1 hu).1; rw [NdC_len] at this; exact this
        rw [add_lit3, hownN.row.cellAt (k * 3 + j) (by omega), cellsL_at NdC_len es k j hke hj, ← hx]; exact hu
      obtain ⟨id, body, safe, vb, vs⟩ := x
      obtain ⟨hokB, hokS⟩ := hok2
      simp only at hokB hokS
      obtain ⟨Ab, cb, lob, hib, rfl, hownB⟩ := hokB.sl
      obtain ⟨As, cs, los, his, rfl, hownS⟩ := hokS.sl
      replace hcell : ∀ j u, [I id, .slice Ab body.length cb, .slice As safe.length cs][j]? = some u → w12.cell? ((⟨gN, 0, none⟩ : Addr).add (k * 3) |>.add j) = some u := hcell
      have hbl : body.length ≤ 1048576 := by
        have h1 : (id, body, safe) ∈ d.nodes := by
          have h2 : l[k] ∈ l := List.getElem_mem hlt
          rw [← hxl, hlq] at h2
          exact onlyP_mem h2
        have h3 := totNd_mem h1
        have h4 := (totD_parts hl).1
        unfold NdW at h3
        simp only at h3
        omega
      repeat' (first | apply Jbq | apply Jbr | apply Jbs | apply Jbt | apply Jbu | apply Jbv | apply Jbw | apply Jbx | apply Jby | apply Jbz | apply Jca | apply Jcb | apply Jcc | (refine Jcd rfl ?_) | (refine Jce rfl ?_) | (refine Jcf rfl ?_) | (apply Jcg; (first | exact Jaa rfl | exact Jab rfl | exact Jac Us.h rfl | exact Jad rfl rfl | exact Jae rfl rfl | exact Jaf rfl rfl (by omega) | exact Jag Us.h Sz.h rfl rfl (by omega) | exact Jaj rfl | exact Jaq Us.h rfl | exact Jar Us.h Sz.h rfl rfl (by omega) | (apply Jbl; exact Us.h; exact rfl; exact Sz.h; exact rfl)); exact rfl) | refine Jch rfl rfl rfl ?_ | refine Jci rfl rfl rfl rfl rfl ?_ | refine Jcj rfl rfl rfl rfl ?_ | refine Jcg (Pu_loadAgg (cs := [I id, .slice Ab body.length cb, .slice As safe.length cs]) Us.h rfl Sz.h rfl (fun _ e j u hu => by rw [e]; exact hcell j u hu)) rfl ?_ | (refine TL_alloc Zs.h rfl rfl ?_; intro w13 g6 e13 hg6 hz13 hb6) | (refine TL_storeAgg rfl rfl Sz.h rfl hb6 rfl ?_; intro w14 c14 hz14 hb64))
      clear hb6
      replace hb512 := (hb512.ext e13).ch c14 (by simp only [Iv]; omega)
      replace hb212 := (hb212.ext e13).ch c14 (by simp only [Iv]; omega)
      replace hok12 := (hok12.ext e13).ch c14 (by intro j _ _; simp only [Iv]; omega)
      have e1214 : Ext w12 w14 := Ext.then_iv e13 c14 (by omega)
      refine TC_anyS (fun w' => Ch (Iv gN (gN + 1)) w14 w') mixed rfl (Ch.refl _ _).drew ?_
      intro w15 e15 hz15 hE
      (refine Jco 0 rfl (by kernel_rfl) (by kernel_rfl) (by kernel_rfl) (fun _ _ _ h => h) hE (by (first | exact Pu_load Fl.h rfl (fun _ e => Ch.cell e (hb512.ld rfl) (by rw [block_of_add]; simp only [Iv]; omega)) | exact Pu_load Fl.h rfl (fun _ e => Ch.cell e (hb64.ld rfl) (by rw [block_of_add]; simp only [Iv]; omega)) | (first | exact Jaa rfl | exact Jab rfl | exact Jac Us.h rfl | exact Jad rfl rfl | exact Jae rfl rfl | exact Jaf rfl rfl (by omega) | exact Jag Us.h Sz.h rfl rfl (by omega) | exact Jaj rfl | exact Jaq Us.h rfl | exact Jar Us.h Sz.h rfl rfl (by omega) | (apply Jbl; exact Us.h; exact rfl; exact Sz.h; exact rfl)))) rfl ?_; refine Jco 1 rfl (by kernel_rfl) (by kernel_rfl) (by kernel_rfl) (fun _ _ _ h => h) hE (by (first | exact Pu_load Fl.h rfl (fun _ e => Ch.cell e (hb512.ld rfl) (by rw [block_of_add]; simp only [Iv]; omega)) | exact Pu_load Fl.h rfl (fun _ e => Ch.cell e (hb64.ld rfl) (by rw [block_of_add]; simp only [Iv]; omega)) | (first | exact Jaa rfl | exact Jab rfl | exact Jac Us.h rfl | exact Jad rfl rfl | exact Jae rfl rfl | exact Jaf rfl rfl (by omega) | exact Jag Us.h Sz.h rfl rfl (by omega) | exact Jaj rfl | exact Jaq Us.h rfl | exact Jar Us.h Sz.h rfl rfl (by omega) | (apply Jbl; exact Us.h; exact rfl; exact Sz.h; exact rfl)))) rfl ?_; refine Jco 2 rfl (by kernel_rfl) (by kernel_rfl) (by kernel_rfl) (fun _ _ _ h => h) hE (by (first | exact Pu_load Fl.h rfl (fun _ e => Ch.cell e (hb512.ld rfl) (by rw [block_of_add]; simp only [Iv]; omega)) | exact Pu_load Fl.h rfl (fun _ e => Ch.cell e (hb64.ld rfl) (by rw [block_of_add]; simp only [Iv]; omega)) | (first | exact Jaa rfl | exact Jab rfl | exact Jac Us.h rfl | exact Jad rfl rfl | exact Jae rfl rfl | exact Jaf rfl rfl (by omega) | exact Jag Us.h Sz.h rfl rfl (by omega) | exact Jaj rfl | exact Jaq Us.h rfl | exact Jar Us.h Sz.h rfl rfl (by omega) | (apply Jbl; exact Us.h; exact rfl; exact Sz.h; exact rfl)))) rfl ?_; refine Jco 3 rfl (by kernel_rfl) (by kernel_rfl) (by kernel_rfl) (fun _ _ _ h => h) hE (by (first | exact Pu_load Fl.h rfl (fun _ e => Ch.cell e (hb512.ld rfl) (by rw [block_of_add]; simp only [Iv]; omega)) | exact Pu_load Fl.h rfl (fun _ e => Ch.cell e (hb64.ld rfl) (by rw [block_of_add]; simp only [Iv]; omega)) | (first | exact Jaa rfl | exact Jab rfl | exact Jac Us.h rfl | exact Jad rfl rfl | exact Jae rfl rfl | exact Jaf rfl rfl (by omega) | exact Jag Us.h Sz.h rfl rfl (by omega) | exact Jaj rfl | exact Jaq Us.h rfl | exact Jar Us.h Sz.h rfl rfl (by omega) | (apply Jbl; exact Us.h; exact rfl; exact Sz.h; exact rfl)))) rfl ?_; refine Jco 4 rfl (by kernel_rfl) (by kernel_rfl) (by kernel_rfl) (fun _ _ _ h => h) hE (by (first | exact Pu_load Fl.h rfl (fun _ e => Ch.cell e (hb512.ld rfl) (by rw [block_of_add]; simp only [Iv]; omega)) | exact Pu_load Fl.h rfl (fun _ e => Ch.cell e (hb64.ld rfl) (by rw [block_of_add]; simp only [Iv]; omega)) | (first | exact Jaa rfl | exact Jab rfl | exact Jac Us.h rfl | exact Jad rfl rfl | exact Jae rfl rfl | exact Jaf rfl rfl (by omega) | exact Jag Us.h Sz.h rfl rfl (by omega) | exact Jaj rfl | exact Jaq Us.h rfl | exact Jar Us.h Sz.h rfl rfl (by omega) | (apply Jbl; exact Us.h; exact rfl; exact Sz.h; exact rfl)))) rfl ?_; refine Jco 5 rfl (by kernel_rfl) (by kernel_rfl) (by kernel_rfl) (fun _ _ _ h => h) hE (by (first | exact Pu_load Fl.h rfl (fun _ e => Ch.cell e (hb512.ld rfl) (by rw [block_of_add]; simp only [Iv]; omega)) | exact Pu_load Fl.h rfl (fun _ e => Ch.cell e (hb64.ld rfl) (by rw [block_of_add]; simp only [Iv]; omega)) | (first | exact Jaa rfl | exact Jab rfl | exact Jac Us.h rfl | exact Jad rfl rfl | exact Jae rfl rfl | exact Jaf rfl rfl (by omega) | exact Jag Us.h Sz.h rfl rfl (by omega) | exact Jaj rfl | exact Jaq Us.h rfl | exact Jar Us.h Sz.h rfl rfl (by omega) | (apply Jbl; exact Us.h; exact rfl; exact Sz.h; exact rfl)))) rfl ?_; refine Jco 6 rfl (by kernel_rfl) (by kernel_rfl) (by kernel_rfl) (fun _ _ _ h => h) hE (by (first | exact Pu_load Fl.h rfl (fun _ e => Ch.cell e (hb512.ld rfl) (by rw [block_of_add]; simp only [Iv]; omega)) | exact Pu_load Fl.h rfl (fun _ e => Ch.cell e (hb64.ld rfl) (by rw [block_of_add]; simp only [Iv]; omega)) | (first | exact Jaa rfl | exact Jab rfl | exact Jac Us.h rfl | exact Jad rfl rfl | exact Jae rfl rfl | exact Jaf rfl rfl (by omega) | exact Jag Us.h Sz.h rfl rfl (by omega) | exact Jaj rfl | exact Jaq Us.h rfl | exact Jar Us.h Sz.h rfl rfl (by omega) | (apply Jbl; exact Us.h; exact rfl; exact Sz.h; exact rfl)))) rfl ?_; refine Jco 8 rfl (by kernel_rfl) (by kernel_rfl) (by kernel_rfl) (fun _ _ _ h => h) hE (by (first | exact Pu_load Fl.h rfl (fun _ e => Ch.cell e (hb512.ld rfl) (by rw [block_of_add]; simp only [Iv]; omega)) | exact Pu_load Fl.h rfl (fun _ e => Ch.cell e (hb64.ld rfl) (by rw [block_of_add]; simp only [Iv]; omega)) | (first | exact Jaa rfl | exact Jab rfl | exact Jac Us.h rfl | exact Jad rfl rfl | exact Jae rfl rfl | exact Jaf rfl rfl (by omega) | exact Jag Us.h Sz.h rfl rfl (by omega) | exact Jaj rfl | exact Jaq Us.h rfl | exact Jar Us.h Sz.h rfl rfl (by omega) | (apply Jbl; exact Us.h; exact rfl; exact Sz.h; exact rfl)))) rfl ?_; refine Jco 9 rfl (by kernel_rfl) (by kernel_rfl) (by kernel_rfl) (fun _ _ _ h => h) hE (by (first | exact Pu_load Fl.h rfl (fun _ e => Ch.cell e (hb512.ld rfl) (by rw [block_of_add]; simp only [Iv]; omega)) | exact Pu_load Fl.h rfl (fun _ e => Ch.cell e (hb64.ld rfl) (by rw [block_of_add]; simp only [Iv]; omega)) | (first | exact Jaa rfl | exact Jab rfl | exact Jac Us.h rfl | exact Jad rfl rfl | exact Jae rfl rfl | exact Jaf rfl rfl (by omega) | exact Jag Us.h Sz.h rfl rfl (by omega) | exact Jaj rfl | exact Jaq Us.h rfl | exact Jar Us.h Sz.h rfl rfl (by omega) | (apply Jbl; exact Us.h; exact rfl; exact Sz.h; exact rfl)))) rfl ?_)
      refine TA_one 7 (by kernel_rfl) rfl ?_
      refine TL_buildSlice0 Us.h Sz.h rfl ?_
      intro w16 g16 e16 hg16 hz16 hown16
      have hE16 := hE.ext e16
      clear hE
      have hE := hE16
      refine Jbq (TN_any hE ?_)
      refine TA_one 10 (by kernel_rfl) rfl ?_
      have hnew : OB w16 w15.heap.size w16.heap.size _ [] := OB_new (s := []) rfl hown16 hg16 hz16
      have e1216 := (e1214.ext e15).ext e16
      refine TL_appendB Us.h rfl rfl hnew ⟨_, _, rfl, (hownB.ext e1216).cap.1, (hownB.ext e1216).rd⟩ e16.size (by simp only [List.length_nil]; omega) rfl ?_
      intro w17 v17 c17 ho17
      rw [List.nil_append] at ho17
      obtain ⟨A2, c2, rfl, ho2⟩ := ho17
      have e1217 : Ext w12 w17 := Ext.then_iv e1216 c17 (by have := e1214.size; have := e15.size; omega)
      have hE17 : Ch (Iv gN (gN + 1)) w14 w17 := Ch.mono (Ext.then_iv (e15.ext e16) c17 e15.size) (fun _ t => t.elim)
      clear hE hE16
      have hE := hE17
      refine Jbq (TN_any hE ?_)
      (refine Jco 11 rfl (by kernel_rfl) (by kernel_rfl) (by kernel_rfl) (fun _ _ _ h => h) hE (by (first | exact Pu_build (cs := [I id, .slice Ab body.length cb, .slice A2 body.length c2]) rfl (by kernel_rfl) | (first | exact Jaa rfl | exact Jab rfl | exact Jac Us.h rfl | exact Jad rfl rfl | exact Jae rfl rfl | exact Jaf rfl rfl (by omega) | exact Jag Us.h Sz.h rfl rfl (by omega) | exact Jaj rfl | exact Jaq Us.h rfl | exact Jar Us.h Sz.h rfl rfl (by omega) | (apply Jbl; exact Us.h; exact rfl; exact Sz.h; exact rfl)))) rfl ?_; refine Jco 12 rfl (by kernel_rfl) (by kernel_rfl) (by kernel_rfl) (fun _ _ _ h => h) hE (by (first | exact Pu_build (cs := [I id, .slice Ab body.length cb, .slice A2 body.length c2]) rfl (by kernel_rfl) | (first | exact Jaa rfl | exact Jab rfl | exact Jac Us.h rfl | exact Jad rfl rfl | exact Jae rfl rfl | exact Jaf rfl rfl (by omega) | exact Jag Us.h Sz.h rfl rfl (by omega) | exact Jaj rfl | exact Jaq Us.h rfl | exact Jar Us.h Sz.h rfl rfl (by omega) | (apply Jbl; exact Us.h; exact rfl; exact Sz.h; exact rfl)))) rfl ?_)
      refine TA_one 13 (by kernel_rfl) rfl ?_
      refine TL_storeOwnAgg rfl (add0 gN (k * 3)) rfl Sz.h rfl (hownN.ext e1217) (by simp only [List.length_cons, List.length_nil]; omega) ?_
      intro w18 c18 hz18 hown18
      have hs15 := e15.size
      have hs16 := e16.size
      have hs17 := c17.size
      have hs14 := e1214.size
      have hx' : es[k] = ⟨id, body, safe, .slice Ab body.length cb, .slice As safe.length cs⟩ := hx.symm
      replace hown18 : Own w18 loN hiN 86 3 (some ⟨gN, 0, none⟩) es.length cn (setL (cellsL NdC es) (k * 3) (NdC ⟨id, body, body, .slice Ab body.length cb, .slice A2 body.length c2⟩)) := hown18
      rw [cells_put hke] at hown18
      have hlset : (es.set k ⟨id, body, body, .slice Ab body.length cb, .slice A2 body.length c2⟩).length = es0.length := by rw [List.length_set]; omega
      refine Jbq (TN_any (hE.then c18) ?_)
      refine TA_done (by kernel_rfl) ?_
      have hN18 := ONx.set (x' := ⟨id, body, body, .slice Ab body.length cb, .slice A2 body.length c2⟩) hke (hN12.ext e1217) c18 ⟨_, _, by rw [hlset], by rw [hlset, ← hel.trans hlen0.symm]; exact hown18⟩ ⟨hokB.ext e1217, OB.x ⟨A2, c2, rfl, ho2⟩⟩
        (by
          show (blk _ ++ blk _).Nodup
          rw [List.nodup_append]
          exact ⟨blk_nodup _, blk_nodup _, fun a ha b hb e => by
            have h1 := hbk12 a (hbx a (List.mem_append.2 (.inl ha)))
            have h2 := (OB.bin (v := .slice A2 body.length c2) ⟨A2, c2, rfl, ho2⟩) b hb
            omega⟩)
        (fun b hb => by
          rcases List.mem_append.1 hb with hb | hb
          · left; rw [hx']; exact List.mem_append.2 (.inl hb)
          · right; intro h; have h1 := hbk12 b h; have h2 := (OB.bin (v := .slice A2 body.length c2) ⟨A2, c2, rfl, ho2⟩) b hb; omega)
      have hbk18 := bks_set (R := fun b => w3.heap.size ≤ b ∧ b < w18.heap.size ∧ (b < w6.heap.size ∨ w7.heap.size ≤ b) ∧ b ≠ g5) (v := .slice (some ⟨gN, 0, none⟩) es0.length cn) (es := es) (k := k) (x' := ⟨id, body, body, .slice Ab body.length cb, .slice A2 body.length c2⟩) (fun b hb => by have := hbk12 b hb; exact ⟨this.1, by omega, this.2.2⟩)
        (fun b hb => by
          rcases List.mem_append.1 hb with hb | hb
          · have := hbk12 b (hbx b (List.mem_append.2 (.inl hb))); exact ⟨this.1, by omega, this.2.2⟩
          · have h2 := (OB.bin (v := .slice A2 body.length c2) ⟨A2, c2, rfl, ho2⟩) b hb
            exact ⟨by omega, by omega, by omega, by omega⟩)
      have e1417 : Ext w14 w17 := Ext.then_iv (e15.ext e16) c17 (by omega)
      have hb518 := (hb512.ext e1417).ch c18 (by simp only [Iv]; omega)
      have hb218 := (hb212.ext e1417).ch c18 (by simp only [Iv]; omega)
      have hok18 := (hok12.ext e1417).ch c18 (by intro j h1 h2; simp only [Iv]; omega)
      repeat' (first | apply Jbq | apply Jbr | apply Jbs | apply Jbt | apply Jbu | apply Jbv | apply Jbw | apply Jbx | apply Jby | apply Jbz | apply Jca | apply Jcb | apply Jcc | (refine Jcd rfl ?_) | (refine Jce rfl ?_) | (refine Jcf rfl ?_) | (apply Jcg; (first | exact Jaa rfl | exact Jab rfl | exact Jac Us.h rfl | exact Jad rfl rfl | exact Jae rfl rfl | exact Jaf rfl rfl (by omega) | exact Jag Us.h Sz.h rfl rfl (by omega) | exact Jaj rfl | exact Jaq Us.h rfl | exact Jar Us.h Sz.h rfl rfl (by omega) | (apply Jbl; exact Us.h; exact rfl; exact Sz.h; exact rfl)); exact rfl) | refine Jch rfl rfl rfl ?_ | refine Jci rfl rfl rfl rfl rfl ?_ | refine Jcj rfl rfl rfl rfl ?_)
      exact TN_round (k + 1) (subEnv_cons rfl (subEnv_cons rfl (subEnv_cons rfl (subEnv_cons rfl (subEnv_cons rfl (subEnv_nil _)))))) ⟨hlt, Ext.then_iv (E12.ext e1217) c18 (by omega), by omega, hb518, hok18, hb218, es.set k ⟨id, body, body, .slice Ab body.length cb, .slice A2 body.length c2⟩, by rw [← upd_step _ _ _ hlt, ← hes, List.map_set, ← hxl]; rfl, hN18, hbk18⟩ (by omega)
    · obtain rfl : k = l.length := by omega
      rw [upd_all, hlq] at hes
      repeat' (first | apply Jbq | apply Jbr | apply Jbs | apply Jbt | apply Jbu | apply Jbv | apply Jbw | apply Jbx | apply Jby | apply Jbz | apply Jca | apply Jcb | apply Jcc | (refine Jcd rfl ?_) | (refine Jce rfl ?_) | (refine Jcf rfl ?_) | (apply Jcg; (first | exact Jaa rfl | exact Jab rfl | exact Jac Us.h rfl | exact Jad rfl rfl | exact Jae rfl rfl | exact Jaf rfl rfl (by omega) | exact Jag Us.h Sz.h rfl rfl (by omega) | exact Jaj rfl | exact Jaq Us.h rfl | exact Jar Us.h Sz.h rfl rfl (by omega) | (apply Jbl; exact Us.h; exact rfl; exact Sz.h; exact rfl)); exact rfl) | refine Jch rfl rfl rfl ?_ | refine Jci rfl rfl rfl rfl rfl ?_ | refine Jcj rfl rfl rfl rfl ?_ | refine Jcg (Pu_loadAgg (cs := dskC d (.slice An es0.length cn) vk (.slice none 0 0)) Us.h rfl Sz.h rfl (fun _ e j u hu => by rw [e, add0, hb512.cell]; exact hu)) rfl ?_)
      refine TL_storeAgg rfl rfl Sz.h (by show ((dskC d (.slice An es0.length cn) vk (.slice none 0 0)).all (·.oneCell')) = true; simp only [dskC, List.all_cons, List.all_nil, hok12.rd.one]; rfl) hb212 rfl ?_
      intro w13 c13 hz13 hb13
      repeat' (first | apply Jbq | apply Jbr | apply Jbs | apply Jbt | apply Jbu | apply Jbv | apply Jbw | apply Jbx | apply Jby | apply Jbz | apply Jca | apply Jcb | apply Jcc | (refine Jcd rfl ?_) | (refine Jce rfl ?_) | (refine Jcf rfl ?_) | (apply Jcg; (first | exact Jaa rfl | exact Jab rfl | exact Jac Us.h rfl | exact Jad rfl rfl | exact Jae rfl rfl | exact Jaf rfl rfl (by omega) | exact Jag Us.h Sz.h rfl rfl (by omega) | exact Jaj rfl | exact Jaq Us.h rfl | exact Jar Us.h Sz.h rfl rfl (by omega) | (apply Jbl; exact Us.h; exact rfl; exact Sz.h; exact rfl)); exact rfl) | refine Jch rfl rfl rfl ?_ | refine Jci rfl rfl rfl rfl rfl ?_ | refine Jcj rfl rfl rfl rfl ?_)
      exact TR_of (resA1 rfl rfl rfl hb13 Us.h rfl Sz.h) ⟨.slice An es0.length cn, vk, .slice none 0 0, rfl, Ext.then_iv E12 c13 (by omega), ODk.mk2 (d := calmD d) (Nat.le_refl _) hes (hN12.ch c13 (fun b hb => by have := hbk12 b hb; simp only [Iv]; omega)) (hok12.ch c13 (by intro j _ _; simp only [Iv]; omega)) rfl (fun b hb => by have := hbk12 b hb; exact ⟨by omega, by omega, fun h => by have := hokb b h; omega⟩) (by omega) (by omega)⟩
end Go.Proofs.Ytmkmphdfpghjbaa
