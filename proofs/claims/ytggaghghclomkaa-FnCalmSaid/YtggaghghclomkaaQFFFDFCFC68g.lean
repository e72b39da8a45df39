/- Texts of this proof laid together, in the order in which they build; what each proves stands ahead of it. No condition but those told there. -/
import Derived.Test.YtggaghghclomkaaQFFFDFCFC68f

/- Contracts: everything is made safe, by the program. -/
namespace Go.Proofs.Ytggaghghclomkaa
open Go.RowKit
/-! ### the plain law -/
def calmP (p : NodeP) : NodeP := (p.1, p.2.1, p.2.1)
def calmD (d : DiskP) : DiskP := { d with nodes := (onlyP d.nodes ((pDir d).map (·.id))).mapIdx (fun _ p => calmP p), kept := pDir d, turns := [] }
open Classical in
noncomputable def pCalm (d : DiskP) : DiskP × Bool := if DOk d then (calmD d, true) else (noDk, false)
open Classical in
theorem pCalm_yes {d : DiskP} (h : DOk d) : pCalm d = (calmD d, true) := by unfold pCalm; exact if_pos h
open Classical in
theorem pCalm_no {d : DiskP} (h : ¬ DOk d) : pCalm d = (noDk, false) := by unfold pCalm; exact if_neg h
theorem DOk.idB {d : DiskP} (h : DOk d) : ∀ i ∈ nIds d.nodes, -9223372036854775808 ≤ i ∧ i ≤ 9223372036854775807 := by
  intro i hi
  obtain ⟨p, hp, rfl⟩ := List.mem_map.1 hi
  obtain ⟨j, hj, rfl⟩ := List.mem_iff_getElem.1 hp
  have h1 := h.node j hj
  have hB := h.base
  unfold dBase at hB
  omega
theorem ONx.open {w : World} {v : Value} {es : List Nd} {k : Nat} (h : ONx w v es) (hk : k < es.length) : ∃ g c lo hi, v = .slice (some ⟨g, 0, none⟩) es.length c ∧ Own w lo hi 70 3 (some ⟨g, 0, none⟩) es.length c (cellsL NdC es) := by
  obtain ⟨⟨lo, hi, ⟨A, c, rfl, ho⟩, _⟩, _, _⟩ := h
  rcases ho.head with rfl | ⟨g, rfl, _, _⟩
  · obtain ⟨ad, h, _⟩ := ho.rd.at_ (by omega); cases h
  · exact ⟨g, c, lo, hi, rfl, ho⟩
theorem OBx.sl {w : World} {v : Value} {s : List UInt8} (h : OBx w v s) : ∃ A c lo hi, v = .slice A s.length c ∧ Own w lo hi 5 1 A s.length c (u8s s) := by
  obtain ⟨lo, hi, ⟨A, c, rfl, ho⟩, _⟩ := h
  exact ⟨A, c, lo, hi, rfl, ho⟩
theorem bkd_in {v : Value} {es : List Nd} {k : Nat} (hk : k < es.length) : ∀ b ∈ bkd es[k], b ∈ bksN v es := fun b hb => List.mem_append.2 (.inr (List.mem_flatMap.2 ⟨_, List.getElem_mem hk, hb⟩))
theorem onlyP_mem {l : List NodeP} {s : List Int} {p : NodeP} (h : p ∈ onlyP l s) : p ∈ l := (List.mem_filter.1 h).1
theorem onlyP_length (l : List NodeP) (s : List Int) : (onlyP l s).length ≤ l.length := List.length_filter_le _ _
theorem totNd_mapIdx : ∀ (l : List NodeP) (f : Nat → NodeP → NodeP), (∀ i p, NdW (f i p) ≤ 2 * NdM p) → totNd (l.mapIdx f) ≤ 2 * pUsed l
  | [], _, _ => by simp [totNd, pUsed]
  | p :: r, f, h => by
    have h1 := totNd_mapIdx r (fun i => f (i + 1)) (fun i p => h (i + 1) p)
    have h2 := h 0 p
    rw [List.mapIdx_cons]
    simp only [totNd, pUsed, List.map_cons, List.sum_cons] at *
    omega
theorem pUsed_only (s : List Int) : ∀ l : List NodeP, pUsed (onlyP l s) ≤ pUsed l
  | [] => Int.le_refl _
  | p :: r => by
    have h := pUsed_only s r
    have h0 : 0 ≤ NdM p := by unfold NdM; omega
    unfold onlyP at *
    rw [List.filter_cons]
    split
    · simp only [pUsed, List.map_cons, List.sum_cons] at *; omega
    · simp only [pUsed, List.map_cons, List.sum_cons] at *; omega
/-- A disk of nodes that were turned, within the room that was. -/
theorem tot_turned {d : DiskP} (h : DOk d) {L : List LkD} (h1 : L.length ≤ 8) (h2 : ∀ x ∈ L, pName x.name = true) {f : Nat → NodeP → NodeP} (hf : ∀ i p, NdW (f i p) ≤ 2 * NdM p) (a b c : Int) :
    totD ⟨a, b, c, (onlyP d.nodes (L.map (·.id))).mapIdx f, L, []⟩ ≤ 1048576 := by
  have hB := h.base
  unfold dBase at hB
  have hu := h.used
  have h3 := totNd_mapIdx (onlyP d.nodes (L.map (·.id))) f hf
  have h4 := pUsed_only (L.map (·.id)) d.nodes
  have h5 := onlyP_length d.nodes (L.map (·.id))
  have h6 := totLk_names h2
  unfold totD
  simp only [List.length_mapIdx, List.length_nil, totTn, List.map_nil, List.sum_nil]
  omega
theorem pCalm_tot {d : DiskP} : totD (pCalm d).1 ≤ 1048576 := by
  by_cases h : DOk d
  · rw [pCalm_yes h]
    have h1 := h.dirLe d.turns.length (Nat.le_refl _)
    have h2 := h.dirName d.turns.length (Nat.le_refl _)
    rw [List.take_length] at h1 h2
    exact tot_turned h h1 h2 (fun _ p => by unfold calmP NdW NdM; simp only; omega) _ _ _
  · rw [pCalm_no h, totD_no]; decide
attribute [local irreducible] TL TC TN TX TR TQ TA Pu Ret
set_option maxRecDepth 100000 in
set_option maxHeartbeats 4000000 in
theorem implDiskCalm_c {w : World} {lo hi : Nat} {d : DiskP} {sn sk st : Value} (h : RDk w lo hi d sn sk st) (hf : d.fits) (hl : totD d ≤ 1048576) :
    Ret Try.prog 18 #[.agg (dskC d sn sk st).toArray] w fun v' w' => ∃ sn' sk' st', v' = .tuple #[.agg (dskC (pCalm d).1 sn' sk' st').toArray, .bool (pCalm d).2] ∧ Ext w w' ∧ ODk w' w.heap.size w'.heap.size (pCalm d).1 sn' sk' st' := by
  have hh := h
  obtain ⟨ft1, ft2⟩ := fits_tk hf
  refine Ret_enter Try.func18 rfl rfl rfl ?_
  repeat' (first | apply Jbs | apply Jbt)
  refine TL_box (cs := dskC d sn sk st) rfl rfl ?_
  intro w1 g1 e1 hg1 hz1 hb1
  skip
  refine TL_alloc Zs.h rfl rfl ?_
  intro w2 g2 e2 hg2 hz2 hb2
  replace hb1 := hb1.ext e2
  have E2 : Ext w w2 := e1.ext e2
  repeat' (first | apply Jbq | apply Jbr | apply Jbs | apply Jbt | (apply Jcg; exact Jab rfl; exact rfl) | refine Jcg (Pu_loadAgg (cs := dskC d sn sk st) Us.h rfl Sz.h rfl (fun _ e j u hu => by rw [e, add0, hb1.cell]; exact hu)) rfl ?_)
  refine TL_call rfl en11 (implDiskOk_c (hh.ext E2) hf hl) rfl rfl ?_
  rintro _ w3 ⟨rfl, e3⟩
  replace hb1 := hb1.ext e3
  replace hb2 := hb2.ext e3
  have hs3 := e3.size
  have E3 := E2.ext e3
  cases hp : pDOk d with
  | false =>
    rw [pCalm_no (fun h => by rw [pDOk_yes h] at hp; cases hp)]
    repeat' (first | apply Jbq | apply Jbr | apply Jbs | apply Jbt | (refine Jce rfl ?_) | (apply Jcg; exact Jaj rfl; exact rfl) | refine Jcg (Pu_build (cs := dskC noDk (.slice none 0 0) (.slice none 0 0) (.slice none 0 0)) rfl (by kernel_rfl)) rfl ?_)
    refine TL_storeAgg rfl rfl Sz.h rfl hb2 rfl ?_
    intro w8 c8 hz8 hb8
    have E8 : Ext w w8 := Ext.then_iv E3 c8 (by omega)
    repeat' (first | apply Jbq | apply Jbr | apply Jbu | apply Jbv | (apply Jcg; exact Jab rfl; exact rfl))
    exact TR_of (resA1 rfl rfl rfl hb8 Us.h rfl Sz.h) ⟨_, _, _, rfl, E8, ODk.nil (Nat.le_refl _)⟩
  | true =>
    have hD := pDOk_of hp
    have hB := hD.base
    unfold dBase at hB
    rw [pCalm_yes hD]
    repeat' (first | apply Jbq | apply Jbr | apply Jbs | apply Jbt | apply Jbz | (refine Jcf rfl ?_) | (apply Jcg; exact Jaj rfl; exact rfl) | refine Jcg (Pu_loadAgg (cs := dskC d sn sk st) Us.h rfl Sz.h rfl (fun _ e j u hu => by rw [e, add0, hb1.cell]; exact hu)) rfl ?_)
    refine TL_call rfl en28 (implcopyDisk_c (hh.ext E3) hl) rfl rfl ?_
    rintro _ w4 ⟨sn1, sk1, st1, rfl, e4, hx⟩
    replace hb1 := hb1.ext e4
    replace hb2 := hb2.ext e4
    have hs4 := e4.size
    have E4 := E3.ext e4
    have hone := hx.one
    skip
    refine TL_alloc Zs.h rfl rfl ?_
    intro w5 g5 e5 hg5 hz5 hb5
    replace hb1 := hb1.ext e5
    replace hb2 := hb2.ext e5
    replace hx := hx.ext e5
    skip
    refine TL_storeAgg rfl rfl Sz.h hone hb5 rfl ?_
    clear hb5
    intro w6 c6 hz6 hb5
    replace hb1 := hb1.ch c6 (by simp only [Iv]; omega)
    replace hb2 := hb2.ch c6 (by simp only [Iv]; omega)
    replace hx := hx.ch c6 (by intro k _ _; simp only [Iv]; omega)
    have E6 : Ext w w6 := Ext.then_iv (E4.ext e5) c6 (by have := E4.size; omega)
    repeat' (first | apply Jbq | apply Jbr | apply Jbs | apply Jbt | (apply Jcg; (apply Jbl; exact Us.h; exact rfl; exact Sz.h; exact rfl); exact rfl) | refine Jcg (Pu_load Fl.h rfl (fun _ e => by rw [e]; exact hb1.ld rfl)) rfl ?_)
    refine TL_call rfl en30 (dirOf_c (hh.2.1.ext E6) (hh.2.2.ext E6) (kept_asc ((dok_iff d).1 hD).link) (by omega) (by omega) ft1 ft2) rfl rfl ?_
    rintro _ w7 ⟨e7, hq⟩
    rcases hq with ⟨_, b, kb, rfl, _, _, hM⟩ | ⟨hA, _⟩
    case inr => exact absurd ((dok_iff d).1 hD).turn hA
    have hs7 := e7.size
    have E7 := E6.ext e7
    have hb57 := hb5.ext e7
    have hdir := hD.dirLe d.turns.length (Nat.le_refl _)
    have hids := hD.dirIds d.turns.length (Nat.le_refl _)
    have hasc := hD.asc d.turns.length (Nat.le_refl _)
    rw [List.take_length, show runT d.kept d.turns = pDir d from rfl] at hdir hids hasc
    rw [show runT d.kept d.turns = pDir d from rfl] at hM
    repeat' (first | apply Jbq | apply Jbr | apply Jbs | apply Jbt | (apply Jcg; (first | exact Jaa rfl | exact Jab rfl | exact Jae rfl rfl); exact rfl))
    refine TL_call rfl en34 (links_c hM hasc (by omega)) rfl rfl ?_
    rintro vk w8 ⟨e8, hok⟩
    have hs8 := e8.size
    have E8 := E7.ext e8
    have hb58 := hb57.ext e8
    have hx8 := hx.ext (e7.ext e8)
    obtain ⟨_, ds, hmap, hN, hrk, hrt, hnd, hin⟩ := hx8
    have hinN : ∀ b ∈ bksN sn1 ds, w3.heap.size ≤ b ∧ b < w4.heap.size := fun b hb => hin b (List.mem_append.2 (.inl hb))
    obtain ⟨A1, c1, rfl, hc1, hr1⟩ := hN.row.rr (fun b hb => hinN b (List.mem_append.2 (.inl hb))) (by omega)
    have hdl : ds.length = d.nodes.length := by rw [← hmap, List.length_map]
    skip
    refine TL_call rfl en33 (only_c hb58 hr1 (fun x hx => by obtain ⟨h1, h2⟩ := hN.ok x hx; obtain ⟨A, c, _, _, h3, _⟩ := h1.sl; obtain ⟨A', c', _, _, h4, _⟩ := h2.sl; exact ⟨⟨A, _, c, h3⟩, ⟨A', _, c', h4⟩⟩) hok.rd (by omega) (by omega) (fun x hx => hD.idB _ (hids x hx))
      (fun x hx => hD.idB _ (by rw [← hmap]; unfold nIds; rw [List.map_map]; exact List.mem_map.2 ⟨x, hx, rfl⟩))) rfl rfl ?_
    rintro _ w9 ⟨rfl, c9, vn, hb9, hon⟩
    have hs9 := c9.size
    have hokb := hok.bin
    have hN9 : ONx w9 vn (only ds ((pDir d).map (·.id))) := hN.keep hon c9 (fun b hb => by have := hinN b hb; simp only [Iv]; omega) (fun b hb => by have := hinN b hb; omega)
    have hbk9 : ∀ b ∈ bksN vn (only ds ((pDir d).map (·.id))), w3.heap.size ≤ b ∧ b < w9.heap.size ∧ (b < w7.heap.size ∨ w8.heap.size ≤ b) ∧ b ≠ g5 := fun b hb => by
      have h1 := bks_keep hon hinN b hb
      exact ⟨by omega, by omega, by omega, by omega⟩
    replace hok := hok.ch c9 (by intro k _ _; simp only [Iv]; omega)
    have E9 : Ext w w9 := Ext.then_iv E8 c9 (by have := E4.size; omega)
    replace hb2 := ((hb2.ext e7).ext e8).ch c9 (by simp only [Iv]; omega)
    obtain ⟨l, hlq⟩ : ∃ l, l = onlyP d.nodes ((pDir d).map (·.id)) := ⟨_, rfl⟩
    have hmap9 : (only ds ((pDir d).map (·.id))).map NdP = l := by rw [only_map, hmap, hlq]
    obtain ⟨es0, hes0⟩ : ∃ es0, es0 = only ds ((pDir d).map (·.id)) := ⟨_, rfl⟩
    rw [← hes0] at hmap9 hN9 hbk9 hon
    have hl8 : l.length ≤ 8 := by rw [hlq]; have := onlyP_length d.nodes ((pDir d).map (·.id)); omega
    have hlen0 : es0.length = l.length := by rw [← hmap9, List.length_map]
    obtain ⟨An, cn, rfl, hown⟩ := hon
    clear hown hr1 hrk hrt hN hmap hnd hin hM hb1
    repeat' (first | apply Jbq | apply Jbr | apply Jbs | apply Jbt | apply Jby | (apply Jcg; (first | exact Jaa rfl | exact Jac Us.h rfl | (apply Jbl; exact Us.h; exact rfl; exact Sz.h; exact rfl)); exact rfl) | refine Jcg (Pu_load Fl.h rfl (fun _ e => by rw [e]; exact hb9.ld rfl)) rfl ?_)
    refine TC_loop (ι := Nat) (fun k => [(2, .pointer (some ⟨g2, 0, none⟩)), (4, .pointer (some ⟨g5, 0, none⟩)), (27, I es0.length), (28, I k)])
      (fun k w' => k ≤ l.length ∧ Ext w w' ∧ w9.heap.size ≤ w'.heap.size ∧ Blk w' g5 27 (dskC d (.slice An es0.length cn) vk (.slice none 0 0)) ∧ RowO LkC 47 2 w' w7.heap.size w8.heap.size vk (pDir d) ∧ Blk w' g2 27 (dskC noDk (.slice none 0 0) (.slice none 0 0) (.slice none 0 0)) ∧
        ∃ es, es.map NdP = (l.take k).mapIdx (fun _ p => calmP p) ++ l.drop k ∧ ONx w' (.slice An es0.length cn) es ∧ ∀ b ∈ bksN (.slice An es0.length cn) es, w3.heap.size ≤ b ∧ b < w'.heap.size ∧ (b < w7.heap.size ∨ w8.heap.size ≤ b) ∧ b ≠ g5) (fun k => l.length - k) 0
      (subEnv_cons rfl (subEnv_cons rfl (subEnv_cons rfl (subEnv_cons rfl (subEnv_nil _))))) ⟨Nat.zero_le _, E9, Nat.le_refl _, hb9, hok, hb2, es0, by rw [hmap9]; simp, hN9, hbk9⟩ ?_
    rintro k w10 ⟨hk10, E10, hs10, hb510, hok10, hb210, es, hes, hN10, hbk10⟩
    repeat' (first | apply Jbq | apply Jbr | apply Jbs | apply Jbt | (apply Jcg; exact Jad rfl rfl; exact rfl))
    refine Jcx rfl (fun hlt0 => ?_) (fun hge => ?_)
    · have hlt : k < l.length := by omega
      have hel : es.length = l.length := by
        have := congrArg List.length hes
        rw [List.length_map, List.length_append, List.length_mapIdx, List.length_take, List.length_drop] at this
        omega
      have hke : k < es.length := by omega
      obtain ⟨gN, cN, loN, hiN, hvN, hownN⟩ := hN10.open hke
      injection hvN with hv1 hv2 hv3
      subst hv1 hv3
      have hgN := hbk10 gN (List.mem_append.2 (.inl (List.mem_singleton.2 rfl)))
      obtain ⟨x, hx⟩ : ∃ x, x = es[k] := ⟨_, rfl⟩
      have hok2 := hN10.ok es[k] (List.getElem_mem hke)
      have hbx := bkd_in (v := .slice (some ⟨gN, 0, none⟩) es0.length cn) hke
      rw [← hx] at hok2 hbx
      have hxl : NdP x = l[k] := by
        have h1 := upd_get (fun _ p => calmP p) l k hlt
        rw [← hes, List.getElem?_map, List.getElem?_eq_getElem hke, ← hx] at h1
        injection h1
      obtain ⟨id, body, safe, vb, vs⟩ := x
      obtain ⟨hokB, hokS⟩ := hok2
      simp only at hokB hokS
      obtain ⟨Ab, cb, lob, hib, rfl, hownB⟩ := hokB.sl
      have hbl : body.length ≤ 1048576 := by
        have h1 : (id, body, safe) ∈ d.nodes := by
          have h2 : l[k] ∈ l := List.getElem_mem hlt
          rw [← hxl, hlq] at h2
          exact onlyP_mem h2
        have h3 := totNd_mem h1
        have h4 := (totD_parts hl).1
        unfold NdW at h3
        simp only at h3
        omega
      have hcb : w10.cell? ((⟨gN, 0, none⟩ : Addr).add (k * 3) |>.add 1) = some (.slice Ab body.length cb) := by
        rw [add_lit3, hownN.row.cellAt (k * 3 + 1) (by omega), cellsL_at NdC_len es k 1 hke (by omega), ← hx]; rfl
      repeat' (first | apply Jbq | apply Jbr | apply Jbs | apply Jbt | apply Jby | apply Jbz | (apply Jcg; (first | exact Jaa rfl | exact Jab rfl); exact rfl))
      refine TC_anyS (fun w' => Ch (Iv gN (gN + 1)) w10 w' ∧ w'.cell? ((⟨gN, 0, none⟩ : Addr).add (k * 3) |>.add 1) = some (.slice Ab body.length cb)) mixed rfl ⟨(Ch.refl _ _).drew, hcb⟩ ?_
      intro w11 e11 hz11 hE
      (refine Jco 0 rfl (by kernel_rfl) (by kernel_rfl) (by kernel_rfl) (fun _ _ _ h => h) hE (by (apply Jbl; exact Us.h; exact rfl; exact Sz.h; exact rfl)) rfl ?_; refine Jco 1 rfl (by kernel_rfl) (by kernel_rfl) (by kernel_rfl) (fun _ _ _ h => h) hE (by exact Pu_load Fl.h rfl (fun _ e => e.1.cell (hb510.ld rfl) (by rw [block_of_add]; simp only [Iv]; omega))) rfl ?_; refine Jco 2 rfl (by kernel_rfl) (by kernel_rfl) (by kernel_rfl) (fun _ _ _ h => h) hE (by exact Jaa rfl) rfl ?_; refine Jco 3 rfl (by kernel_rfl) (by kernel_rfl) (by kernel_rfl) (fun _ _ _ h => h) hE (by (apply Jbl; exact Us.h; exact rfl; exact Sz.h; exact rfl)) rfl ?_; refine Jco 4 rfl (by kernel_rfl) (by kernel_rfl) (by kernel_rfl) (fun _ _ _ h => h) hE (by exact Pu_load Fl.h rfl (fun _ e => e.1.cell (hb510.ld rfl) (by rw [block_of_add]; simp only [Iv]; omega))) rfl ?_; refine Jco 5 rfl (by kernel_rfl) (by kernel_rfl) (by kernel_rfl) (fun _ _ _ h => h) hE (by exact Jaa rfl) rfl ?_; refine Jco 6 rfl (by kernel_rfl) (by kernel_rfl) (by kernel_rfl) (fun _ _ _ h => h) hE (by exact Jar Us.h Sz.h rfl rfl (by omega)) rfl ?_; refine Jco 7 rfl (by kernel_rfl) (by kernel_rfl) (by kernel_rfl) (fun _ _ _ h => h) hE (by (apply Jbl; exact Us.h; exact rfl; exact Sz.h; exact rfl)) rfl ?_; refine Jco 8 rfl (by kernel_rfl) (by kernel_rfl) (by kernel_rfl) (fun _ _ _ h => h) hE (by exact Pu_load Fl.h rfl (fun _ e => e.2)) rfl ?_)
      refine TA_one 9 (by kernel_rfl) rfl ?_
      refine TL_call rfl en32 (copyBytes_c (hownB.ext e11).rd (by omega)) rfl rfl ?_
      rintro _ w12 ⟨A2, c2, rfl, e12, ho2⟩
      have hE12 := hE.1.ext e12
      have hc12 := e12.cell hE.2
      clear hE
      have hE : Ch (Iv gN (gN + 1)) w10 w12 ∧ w12.cell? ((⟨gN, 0, none⟩ : Addr).add (k * 3) |>.add 1) = some (.slice Ab body.length cb) := ⟨hE12, hc12⟩
      refine Jbq (TN_any hE ?_)
      (refine Jco 10 rfl (by kernel_rfl) (by kernel_rfl) (by kernel_rfl) (fun _ _ _ h => h) hE (by exact Jar Us.h Sz.h rfl rfl (by omega)) rfl ?_; refine Jco 11 rfl (by kernel_rfl) (by kernel_rfl) (by kernel_rfl) (fun _ _ _ h => h) hE (by (apply Jbl; exact Us.h; exact rfl; exact Sz.h; exact rfl)) rfl ?_)
      refine TA_one 12 (by kernel_rfl) rfl ?_
      have e1012 := e11.ext e12
      refine TL_storeOwn rfl (add_lit3 gN (k * 3) 2) rfl Sz.h rfl (hownN.ext e1012) (by omega) ?_
      intro w13 c13 hz13 hown13
      have hs11 := e11.size
      have hs12 := e12.size
      have hx' : es[k] = ⟨id, body, safe, .slice Ab body.length cb, vs⟩ := hx.symm
      rw [cells_safe (s := body) hke hx'] at hown13
      have hlset : (es.set k ⟨id, body, body, .slice Ab body.length cb, .slice A2 body.length c2⟩).length = es0.length := by rw [List.length_set]; omega
      have hc13 : w13.cell? ((⟨gN, 0, none⟩ : Addr).add (k * 3) |>.add 1) = some (.slice Ab body.length cb) := by
        rw [add_lit3, hown13.row.cellAt (k * 3 + 1) (by omega), cellsL_at NdC_len _ k 1 (by rw [List.length_set]; omega) (by omega), List.getElem_set_self]; rfl
      refine Jbq (TN_any ⟨hE12.then c13, hc13⟩ ?_)
      refine TA_done (by kernel_rfl) ?_
      have hN13 := ONx.set (x' := ⟨id, body, body, .slice Ab body.length cb, .slice A2 body.length c2⟩) hke (hN10.ext e1012) c13 ⟨_, _, by rw [hlset], by rw [hlset, ← hel.trans hlen0.symm]; exact hown13⟩ ⟨hokB.ext e1012, OB.x ⟨A2, c2, rfl, ho2⟩⟩
        (by
          show (blk _ ++ blk _).Nodup
          rw [List.nodup_append]
          exact ⟨blk_nodup _, blk_nodup _, fun a ha b hb e => by
            have h1 := hbk10 a (hbx a (List.mem_append.2 (.inl ha)))
            have h2 := (OB.bin (v := .slice A2 body.length c2) ⟨A2, c2, rfl, ho2⟩) b hb
            omega⟩)
        (fun b hb => by
          rcases List.mem_append.1 hb with hb | hb
          · left; rw [hx']; exact List.mem_append.2 (.inl hb)
          · right; intro h; have h1 := hbk10 b h; have h2 := (OB.bin (v := .slice A2 body.length c2) ⟨A2, c2, rfl, ho2⟩) b hb; omega)
      have hbk13 := bks_set (R := fun b => w3.heap.size ≤ b ∧ b < w13.heap.size ∧ (b < w7.heap.size ∨ w8.heap.size ≤ b) ∧ b ≠ g5) (v := .slice (some ⟨gN, 0, none⟩) es0.length cn) (es := es) (k := k) (x' := ⟨id, body, body, .slice Ab body.length cb, .slice A2 body.length c2⟩) (fun b hb => by have := hbk10 b hb; exact ⟨this.1, by omega, this.2.2⟩)
        (fun b hb => by
          rcases List.mem_append.1 hb with hb | hb
          · have := hbk10 b (hbx b (List.mem_append.2 (.inl hb))); exact ⟨this.1, by omega, this.2.2⟩
          · have h2 := (OB.bin (v := .slice A2 body.length c2) ⟨A2, c2, rfl, ho2⟩) b hb
            exact ⟨by omega, by omega, by omega, by omega⟩)
      have hb513 := (hb510.ext e1012).ch c13 (by simp only [Iv]; omega)
      have hb213 := (hb210.ext e1012).ch c13 (by simp only [Iv]; omega)
      have hok13 := (hok10.ext e1012).ch c13 (by intro j h1 h2; simp only [Iv]; omega)
      repeat' (first | apply Jbq | apply Jbr | apply Jbt | apply Jbx | (apply Jcg; (first | exact Jaa rfl | exact Jaf rfl rfl (by omega)); exact rfl))
      exact TN_round (k + 1) (subEnv_cons rfl (subEnv_cons rfl (subEnv_cons rfl (subEnv_cons rfl (subEnv_nil _))))) ⟨hlt, Ext.then_iv (E10.ext e1012) c13 (by omega), by omega, hb513, hok13, hb213, es.set k ⟨id, body, body, .slice Ab body.length cb, .slice A2 body.length c2⟩, by rw [← upd_step _ _ _ hlt, ← hes, List.map_set, ← hxl]; rfl, hN13, hbk13⟩ (by omega)
    · obtain rfl : k = l.length := by omega
      rw [upd_all, hlq] at hes
      repeat' (first | apply Jbr | apply Jbs | apply Jbt | apply Jca | apply Jcb | apply Jcc | refine Jcg (Pu_loadAgg (cs := dskC d (.slice An es0.length cn) vk (.slice none 0 0)) Us.h rfl Sz.h rfl (fun _ e j u hu => by rw [e, add0, hb510.cell]; exact hu)) rfl ?_)
      refine TL_storeAgg rfl rfl Sz.h (by show ((dskC d (.slice An es0.length cn) vk (.slice none 0 0)).all (·.oneCell')) = true; simp only [dskC, List.all_cons, List.all_nil, hok10.rd.one]; rfl) hb210 rfl ?_
      intro w11 c11 hz11 hb11
      repeat' (first | apply Jbq | apply Jbr | apply Jbu | (apply Jcg; exact Jab rfl; exact rfl))
      exact TR_of (resA1 rfl rfl rfl hb11 Us.h rfl Sz.h) ⟨.slice An es0.length cn, vk, .slice none 0 0, rfl, Ext.then_iv E10 c11 (by omega), ODk.mk2 (d := calmD d) (Nat.le_refl _) hes (hN10.ch c11 (fun b hb => by have := hbk10 b hb; simp only [Iv]; omega)) (hok10.ch c11 (by intro j _ _; simp only [Iv]; omega)) rfl (fun b hb => by have := hbk10 b hb; exact ⟨by omega, by omega, fun h => by have := hokb b h; omega⟩) (by omega) (by omega)⟩
theorem pIds_flat (d : DiskP) (L : List LkD) : pIds { d with kept := L, turns := [] } = L.map (·.id) := by simp [pIds]
end Go.Proofs.Ytggaghghclomkaa

/- What an operation makes of a disk: the plain law. No condition. -/
namespace Go.Proofs.Ytggaghghclomkaa
open Go.RowKit
/-- Where the node of an operation's name stands. -/
def opAt (d : DiskP) (o : OpD) : Int := nAt d.nodes (dFind (pDir d) o.name)
def pCode (d : DiskP) (o : OpD) : Int :=
  if d.fuse = 0 then 2
  else if o.kind ≠ 7 ∧ dHas (pDir d) o.name = decide (o.kind = 1) then 3
  else if (o.kind = 1 ∧ (8 ≤ d.nodes.length ∨ 1000000 ≤ d.next)) ∨ ((o.kind = 1 ∨ o.kind = 5 ∨ o.kind = 6) ∧ 40 ≤ d.turns.length) then 4
  else if o.kind = 4 ∧ ((bodyAt d (opAt d o)).length : Int) < o.size then 6
  else if o.kind = 5 ∧ o.to = o.name then 6
  else 0
def fuseOf (d : DiskP) : Int := if 0 < d.fuse then d.fuse - 1 else d.fuse
def ndAt (d : DiskP) (o : OpD) : NodeP := d.nodes.getD (opAt d o).toNat (0, [], [])
def ndPut (d : DiskP) (o : OpD) (p : NodeP) : List NodeP := d.nodes.set (opAt d o).toNat p
/-- How many bytes still fit. -/
def fitsN (d : DiskP) (o : OpD) : Int := min (NdM (ndAt d o) + d.room - pUsed d.nodes - (ndAt d o).2.1.length) o.data.length
def doD (d : DiskP) (o : OpD) : DiskP :=
  if o.kind = 1 then { d with fuse := fuseOf d, next := d.next + 1, nodes := d.nodes ++ [(d.next, [], [])], turns := d.turns ++ [⟨1, o.name, [], d.next⟩] }
  else if o.kind = 2 then { d with fuse := fuseOf d, nodes := ndPut d o ((ndAt d o).1, (ndAt d o).2.1 ++ o.data.take (fitsN d o).toNat, (ndAt d o).2.2) }
  else if o.kind = 3 then { d with fuse := fuseOf d, nodes := ndPut d o ((ndAt d o).1, (ndAt d o).2.1, (ndAt d o).2.1) }
  else if o.kind = 4 then { d with fuse := fuseOf d, nodes := ndPut d o ((ndAt d o).1, (ndAt d o).2.1.take o.size.toNat, (ndAt d o).2.2) }
  else if o.kind = 7 then { d with fuse := fuseOf d, nodes := onlyP d.nodes ((pDir d).map (·.id)), kept := pDir d, turns := [] }
  else { d with fuse := fuseOf d, turns := d.turns ++ [⟨o.kind, o.name, o.to, 0⟩] }
def doC (d : DiskP) (o : OpD) : Int := if o.kind = 2 ∧ fitsN d o < o.data.length then 5 else 0
open Classical in
noncomputable def pDo (d : DiskP) (o : OpD) : DiskP × Int :=
  if DOk d ∧ pOp o = true then (if pCode d o = 0 then (doD d o, doC d o) else (d, pCode d o)) else (noDk, 1)
theorem pDo_no {d : DiskP} {o : OpD} (h : ¬ (DOk d ∧ pOp o = true)) : pDo d o = (noDk, 1) := by unfold pDo; exact if_neg h
theorem pDo_code {d : DiskP} {o : OpD} (h : DOk d) (h2 : pOp o = true) (h3 : pCode d o ≠ 0) : pDo d o = (d, pCode d o) := by unfold pDo; rw [if_pos ⟨h, h2⟩, if_neg h3]
theorem pDo_yes {d : DiskP} {o : OpD} (h : DOk d) (h2 : pOp o = true) (h3 : pCode d o = 0) : pDo d o = (doD d o, doC d o) := by unfold pDo; rw [if_pos ⟨h, h2⟩, if_pos h3]
theorem pOp_parts {o : OpD} (h : pOp o = true) : (1 ≤ o.kind ∧ o.kind ≤ 7) ∧ (o.kind = 7 → o.name = []) ∧ (o.kind ≠ 7 → pName o.name = true) ∧ (o.kind = 5 → pName o.to = true) ∧ (o.kind ≠ 5 → o.to = []) ∧ (o.kind = 4 → 0 ≤ o.size ∧ o.size ≤ 60000) ∧ (o.kind ≠ 4 → o.size = 0) ∧ o.data.length ≤ 60000 ∧ (o.kind ≠ 2 → o.data = []) := by
  unfold pOp at h
  simp only [Bool.and_eq_true, decide_eq_true_eq] at h
  obtain ⟨⟨⟨⟨h1, h2⟩, h3⟩, h4⟩, h5, h6⟩ := h
  refine ⟨h1, fun e => ?_, fun e => ?_, fun e => ?_, fun e => ?_, fun e => ?_, fun e => ?_, h5, fun e => ?_⟩
  · rw [if_pos e] at h2; simpa using h2
  · rw [if_neg e] at h2; exact h2
  · rw [if_pos e] at h3; exact h3
  · rw [if_neg e] at h3; simpa using h3
  · rw [if_pos e] at h4; simpa using h4
  · rw [if_neg e] at h4; simpa using h4
  · exact List.eq_nil_of_length_eq_zero (h6.resolve_left e)
/-- A directory has no nameless link. -/
theorem DOk.noName {d : DiskP} (h : DOk d) : dHas (pDir d) [] = false := by
  cases hh : dHas (pDir d) [] with
  | false => rfl
  | true =>
    obtain ⟨x, hx, he, _⟩ := dFind_mem hh
    have h1 := h.dirName d.turns.length (Nat.le_refl _)
    rw [List.take_length] at h1
    have h2 := h1 x hx
    rw [he] at h2
    cases h2
theorem DOk.at0 {d : DiskP} (h : DOk d) : nAt d.nodes 0 = -1 := nAt_none (fun hm => by have := nIds_pos h.node 0 hm; omega)
/-- Where there is a link there is its node. -/
theorem DOk.opNode {d : DiskP} (h : DOk d) {o : OpD} (hh : dHas (pDir d) o.name = true) : ∃ i, ∃ hi : i < d.nodes.length, opAt d o = (i : Int) ∧ ndAt d o = d.nodes[i] := by
  obtain ⟨i, hi, h1, _⟩ := h.dirAt hh
  refine ⟨i, hi, h1, ?_⟩
  unfold ndAt opAt
  rw [h1, Int.toNat_natCast, List.getD_eq_getElem?_getD, List.getElem?_eq_getElem hi]
  rfl
theorem DOk.opNone {d : DiskP} (h : DOk d) {o : OpD} (hh : dHas (pDir d) o.name = false) : opAt d o = -1 := by
  unfold opAt
  rw [dFind_none hh]
  exact h.at0
/-- Where the code is nought, just an operation of a known name has its link. -/
theorem pCode_has {d : DiskP} {o : OpD} (h : pCode d o = 0) : d.fuse ≠ 0 ∧ (o.kind ≠ 7 → dHas (pDir d) o.name = !decide (o.kind = 1)) ∧ (o.kind = 1 → d.nodes.length < 8 ∧ d.next < 1000000) ∧ ((o.kind = 1 ∨ o.kind = 5 ∨ o.kind = 6) → d.turns.length < 40) ∧ (o.kind = 4 → o.size ≤ ((bodyAt d (opAt d o)).length : Int)) ∧ (o.kind = 5 → o.to ≠ o.name) := by
  unfold pCode at h
  split at h
  · omega
  · rename_i h1
    split at h
    · omega
    · rename_i h2
      split at h
      · omega
      · rename_i h3
        split at h
        · omega
        · rename_i h4
          split at h
          · omega
          · rename_i h5
            refine ⟨h1, fun e => ?_, fun e => ?_, fun e => ?_, fun e => ?_, fun e e2 => h5 ⟨e, e2⟩⟩
            · cases hh : dHas (pDir d) o.name <;> by_cases e1 : o.kind = 1 <;> simp [hh, e1, e] at h2 ⊢
            · refine ⟨?_, ?_⟩
              · rcases Nat.lt_or_ge d.nodes.length 8 with h | h
                · exact h
                · exact absurd (.inl ⟨e, .inl h⟩) h3
              · rcases Int.lt_or_le d.next 1000000 with h | h
                · exact h
                · exact absurd (.inl ⟨e, .inr h⟩) h3
            · rcases Nat.lt_or_ge d.turns.length 40 with h | h
              · exact h
              · exact absurd (.inr ⟨e, h⟩) h3
            · rcases Int.lt_or_le ((bodyAt d (opAt d o)).length : Int) o.size with h | h
              · exact absurd ⟨e, h⟩ h4
              · exact h
/-! ### the code, kind by kind -/
section
variable {d : DiskP} {o : OpD}
theorem pCode_1 (h : o.kind = 1) : pCode d o = if d.fuse = 0 then 2 else if dHas (pDir d) o.name = true then 3 else if 8 ≤ d.nodes.length ∨ 1000000 ≤ d.next ∨ 40 ≤ d.turns.length then 4 else 0 := by
  unfold pCode
  simp only [h]
  cases dHas (pDir d) o.name <;> by_cases h1 : d.fuse = 0 <;> by_cases h2 : 8 ≤ d.nodes.length <;> by_cases h3 : 1000000 ≤ d.next <;> by_cases h4 : 40 ≤ d.turns.length <;> simp [h1, h2, h3, h4]
theorem pCode_23 (h : o.kind = 2 ∨ o.kind = 3) : pCode d o = if d.fuse = 0 then 2 else if dHas (pDir d) o.name = false then 3 else 0 := by
  unfold pCode
  rcases h with h | h <;> simp only [h] <;> cases dHas (pDir d) o.name <;> by_cases h1 : d.fuse = 0 <;> simp [h1]
theorem pCode_4 (h : o.kind = 4) : pCode d o = if d.fuse = 0 then 2 else if dHas (pDir d) o.name = false then 3 else if ((bodyAt d (opAt d o)).length : Int) < o.size then 6 else 0 := by
  unfold pCode
  simp only [h]
  cases dHas (pDir d) o.name <;> by_cases h1 : d.fuse = 0 <;> by_cases h2 : ((bodyAt d (opAt d o)).length : Int) < o.size <;> simp [h1, h2]
theorem pCode_5 (h : o.kind = 5) : pCode d o = if d.fuse = 0 then 2 else if dHas (pDir d) o.name = false then 3 else if 40 ≤ d.turns.length then 4 else if o.to = o.name then 6 else 0 := by
  unfold pCode
  simp only [h]
  cases dHas (pDir d) o.name <;> by_cases h1 : d.fuse = 0 <;> by_cases h4 : 40 ≤ d.turns.length <;> by_cases h2 : o.to = o.name <;> simp [h1, h2, h4]
theorem pCode_6 (h : o.kind = 6) : pCode d o = if d.fuse = 0 then 2 else if dHas (pDir d) o.name = false then 3 else if 40 ≤ d.turns.length then 4 else 0 := by
  unfold pCode
  simp only [h]
  cases dHas (pDir d) o.name <;> by_cases h1 : d.fuse = 0 <;> by_cases h4 : 40 ≤ d.turns.length <;> simp [h1, h4]
theorem pCode_7 (h : o.kind = 7) : pCode d o = if d.fuse = 0 then 2 else 0 := by
  unfold pCode
  simp only [h]
  by_cases h1 : d.fuse = 0 <;> simp [h1]
end
end Go.Proofs.Ytggaghghclomkaa

/- What a call owns of a disk, part by part; lookups of a name. No condition. -/
namespace Go.Proofs.Ytggaghghclomkaa
open Go.RowKit
theorem ODk.parts {w : World} {lo hi : Nat} {d : DiskP} {sn sk st : Value} (h : ODk w lo hi d sn sk st) : ∃ es : List Nd, es.map NdP = d.nodes ∧ ONx w sn es ∧ RowOx LkC 47 2 w sk d.kept ∧ RowOx TnC 72 4 w st d.turns ∧
    (∀ b ∈ bksN sn es, lo ≤ b ∧ b < hi ∧ b ∉ blk sk ∧ b ∉ blk st) ∧ (∀ b ∈ blk sk, lo ≤ b ∧ b < hi ∧ b ∉ blk st) ∧ ∀ b ∈ blk st, lo ≤ b ∧ b < hi := by
  obtain ⟨_, es, h1, h2, h3, h4, h5, h6⟩ := h
  obtain ⟨a1, a2⟩ := app3 h5
  refine ⟨es, h1, h2, h3, h4, fun b hb => ?_, fun b hb => ?_, fun b hb => ?_⟩
  · have := h6 b (List.mem_append.2 (.inl hb)); exact ⟨this.1, this.2, (a1 b hb).1, (a1 b hb).2⟩
  · have := h6 b (List.mem_append.2 (.inr (List.mem_append.2 (.inl hb)))); exact ⟨this.1, this.2, a2 b hb⟩
  · exact h6 b (List.mem_append.2 (.inr (List.mem_append.2 (.inr hb))))
theorem ODk.mk3 {w : World} {lo hi : Nat} {d : DiskP} {sn sk st : Value} {es : List Nd} (hs : hi ≤ w.heap.size) (hm : es.map NdP = d.nodes) (hN : ONx w sn es) (hk : RowOx LkC 47 2 w sk d.kept) (ht : RowOx TnC 72 4 w st d.turns)
    (h1 : ∀ b ∈ bksN sn es, lo ≤ b ∧ b < hi ∧ b ∉ blk sk ∧ b ∉ blk st) (h2 : ∀ b ∈ blk sk, lo ≤ b ∧ b < hi ∧ b ∉ blk st) (h3 : ∀ b ∈ blk st, lo ≤ b ∧ b < hi) : ODk w lo hi d sn sk st := by
  refine ⟨hs, es, hm, hN, hk, ht, ?_, fun b hb => ?_⟩
  · rw [List.nodup_append, List.nodup_append]
    refine ⟨hN.nd, ⟨blk_nodup _, blk_nodup _, fun a ha b hb e => (h2 a ha).2.2 (e ▸ hb)⟩, fun a ha b hb e => ?_⟩
    subst e
    rcases List.mem_append.1 hb with hb | hb
    · exact (h1 a ha).2.2.1 hb
    · exact (h1 a ha).2.2.2 hb
  · rcases List.mem_append.1 hb with hb | hb
    · exact ⟨(h1 b hb).1, (h1 b hb).2.1⟩
    · rcases List.mem_append.1 hb with hb | hb
      · exact ⟨(h2 b hb).1, (h2 b hb).2.1⟩
      · exact h3 b hb
/-- One node is put while others stay. -/
theorem ONx.set2 {w w' : World} {g n c lo hi k : Nat} {es : List Nd} {x' : Nd} {T : Nat → Prop} (hk : k < es.length) (h : ONx w (.slice (some ⟨g, 0, none⟩) n c) es) (hch : Ch T w w') (hT : ∀ j, T j → j = g ∨ j ∈ bkd es[k]) (hrow : RowO NdC 70 3 w' lo hi (.slice (some ⟨g, 0, none⟩) n c) (es.set k x'))
    (hx : OBx w' x'.vb x'.body ∧ OBx w' x'.vs x'.safe) (hn : (bkd x').Nodup) (hap : ∀ b ∈ bkd x', b ∈ bkd es[k] ∨ b ∉ bksN (.slice (some ⟨g, 0, none⟩) n c) es) : ONx w' (.slice (some ⟨g, 0, none⟩) n c) (es.set k x') := by
  have hnd := h.nd
  have hself := nodes_self hk
  have hg : bksN (.slice (some ⟨g, 0, none⟩) n c) es = g :: es.flatMap bkd := rfl
  rw [hg] at hnd hap
  have hnd2 := hnd
  rw [hself, List.flatMap_append, List.flatMap_cons, List.nodup_cons, List.nodup_append, List.nodup_append] at hnd2
  obtain ⟨hgn, hM, ⟨hX, hD, hXD⟩, hMX⟩ := hnd2
  have hgm : ∀ d ∈ es, g ∉ bkd d := fun d hd hb => (List.nodup_cons.1 hnd).1 (List.mem_flatMap.2 ⟨d, hd, hb⟩)
  have hgx : g ∉ bkd x' := fun hb => by
    rcases hap g hb with h1 | h1
    · exact hgm _ (List.getElem_mem hk) h1
    · exact h1 (List.mem_cons_self ..)
  have hnot : ∀ b ∈ bkd x', b ∉ (es.take k).flatMap bkd ∧ b ∉ (es.drop (k + 1)).flatMap bkd := fun b hb => by
    rcases hap b hb with h1 | h1
    · exact ⟨fun h2 => hMX b h2 b (List.mem_append.2 (.inl h1)) rfl, fun h2 => hXD b h1 b h2 rfl⟩
    · have hsub : ∀ d ∈ es, b ∉ bkd d := fun d hd h2 => h1 (List.mem_cons_of_mem _ (List.mem_flatMap.2 ⟨d, hd, h2⟩))
      exact ⟨fun h2 => by obtain ⟨d, hd, h3⟩ := List.mem_flatMap.1 h2; exact hsub d (List.mem_of_mem_take hd) h3, fun h2 => by obtain ⟨d, hd, h3⟩ := List.mem_flatMap.1 h2; exact hsub d (List.mem_of_mem_drop hd) h3⟩
  have keep : ∀ d ∈ es, (∀ b ∈ bkd d, b ∉ bkd es[k]) → OBx w' d.vb d.body ∧ OBx w' d.vs d.safe := fun d hd hb => by
    have hok := h.ok d hd
    have hgd := hgm d hd
    have hne : ∀ b ∈ bkd d, ¬ T b := fun b hb' ht => by
      rcases hT b ht with rfl | h1
      · exact hgd hb'
      · exact hb b hb' h1
    exact ⟨hok.1.ch hch (fun b hb' => hne b (List.mem_append.2 (.inl hb'))), hok.2.ch hch (fun b hb' => hne b (List.mem_append.2 (.inr hb')))⟩
  refine ⟨hrow.x, fun d hd => ?_, ?_⟩
  · rw [nodes_split hk] at hd
    rcases List.mem_append.1 hd with hd | hd
    · exact keep d (List.mem_of_mem_take hd) (fun b hb hbx => hMX b (List.mem_flatMap.2 ⟨d, hd, hb⟩) b (List.mem_append.2 (.inl hbx)) rfl)
    · rcases List.mem_cons.1 hd with rfl | hd
      · exact hx
      · exact keep d (List.mem_of_mem_drop hd) (fun b hb hbx => hXD b hbx b (List.mem_flatMap.2 ⟨d, hd, hb⟩) rfl)
  · show (g :: (es.set k x').flatMap bkd).Nodup
    rw [nodes_split hk, List.flatMap_append, List.flatMap_cons, List.nodup_cons, List.nodup_append, List.nodup_append]
    refine ⟨fun hm => ?_, hM, ⟨hn, hD, fun a ha b hb e => (hnot a ha).2 (e ▸ hb)⟩, fun a ha b hb e => ?_⟩
    · rw [List.mem_append, List.mem_append] at hm
      rcases hm with hm | hm | hm
      · exact hgn (List.mem_append.2 (.inl hm))
      · exact hgx hm
      · exact hgn (List.mem_append.2 (.inr (List.mem_append.2 (.inr hm))))
    · subst e
      rcases List.mem_append.1 hb with hb | hb
      · exact (hnot a hb).1 ha
      · exact hMX a ha a (List.mem_append.2 (.inr hb)) rfl
section
variable {α : Type} {f : α → List Value} {e : TypeId} {P : Program} {L : List Oper} {Q : Exit → Act → World → Prop} {n d : Nat} {l : Env} {w : World} {rest : List Oper} {ty : TypeId} {pos : String} {af : Array Edge} {v v2 : Value} {x y : Operand} {t : TypeId}
/-- Own records are appended to: where they lie then. -/
theorem TL_appendOx {lo2 hi2 size bytes : Nat} {z : Value} {s s2 : List α} (ht : P.underlying t = some (.slice e)) (hi0 : (P.info? e).map (fun i => (i.zero, i.size, i.bytes)) = some (some z, size, bytes)) (hzs : z.cells.size = size) (hpos : Nat.blt 0 size = true) (hby : Nat.ble bytes 1024 = true)
    (hone : ∀ a, ∀ u ∈ f a, u.oneCell' = true) (hx : ev l x = some v) (hy : ev l y = some v2) (ho : RowOx f e size w v s) (hr : RowR f size w lo2 hi2 v2 s2) (hm : s.length + s2.length ≤ 1073741824) (hn : Nat.blt d n = true)
    (h : ∀ w' v', Ch (fun j => j ∈ blk v) w w' → (blk v' = blk v ∨ (blk v' = [w.heap.size] ∧ w.heap.size < w'.heap.size)) → RowOx f e size w' v' (s ++ s2) → TL P L Q rest n ((d, v') :: l) w') :
    TL P L Q (⟨some d, .call { callee := .builtin .append, args := #[x, y], argTypes := #[t, t] }, ty, pos, af, none⟩ :: rest) n l w := by
  obtain ⟨l1, h1, ⟨A, c, rfl, ho0⟩, _⟩ := ho
  obtain ⟨lo, hi, hlo, ho, hin⟩ := ho0.narrow2
  obtain ⟨A2, c2, rfl, _, hr⟩ := hr
  have hb : (s.length + s2.length) * bytes ≤ 140737488355328 := Nat.le_trans (Nat.mul_le_mul hm (Nat.le_of_ble_eq_true hby)) (by decide)
  refine TL_append ht hi0 hzs hpos hx hy ho hr (cellsL_one hone s2) hlo hb (by omega) hn ?_
  intro w1 hi1 A1 c1 hch h1 h2 h3 hown
  have hch' : Ch (fun j => j ∈ blk (.slice A s.length c)) w w1 := hch.mono (fun j hj => hin j hj.1 hj.2)
  refine h w1 _ hch' ?_ (RowO.x ⟨A1, c1, by rw [List.length_append], hown.cast (by rw [List.length_append]) (cellsL_append _ _).symm⟩)
  rcases h3 with rfl | rfl
  · left; cases A1 <;> rfl
  · right; exact ⟨rfl, Nat.lt_of_lt_of_le (hown.lt _ rfl) hown.hi_le⟩
end
section
variable {C : World → Prop} {n : Nat} {l : Env} {dd : Option Nat} {ty : TypeId} {pos : String} {af : Array Edge} {m x : Operand} {b : Nat}
theorem Pu_dirLook1 {s : List UInt8} (hm : ev l m = some (.map (some b))) (hx : ev l x = some (S s)) (hs : s.length ≤ 9223372036854775807) {D : List LkD} (hM : ∀ w, C w → ∃ k, MD w b k D) :
    Pu Try.prog C n l ⟨dd, .lookup 64 m x false, ty, pos, af, none⟩ (I (dFind D s)) := Pu_lookG hm hx fun w hw => by
  obtain ⟨k, hk⟩ := hM w hw
  obtain ⟨c, hrun, hc, _⟩ := World.ownsMap.lookup_int hk kStr mUnder Try.underlying3 (zInt w) (kyS hs)
  rw [toD_at] at hc
  simp only [DataW.lit.injEq, Lit.int.injEq, true_and] at hc
  rw [hrun, hc]
end
/-- The first k elements of an own row are one. -/
theorem Own.takeN {w : World} {lo hi n c k : Nat} {e : TypeId} {A : Option Addr} {xs : List Value} (h : Own w lo hi e 1 A n c xs) (hk : k ≤ n) : Own w lo hi e 1 A k c (xs.take k) := by
  have hl := h.len
  refine ⟨h.hi_le, ⟨by rw [List.length_take]; omega, ?_⟩, h.lt⟩
  rcases h.row.2 with ⟨hv, h0⟩ | ⟨g, cap, cur, hv, h3, h4, h5, h6, h7, h8⟩
  · injection hv with h1 h2 h9
    subst h1 h9
    have : k = 0 := by omega
    subst this
    exact .inl ⟨rfl, rfl⟩
  · injection hv with h1 h2 h9
    subst h1 h9
    refine .inr ⟨g, c, cur, rfl, h3, h4, by omega, h6, h7, ?_⟩
    rw [← h8, List.take_take, Nat.mul_one, Nat.mul_one, Nat.min_eq_left hk]
/-- A disk of which one node is put. -/
theorem ODk.put {w w' : World} {lo hi hi' g n c lo3 hi3 k : Nat} {d d' : DiskP} {sk st : Value} {es : List Nd} {x' : Nd} {T : Nat → Prop} (hs : hi' ≤ w'.heap.size) (hh : hi ≤ hi') (hm : es.map NdP = d.nodes) (hN : ONx w (.slice (some ⟨g, 0, none⟩) n c) es)
    (hK : RowOx LkC 47 2 w sk d.kept) (hT : RowOx TnC 72 4 w st d.turns) (h1 : ∀ b ∈ bksN (.slice (some ⟨g, 0, none⟩) n c) es, lo ≤ b ∧ b < hi ∧ b ∉ blk sk ∧ b ∉ blk st) (h2 : ∀ b ∈ blk sk, lo ≤ b ∧ b < hi ∧ b ∉ blk st) (h3 : ∀ b ∈ blk st, lo ≤ b ∧ b < hi)
    (hk : k < es.length) (hch : Ch T w w') (hTT : ∀ j, T j → j = g ∨ j ∈ bkd es[k]) (hrow : RowO NdC 70 3 w' lo3 hi3 (.slice (some ⟨g, 0, none⟩) n c) (es.set k x')) (hx : OBx w' x'.vb x'.body ∧ OBx w' x'.vs x'.safe) (hn : (bkd x').Nodup)
    (hap : ∀ b ∈ bkd x', b ∈ bkd es[k] ∨ (hi ≤ b ∧ b < hi')) (hlh : lo ≤ hi) (e1 : d'.nodes = d.nodes.set k (NdP x')) (e2 : d'.kept = d.kept) (e3 : d'.turns = d.turns) : ODk w' lo hi' d' (.slice (some ⟨g, 0, none⟩) n c) sk st := by
  have hb : ∀ j, T j → j ∈ bksN (.slice (some ⟨g, 0, none⟩) n c) es := fun j hj => by
    rcases hTT j hj with rfl | h
    · exact List.mem_append.2 (.inl (List.mem_singleton.2 rfl))
    · exact bkd_in hk j h
  have hN' := ONx.set2 hk hN hch hTT hrow hx hn (fun b hb' => by
    rcases hap b hb' with h | h
    · exact .inl h
    · right; intro hm; have := h1 b hm; omega)
  refine ODk.mk3 hs (by rw [e1, List.map_set, hm]) hN' (by rw [e2]; exact hK.ch hch (fun b hb' ht => (h1 b (hb b ht)).2.2.1 hb')) (by rw [e3]; exact hT.ch hch (fun b hb' ht => (h1 b (hb b ht)).2.2.2 hb')) ?_ (fun b hb' => by have := h2 b hb'; exact ⟨this.1, by omega, this.2.2⟩) (fun b hb' => by have := h3 b hb'; omega)
  refine bks_set (R := fun b => lo ≤ b ∧ b < hi' ∧ b ∉ blk sk ∧ b ∉ blk st) (fun b hb' => by have := h1 b hb'; exact ⟨this.1, by omega, this.2.2⟩) (fun b hb' => ?_)
  rcases hap b hb' with h | h
  · have := h1 b (bkd_in hk b h); exact ⟨this.1, by omega, this.2.2⟩
  · exact ⟨by omega, h.2, fun h' => by have := h2 b h'; omega, fun h' => by have := h3 b h'; omega⟩
end Go.Proofs.Ytggaghghclomkaa

/- Contracts: the code of an operation on a disk, by the reference. -/
namespace Go.Proofs.Ytggaghghclomkaa
open Go.RowKit
theorem dirs_find {d : DiskP} (h : DOk d) (s : List UInt8) : (dHas (pDir d) s = true → 0 < dFind (pDir d) s) ∧ (dHas (pDir d) s = false → dFind (pDir d) s = 0) := ⟨fun e => by have := (pFind_pos h s).2 e; omega, fun e => dFind_none e⟩
attribute [local irreducible] TL TC TN TX TR TQ TA Pu Ret
set_option maxRecDepth 100000 in
set_option maxHeartbeats 16000000 in
theorem l03Code_c {w : World} {lo hi : Nat} {d : DiskP} {sn sk st vo : Value} {o : OpD} (h : RDk w lo hi d sn sk st) (hf : d.fits) (hl : totD d ≤ 1048576) (hD : DOk d) (hO : pOp o = true) :
    Ret Try.prog 38 #[.agg (dskC d sn sk st).toArray, .agg (opC o vo).toArray] w fun v' w' => v' = I (pCode d o) ∧ Ext w w' := by
  have hh := h
  obtain ⟨ds, A, c, hm, rfl, hc, hr, hok⟩ := h.1
  obtain ⟨At, ct, rfl, hct, hrt⟩ := h.2.2.row
  have hln : d.nodes.length = ds.length := by rw [← hm, List.length_map]
  have hB := hD.base
  unfold dBase at hB
  obtain ⟨p1, p2, p3, p4, p5, p6, p7, p8, p9⟩ := pOp_parts hO
  obtain ⟨kind, name, to, size, data⟩ := o
  simp only at p1 p2 p3 p4 p5 p6 p7 p8 p9
  refine Ret_enter Try.func38 rfl rfl rfl ?_
  repeat' (first | apply Jbs | apply Jbt)
  refine TL_box (cs := dskC d (.slice A ds.length c) sk (.slice At d.turns.length ct)) rfl rfl ?_
  intro w1 g2 e1 hg2 hz1 hb2
  skip
  refine TL_box (cs := opC ⟨kind, name, to, size, data⟩ vo) rfl rfl ?_
  intro w2 g3 e2 hg3 hz2 hb3
  replace hb2 := hb2.ext e2
  have E2 : Ext w w2 := e1.ext e2
  repeat' (first | apply Jbq | apply Jbr | apply Jbs | apply Jbt | (apply Jcg; (first | exact Jab rfl | exact Jak rfl rfl | (apply Jbl; exact Us.h; exact rfl; exact Sz.h; exact rfl)); exact rfl) | refine Jcg (Pu_load Fl.h rfl (fun _ e => by rw [e]; exact hb2.ld rfl)) rfl ?_)
  refine Jcx rfl (fun h0 => ?_) (fun h0 => ?_)
  · repeat' (first | apply Jbq | apply Jbr | apply Jbs | apply Jbt | apply Jbu | apply Jbv | (apply Jcg; exact Jab rfl; exact rfl))
    exact TR_of (res1 rfl rfl) ⟨by unfold pCode; rw [if_pos h0], E2⟩
  repeat' (first | apply Jbr | apply Jbs | apply Jbz)
  refine TC_any mixed rfl ?_
  intro w3 hE hz3
  (refine Jco 0 rfl (by kernel_rfl) (by kernel_rfl) (by kernel_rfl) (fun _ _ _ h => h) hE (by exact Pu_loadAgg (cs := dskC d (.slice A ds.length c) sk (.slice At d.turns.length ct)) Us.h rfl Sz.h rfl (fun _ e j u hu => Ext.cell e (by rw [add0, hb2.cell]; exact hu))) rfl ?_; refine Jco 2 rfl (by kernel_rfl) (by kernel_rfl) (by kernel_rfl) (fun _ _ _ h => h) hE (by (apply Jbl; exact Us.h; exact rfl; exact Sz.h; exact rfl)) rfl ?_; refine Jco 3 rfl (by kernel_rfl) (by kernel_rfl) (by kernel_rfl) (fun _ _ _ h => h) hE (by exact Pu_load Fl.h rfl (fun _ e => Ext.cell e (hb3.ld rfl))) rfl ?_)
  refine TA_one 1 (by kernel_rfl) rfl ?_
  refine TL_call rfl en19 (specDiskDir_c (hh.ext (E2.ext hE)) hf hl) rfl rfl ?_
  rintro v4 w4 ⟨e4, hr4⟩
  rw [pDirs_yes hD] at hr4
  have hpl : (pDir d).length ≤ 1048576 := by have := pDirs_length (d := d); rw [pDirs_yes hD] at this; omega
  have hE4 := hE.ext e4
  clear hE
  have hE := hE4
  refine Jbq (TN_any hE ?_)
  refine TA_one 4 (by kernel_rfl) rfl ?_
  refine TL_call rfl en40 (l03Find_c hr4 hpl) rfl rfl ?_
  rintro _ w5 ⟨rfl, e5⟩
  have hE5 := hE.ext e5
  clear hE hE4
  have hE := hE5
  refine Jbq (TN_any hE ?_)
  (refine Jco 5 rfl (by kernel_rfl) (by kernel_rfl) (by kernel_rfl) (fun _ _ _ h => h) hE (by exact Jab rfl) rfl ?_)
  refine TA_done (by kernel_rfl) ?_
  replace hb2 := hb2.ext hE
  replace hb3 := hb3.ext hE
  have E5 := E2.ext hE
  obtain ⟨hz1', hz0'⟩ := dirs_find hD name
  have hk7 : kind = 1 ∨ kind = 2 ∨ kind = 3 ∨ kind = 4 ∨ kind = 5 ∨ kind = 6 ∨ kind = 7 := by omega
  cases hhas : dHas (pDir d) name with
  | false =>
    rw [hz0' hhas]
    clear hr hok hrt e1 e2 hE hE5 E2
    rcases hk7 with rfl | rfl | rfl | rfl | rfl | rfl | rfl
    all_goals (repeat' (first | apply Jbq | apply Jbr | apply Jbs | apply Jbt | apply Jbu | apply Jbv | apply Jbz | (refine Jce rfl ?_) | (refine Jcf rfl ?_) | (apply Jcg; (first | exact Jaa rfl | exact Jab rfl | exact Jac Us.h rfl | exact Jah rfl rfl | exact Jai rfl rfl | exact Jak rfl rfl | exact Jal rfl rfl | exact Jam rfl rfl | exact Jau Us.h rfl rfl | (apply Jbl; exact Us.h; exact rfl; exact Sz.h; exact rfl)); exact rfl) | refine Jch rfl rfl rfl ?_ | refine Jci rfl rfl rfl rfl rfl ?_ | refine Jcj rfl rfl rfl rfl ?_ | refine Jcg (Pu_load Fl.h rfl (fun _ e => by rw [e]; exact hb2.ld rfl)) rfl ?_ | refine Jcg (Pu_load Fl.h rfl (fun _ e => by rw [e]; exact hb3.ld rfl)) rfl ?_ | (refine Jcs rfl rfl (fun hb => ?_) (fun hb => ?_) <;> (try (exfalso; omega))) | (refine Jcx rfl (fun hb => ?_) (fun hb => ?_) <;> (try (exfalso; omega)))))
    all_goals first
      | (refine TR_of (res1 rfl rfl) ⟨congrArg I ?_, E5⟩; (first | rw [pCode_1 rfl] | rw [pCode_23 (.inl rfl)] | rw [pCode_23 (.inr rfl)] | rw [pCode_4 rfl] | rw [pCode_5 rfl] | rw [pCode_6 rfl] | rw [pCode_7 rfl]); (try simp only [hhas]); (repeat' split) <;> first | rfl | (exfalso; omega) | contradiction)
      | skip
    all_goals (refine TC_quietExt mixed (by kernel_rfl) ?_)
    all_goals (repeat' (first | (apply Jck; (first | exact Jaa rfl | exact Jai rfl rfl | exact Jak rfl rfl | (apply Jbl; exact Us.h; exact rfl; exact Sz.h; exact rfl)); exact rfl) | refine Jcl rfl rfl rfl ?_ | refine Jcm rfl rfl rfl rfl rfl ?_ | refine Jck (Pu_load Fl.h rfl (fun _ e => Ext.cell e (hb3.ld rfl))) rfl ?_))
    all_goals (refine TQ_nil fun w5 e5 => ?_)
    all_goals (replace hb2 := hb2.ext e5; replace hb3 := hb3.ext e5)
    all_goals (repeat' (first | apply Jbq | apply Jbr | apply Jbs | apply Jbt | apply Jbu | apply Jbz | (refine Jcf rfl ?_) | (apply Jcg; exact Jab rfl; exact rfl)))
    all_goals (refine TR_of (res1 rfl rfl) ⟨congrArg I ?_, E5.ext e5⟩; (first | rw [pCode_1 rfl] | rw [pCode_23 (.inl rfl)] | rw [pCode_23 (.inr rfl)] | rw [pCode_4 rfl] | rw [pCode_5 rfl] | rw [pCode_6 rfl] | rw [pCode_7 rfl]); (try simp only [hhas]); (repeat' split) <;> first | rfl | (exfalso; omega) | contradiction)
  | true =>
    obtain ⟨i, hi, hat, _⟩ := hD.dirAt hhas
    have hne7 : kind ≠ 7 := fun e => by rw [p2 e, hD.noName] at hhas; cases hhas
    have hbat : bodyAt d (opAt d ⟨kind, name, to, size, data⟩) = d.nodes[i].2.1 := by unfold opAt; simp only; rw [hat]; exact bodyAt_nat hi
    obtain ⟨ad, rfl, hcell⟩ := Rd.elem NdC_len (hr.ext E5) (k := i) (by omega)
    have hni : d.nodes[i] = NdP ds[i] := by simp only [← hm, List.getElem_map]
    have hbody : d.nodes[i].2.1 = ds[i].body := by rw [hni]; rfl
    have hrb := (hok _ (List.getElem_mem (show i < ds.length by omega))).1
    have hcv : w5.cell? ((ad.add (i * 3)).add 1) = some (ds[i]'(by omega)).vb := hcell 1 _ rfl
    obtain ⟨x, hx⟩ : ∃ x, x = ds[i]'(by omega) := ⟨_, rfl⟩
    rw [← hx] at hcv hrb hbody
    rw [hbody] at hbat
    obtain ⟨Ab, cb, hvb, hcb, hrdb⟩ := hrb
    rw [hvb] at hcv
    obtain ⟨B, hBq⟩ : ∃ B, B = x.body := ⟨_, rfl⟩
    rw [← hBq] at hcv hbat
    clear hr hok hrt e1 e2 hcell hrdb hE hE5 E2
    have hk6 : kind = 1 ∨ kind = 2 ∨ kind = 3 ∨ kind = 4 ∨ kind = 5 ∨ kind = 6 := by omega
    have hnd : ∀ w', Ext w5 w' → Ret Try.prog 39 #[.agg (dskC d (.slice (some ad) ds.length c) sk (.slice At d.turns.length ct)).toArray, I (dFind (pDir d) name)] w' fun v w'' => v = I (i : Int) ∧ Ext w5 w'' := fun w' e =>
      (specl03At_c (hh.ext (E5.ext e)) (by omega)).mono fun v w'' ⟨hv, e2⟩ => ⟨by rw [hv, hat], e.ext e2⟩
    have hz := hz1' hhas
    obtain ⟨z, hzq⟩ : ∃ z, z = dFind (pDir d) name := ⟨_, rfl⟩
    rw [← hzq] at hz hnd ⊢
    have hzt : decide (0 < z) = true := decide_eq_true hz
    clear hzq hz1' hz0'
    rcases hk6 with rfl | rfl | rfl | rfl | rfl | rfl
    all_goals (repeat' (first | apply Jbq | apply Jbr | apply Jbs | apply Jbt | (apply Jcg; (first | exact Jaa rfl | exact Jah rfl rfl | exact Jak rfl rfl | exact Jal rfl rfl | exact Jam rfl rfl | exact Jau Us.h rfl rfl | (apply Jbl; exact Us.h; exact rfl; exact Sz.h; exact rfl)); exact rfl) | refine Jch rfl rfl rfl ?_ | refine Jcg (Pu_load Fl.h rfl (fun _ e => by rw [e]; exact hb3.ld rfl)) rfl ?_))
    all_goals (try rw [hzt])
    all_goals (repeat' (first | apply Jbq | apply Jbr | apply Jbs | apply Jbt | apply Jbu | apply Jbv | apply Jbz | (refine Jce rfl ?_) | (refine Jcf rfl ?_) | (apply Jcg; (first | exact Jaa rfl | exact Jab rfl | exact Jac Us.h rfl | exact Jah rfl rfl | exact Jai rfl rfl | exact Jak rfl rfl | (apply Jbl; exact Us.h; exact rfl; exact Sz.h; exact rfl)); exact rfl) | refine Jch rfl rfl rfl ?_ | refine Jci rfl rfl rfl rfl rfl ?_ | refine Jcj rfl rfl rfl rfl ?_ | refine Jcg (Pu_load Fl.h rfl (fun _ e => by rw [e]; exact hb2.ld rfl)) rfl ?_ | refine Jcg (Pu_load Fl.h rfl (fun _ e => by rw [e]; exact hb3.ld rfl)) rfl ?_ | (refine Jcx rfl (fun hb => ?_) (fun hb => ?_) <;> (try (exfalso; omega)))))
    all_goals first
      | (refine TR_of (res1 rfl rfl) ⟨congrArg I ?_, E5⟩; (first | rw [pCode_1 rfl] | rw [pCode_23 (.inl rfl)] | rw [pCode_23 (.inr rfl)] | rw [pCode_4 rfl] | rw [pCode_5 rfl] | rw [pCode_6 rfl] | rw [pCode_7 rfl]); (try simp only [hhas]); (repeat' split) <;> first | rfl | (exfalso; omega) | contradiction)
      | skip
    all_goals (refine TC_quietExt mixed (by kernel_rfl) ?_)
    all_goals (repeat' (first | (apply Jck; (first | exact Jaa rfl | exact Jac Us.h rfl | exact Jah rfl rfl | exact Jai rfl rfl | exact Jak rfl rfl | exact Jam rfl rfl | exact Jar Us.h Sz.h rfl rfl (by omega) | exact Jas rfl rfl | (apply Jbl; exact Us.h; exact rfl; exact Sz.h; exact rfl)); exact rfl) | refine Jcl rfl rfl rfl ?_ | refine Jcm rfl rfl rfl rfl rfl ?_ | refine Jcn rfl rfl rfl rfl ?_ | refine Jck (Pu_load Fl.h rfl (fun _ e => Ext.cell e (hb2.ld rfl))) rfl ?_ | refine Jck (Pu_load Fl.h rfl (fun _ e => Ext.cell e (hb3.ld rfl))) rfl ?_ | refine Jck (Pu_load Fl.h rfl (fun _ e => Ext.cell e hcv)) rfl ?_ | refine Jck (Pu_loadAgg (cs := dskC d (.slice (some ad) ds.length c) sk (.slice At d.turns.length ct)) Us.h rfl Sz.h rfl (fun _ e j u hu => Ext.cell e (by rw [add0, hb2.cell]; exact hu))) rfl ?_ | refine TQ_call rfl en39 hnd rfl ?_ | (refine Jcv rfl rfl (fun hb => ?_) (fun hb => ?_) <;> (try (exfalso; omega)))))
    all_goals (refine TQ_nil fun w6 e6 => ?_)
    all_goals (replace hb2 := hb2.ext e6; replace hb3 := hb3.ext e6)
    all_goals (repeat' (first | apply Jbq | apply Jbr | apply Jbs | apply Jbt | apply Jbu | apply Jbv | apply Jbz | (refine Jce rfl ?_) | (refine Jcf rfl ?_) | (apply Jcg; exact Jab rfl; exact rfl) | (refine Jcx rfl (fun hb => ?_) (fun hb => ?_) <;> (try (exfalso; omega)))))
    all_goals (refine TR_of (res1 rfl rfl) ⟨congrArg I ?_, E5.ext e6⟩; (first | rw [pCode_1 rfl] | rw [pCode_23 (.inl rfl)] | rw [pCode_23 (.inr rfl)] | rw [pCode_4 rfl, hbat] | rw [pCode_5 rfl] | rw [pCode_6 rfl] | rw [pCode_7 rfl]); (try simp only [hhas]); (repeat' split) <;> first | rfl | (exfalso; omega) | contradiction)
end Go.Proofs.Ytggaghghclomkaa
