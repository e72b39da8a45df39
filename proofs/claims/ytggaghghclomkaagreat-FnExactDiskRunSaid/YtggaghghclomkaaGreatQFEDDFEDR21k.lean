/- Texts of this proof laid together, in the order in which they build; what each proves stands ahead of it. No condition but those told there. -/
import Derived.Test.YtggaghghclomkaaGreatQFEDDFEDR21j

/- Contracts: a disk behind a loss of power. -/
namespace Go.Proofs.YtggaghghclomkaaGreat
open Go.RowKit
/-! ### the plain law -/
def cutAt (cuts : List Int) (i : Nat) : Int := if cuts.length = 0 then 0 else cuts.getD (i % cuts.length) 0
def crashP (cuts : List Int) (i : Nat) (p : NodeP) : NodeP := (p.1, tear p.2.2 p.2.1 (cutAt cuts i), tear p.2.2 p.2.1 (cutAt cuts i))
/-- How many turns are safe. -/
def tnN (d : DiskP) (t : Int) : Nat := (max 0 (min t (d.turns.length : Int))).toNat
def crashD (d : DiskP) (t : Int) (cuts : List Int) : DiskP :=
  { d with fuse := -1, nodes := (onlyP d.nodes ((runT d.kept (d.turns.take (tnN d t))).map (·.id))).mapIdx (crashP cuts), kept := runT d.kept (d.turns.take (tnN d t)), turns := [] }
open Classical in
noncomputable def pCrash (d : DiskP) (t : Int) (cuts : List Int) : DiskP × Bool := if DOk d then (crashD d t cuts, true) else (noDk, false)
open Classical in
theorem pCrash_yes {d : DiskP} {t : Int} {cuts : List Int} (h : DOk d) : pCrash d t cuts = (crashD d t cuts, true) := by unfold pCrash; exact if_pos h
open Classical in
theorem pCrash_no {d : DiskP} {t : Int} {cuts : List Int} (h : ¬ DOk d) : pCrash d t cuts = (noDk, false) := by unfold pCrash; exact if_neg h
theorem tnN_le (d : DiskP) (t : Int) : tnN d t ≤ d.turns.length := by unfold tnN; omega
theorem tear_le (s t : List UInt8) (k : Int) : (tear s t k).length ≤ max s.length t.length := by
  have h1 := tear_len s t k
  have h2 := share_le s t
  have h3 : (tearK s t k : Int) ≤ s.length + t.length - 2 * (share s t : Int) := by unfold tearK tearSteps; omega
  rw [h1]
  split <;> omega
theorem pCrash_tot {d : DiskP} {t : Int} {cuts : List Int} : totD (pCrash d t cuts).1 ≤ 1048576 := by
  by_cases h : DOk d
  · rw [pCrash_yes h]
    have h1 := h.dirLe _ (tnN_le d t)
    have h2 := h.dirName _ (tnN_le d t)
    exact tot_turned h h1 h2 (fun i p => by
      have := tear_le p.2.2 p.2.1 (cutAt cuts i)
      unfold crashP NdW NdM; simp only; omega) _ _ _
  · rw [pCrash_no h, totD_no]; decide
theorem RowR.head {α : Type} {f : α → List Value} {s lo hi m c : Nat} {w : World} {A : Option Addr} {l : List α} (hf : ∀ a, (f a).length = s) (h : RowR f s w lo hi (.slice A l.length c) l) (hm : m ≤ l.length) : Rd w lo hi s (cutA A c 0 s) (l.take m).length (cellsL f (l.take m)) := by
  obtain ⟨A', c', hv, hc, hr⟩ := h
  injection hv with h1 h2 h3
  subst h1 h3
  have h4 := hr.cut (a := 0) (b := m) (c := c) (Nat.zero_le _) hm hc
  rw [Nat.zero_mul, List.drop_zero, Nat.sub_zero, cellsL_take hf] at h4
  have : (l.take m).length = m := by rw [List.length_take]; omega
  rw [this]
  exact h4
attribute [local irreducible] TL TC TN TX TR TQ TA Pu Ret
set_option maxRecDepth 100000 in
set_option maxHeartbeats 4000000 in
theorem implDiskCrash_c {w : World} {lo hi : Nat} {d : DiskP} {sn sk st : Value} {t : Int} {cuts : List Int} {lo2 hi2 : Nat} {vc : Value} (h : RDk w lo hi d sn sk st) (hf : d.fits) (hl : totD d ≤ 1048576) (hcu : RI w lo2 hi2 vc cuts) (hcl : cuts.length ≤ 9223372036854775807) :
    Ret Tryz.prog 15 #[.agg (dskC d sn sk st).toArray, I t, vc] w fun v' w' => ∃ sn' sk' st', v' = .tuple #[.agg (dskC (pCrash d t cuts).1 sn' sk' st').toArray, .bool (pCrash d t cuts).2] ∧ Ext w w' ∧ ODk w' w.heap.size w'.heap.size (pCrash d t cuts).1 sn' sk' st' := by
  obtain ⟨ft1, ft2⟩ := fits_tk hf
  obtain ⟨Ac, cc, rfl, hcc, hrc⟩ := hcu
  obtain ⟨m, hm⟩ : ∃ m, m = tnN d t := ⟨_, rfl⟩
  have hmi : max 0 (min t (d.turns.length : Int)) = (m : Int) := by rw [hm]; unfold tnN; omega
  have hml : m ≤ d.turns.length := by omega
  obtain ⟨L, hLq⟩ : ∃ L, L = runT d.kept (d.turns.take m) := ⟨_, rfl⟩
  have hLm : runT d.kept (d.turns.take (tnN d t)) = L := by rw [hLq, hm]
  obtain ⟨At, ct, rfl, hct, hrt0⟩ := h.2.2.row
  have hh := h
  refine Ret_enter Tryz.func15 rfl rfl rfl ?_
  repeat' (first | apply Jbs | apply Jbt)
  refine TL_box (cs := dskC d sn sk (.slice At d.turns.length ct)) rfl rfl ?_
  intro w1 g1 e1 hg1 hz1 hb1
  skip
  refine TL_alloc Zs.h rfl rfl ?_
  intro w2 g2 e2 hg2 hz2 hb2
  replace hb1 := hb1.ext e2
  have E2 : Ext w w2 := e1.ext e2
  repeat' (first | apply Jbq | apply Jbr | apply Jbs | apply Jbt | (apply Jcg; exact Jab rfl; exact rfl) | refine Jcg (Pu_loadAgg (cs := dskC d sn sk (.slice At d.turns.length ct)) Us.h rfl Sz.h rfl (fun _ e j u hu => by rw [e, add0, hb1.cell]; exact hu)) rfl ?_)
  refine TL_call rfl en65 (implDiskOk_c (hh.ext E2) hf hl) rfl rfl ?_
  rintro _ w3 ⟨rfl, e3⟩
  replace hb1 := hb1.ext e3
  replace hb2 := hb2.ext e3
  have hs3 := e3.size
  have E3 := E2.ext e3
  cases hp : pDOk d with
  | false =>
    rw [pCrash_no (fun h => by rw [pDOk_yes h] at hp; cases hp)]
    repeat' (first | apply Jbq | apply Jbr | apply Jbs | apply Jbt | (refine Jce rfl ?_) | (apply Jcg; exact Jaj rfl; exact rfl) | refine Jcg (Pu_build (cs := dskC noDk (.slice none 0 0) (.slice none 0 0) (.slice none 0 0)) rfl (by kernel_rfl)) rfl ?_)
    refine TL_storeAgg rfl rfl Sz.h rfl hb2 rfl ?_
    intro w8 c8 hz8 hb8
    have E8 : Ext w w8 := Ext.then_iv E3 c8 (by omega)
    repeat' (first | apply Jbq | apply Jbr | apply Jbu | apply Jbv | (apply Jcg; exact Jab rfl; exact rfl))
    exact TR_of (resA1 rfl rfl rfl hb8 Us.h rfl Sz.h) ⟨_, _, _, rfl, E8, ODk.nil (Nat.le_refl _)⟩
  | true =>
    have hD := pDOk_of hp
    have hB := hD.base
    unfold dBase at hB
    rw [pCrash_yes hD]
    repeat' (first | apply Jbq | apply Jbr | apply Jbs | apply Jbt | apply Jbz | (refine Jcf rfl ?_) | (apply Jcg; exact Jaj rfl; exact rfl) | refine Jcg (Pu_loadAgg (cs := dskC d sn sk (.slice At d.turns.length ct)) Us.h rfl Sz.h rfl (fun _ e j u hu => by rw [e, add0, hb1.cell]; exact hu)) rfl ?_)
    refine TL_call rfl en66 (implcopyDisk_c (hh.ext E3) hl) rfl rfl ?_
    rintro _ w4 ⟨sn1, sk1, st1, rfl, e4, hx⟩
    replace hb1 := hb1.ext e4
    replace hb2 := hb2.ext e4
    have hs4 := e4.size
    have E4 := E3.ext e4
    have hone := hx.one
    skip
    refine TL_alloc Zs.h rfl rfl ?_
    intro w5 g5 e5 hg5 hz5 hb5
    replace hb1 := hb1.ext e5
    replace hb2 := hb2.ext e5
    replace hx := hx.ext e5
    skip
    refine TL_storeAgg rfl rfl Sz.h hone hb5 rfl ?_
    clear hb5
    intro w6 c6 hz6 hb5
    replace hb1 := hb1.ch c6 (by simp only [Iv]; omega)
    replace hb2 := hb2.ch c6 (by simp only [Iv]; omega)
    replace hx := hx.ch c6 (by intro k _ _; simp only [Iv]; omega)
    have E6 : Ext w w6 := Ext.then_iv (E4.ext e5) c6 (by have := E4.size; omega)
    repeat' (first | apply Jbq | apply Jbr | apply Jbs)
    refine TC_any mixed rfl ?_
    intro w6a hE hz6a
    (refine Jco 0 rfl (by kernel_rfl) (by kernel_rfl) (by kernel_rfl) (fun _ _ _ h => h) hE (by (apply Jbl; exact Us.h; exact rfl; exact Sz.h; exact rfl)) rfl ?_; refine Jco 1 rfl (by kernel_rfl) (by kernel_rfl) (by kernel_rfl) (fun _ _ _ h => h) hE (by exact Pu_load Fl.h rfl (fun _ e => Ext.cell e (hb1.ld rfl))) rfl ?_; refine Jco 2 rfl (by kernel_rfl) (by kernel_rfl) (by kernel_rfl) (fun _ _ _ h => h) hE (by (apply Jbl; exact Us.h; exact rfl; exact Sz.h; exact rfl)) rfl ?_; refine Jco 3 rfl (by kernel_rfl) (by kernel_rfl) (by kernel_rfl) (fun _ _ _ h => h) hE (by exact Pu_load Fl.h rfl (fun _ e => Ext.cell e (hb1.ld rfl))) rfl ?_; refine Jco 4 rfl (by kernel_rfl) (by kernel_rfl) (by kernel_rfl) (fun _ _ _ h => h) hE (by exact Jaa rfl) rfl ?_; refine Jco 5 rfl (by kernel_rfl) (by kernel_rfl) (by kernel_rfl) (fun _ _ _ h => h) hE (by (apply Jbl; exact Us.h; exact rfl; exact Sz.h; exact rfl)) rfl ?_; refine Jco 6 rfl (by kernel_rfl) (by kernel_rfl) (by kernel_rfl) (fun _ _ _ h => h) hE (by exact Pu_load Fl.h rfl (fun _ e => Ext.cell e (hb1.ld rfl))) rfl ?_; refine Jco 7 rfl (by kernel_rfl) (by kernel_rfl) (by kernel_rfl) (fun _ _ _ h => h) hE (by exact Jac Us.h rfl) rfl ?_; refine Jco 8 rfl (by kernel_rfl) (by kernel_rfl) (by kernel_rfl) (fun _ _ _ h => h) hE (by exact Jay rfl rfl) rfl ?_; refine Jco 9 rfl (by kernel_rfl) (by kernel_rfl) (by kernel_rfl) (fun _ _ _ h => h) hE (by exact Jaz rfl rfl) rfl ?_; refine Jco 10 rfl (by kernel_rfl) (by kernel_rfl) (by kernel_rfl) (fun _ _ _ h => h) hE (by exact Jbe Us.h Sz.h rfl rfl (by omega)) rfl ?_)
    refine TA_one 11 (by kernel_rfl) rfl ?_
    have hts := (RowR.head TnC_len hh.2.2.row hml).ext (E6.ext hE)
    rw [hmi, Int.toNat_natCast]
    have hlt : (d.turns.take m).length = m := by rw [List.length_take]; omega
    rw [hlt] at hts
    refine TL_call rfl en67 (dirOf_c (hh.2.1.ext (E6.ext hE)) (RowR.rt ⟨_, _, by rw [hlt], by omega, by rw [hlt]; exact hts⟩) (kept_asc ((dok_iff d).1 hD).link) (by omega) (by omega) ft1 (fun x hx => ft2 x (List.mem_of_mem_take hx))) rfl rfl ?_
    rintro _ w7 ⟨e7a, hq⟩
    have e7 := hE.ext e7a
    rcases hq with ⟨_, b, kb, rfl, _, _, hM⟩ | ⟨hA, _⟩
    case inr =>
      refine absurd (fun j hj => ?_) hA
      have h1 := ((dok_iff d).1 hD).turn j (by omega)
      rw [List.take_take, Nat.min_eq_left (by omega), List.getElem_take]
      exact h1
    clear hE
    have hE := e7
    refine Jbq (TN_any hE ?_)
    (refine Jco 12 rfl (by kernel_rfl) (by kernel_rfl) (by kernel_rfl) (fun _ _ _ h => h) hE (by exact Jaa rfl) rfl ?_; refine Jco 13 rfl (by kernel_rfl) (by kernel_rfl) (by kernel_rfl) (fun _ _ _ h => h) hE (by exact Jae rfl rfl) rfl ?_; refine Jco 14 rfl (by kernel_rfl) (by kernel_rfl) (by kernel_rfl) (fun _ _ _ h => h) hE (by exact Jae rfl rfl) rfl ?_; refine Jco 15 rfl (by kernel_rfl) (by kernel_rfl) (by kernel_rfl) (fun _ _ _ h => h) hE (by exact Jab rfl) rfl ?_; refine Jco 16 rfl (by kernel_rfl) (by kernel_rfl) (by kernel_rfl) (fun _ _ _ h => h) hE (by exact Jab rfl) rfl ?_)
    refine TA_done (by kernel_rfl) ?_
    have hs7 := e7.size
    have E7 := E6.ext e7
    have hb57 := hb5.ext e7
    have hdir := hD.dirLe m hml
    have hids := hD.dirIds m hml
    have hasc := hD.asc m hml
    rw [← hLq] at hdir hids hasc hM
    repeat' (first | apply Jbr | apply Jbs | apply Jbt | (apply Jcg; exact Jaa rfl; exact rfl))
    refine TL_call rfl en69 (links_c hM hasc (by omega)) rfl rfl ?_
    rintro vk w8 ⟨e8, hok⟩
    have hs8 := e8.size
    have E8 := E7.ext e8
    have hb58 := hb57.ext e8
    have hx8 := hx.ext (e7.ext e8)
    obtain ⟨_, ds, hmap, hN, hrk, hrt, hnd, hin⟩ := hx8
    have hinN : ∀ b ∈ bksN sn1 ds, w3.heap.size ≤ b ∧ b < w4.heap.size := fun b hb => hin b (List.mem_append.2 (.inl hb))
    obtain ⟨A1, c1, rfl, hc1, hr1⟩ := hN.row.rr (fun b hb => hinN b (List.mem_append.2 (.inl hb))) (by omega)
    have hdl : ds.length = d.nodes.length := by rw [← hmap, List.length_map]
    skip
    refine TL_call rfl en68 (only_c hb58 hr1 (fun x hx => by obtain ⟨h1, h2⟩ := hN.ok x hx; obtain ⟨A, c, _, _, h3, _⟩ := h1.sl; obtain ⟨A', c', _, _, h4, _⟩ := h2.sl; exact ⟨⟨A, _, c, h3⟩, ⟨A', _, c', h4⟩⟩) hok.rd (by omega) (by omega) (fun x hx => hD.idB _ (hids x hx))
      (fun x hx => hD.idB _ (by rw [← hmap]; unfold nIds; rw [List.map_map]; exact List.mem_map.2 ⟨x, hx, rfl⟩))) rfl rfl ?_
    rintro _ w9 ⟨rfl, c9, vn, hb9, hon⟩
    have hs9 := c9.size
    have hokb := hok.bin
    have hN9 : ONx w9 vn (only ds ((L).map (·.id))) := hN.keep hon c9 (fun b hb => by have := hinN b hb; simp only [Iv]; omega) (fun b hb => by have := hinN b hb; omega)
    have hbk9 : ∀ b ∈ bksN vn (only ds ((L).map (·.id))), w3.heap.size ≤ b ∧ b < w9.heap.size ∧ (b < w7.heap.size ∨ w8.heap.size ≤ b) ∧ b ≠ g5 := fun b hb => by
      have h1 := bks_keep hon hinN b hb
      exact ⟨by omega, by omega, by omega, by omega⟩
    replace hok := hok.ch c9 (by intro k _ _; simp only [Iv]; omega)
    have E9 : Ext w w9 := Ext.then_iv E8 c9 (by have := E4.size; omega)
    replace hb2 := ((hb2.ext e7).ext e8).ch c9 (by simp only [Iv]; omega)
    obtain ⟨l, hlq⟩ : ∃ l, l = onlyP d.nodes ((L).map (·.id)) := ⟨_, rfl⟩
    have hmap9 : (only ds ((L).map (·.id))).map NdP = l := by rw [only_map, hmap, hlq]
    obtain ⟨es0, hes0⟩ : ∃ es0, es0 = only ds ((L).map (·.id)) := ⟨_, rfl⟩
    rw [← hes0] at hmap9 hN9 hbk9 hon
    have hl8 : l.length ≤ 8 := by rw [hlq]; have := onlyP_length d.nodes ((L).map (·.id)); omega
    have hlen0 : es0.length = l.length := by rw [← hmap9, List.length_map]
    obtain ⟨An, cn, rfl, hown⟩ := hon
    clear hown hr1 hrk hrt hN hmap hnd hin hM hb1 hrt0
    repeat' (first | apply Jbq | apply Jbr | apply Jbs | apply Jbt | apply Jby | (apply Jcg; (first | exact Jaa rfl | exact Jac Us.h rfl | (apply Jbl; exact Us.h; exact rfl; exact Sz.h; exact rfl)); exact rfl) | refine Jcg (Pu_load Fl.h rfl (fun _ e => by rw [e]; exact hb9.ld rfl)) rfl ?_)
    refine TC_loop (ι := Nat) (fun k => [(2, .slice Ac cuts.length cc), (6, .pointer (some ⟨g2, 0, none⟩)), (8, .pointer (some ⟨g5, 0, none⟩)), (41, I es0.length), (42, I k)])
      (fun k w' => k ≤ l.length ∧ Ext w w' ∧ w9.heap.size ≤ w'.heap.size ∧ Blk w' g5 33 (dskC d (.slice An es0.length cn) vk (.slice none 0 0)) ∧ RowO LkC 162 2 w' w7.heap.size w8.heap.size vk (L) ∧ Blk w' g2 33 (dskC noDk (.slice none 0 0) (.slice none 0 0) (.slice none 0 0)) ∧
        ∃ es, es.map NdP = (l.take k).mapIdx (crashP cuts) ++ l.drop k ∧ ONx w' (.slice An es0.length cn) es ∧ ∀ b ∈ bksN (.slice An es0.length cn) es, w3.heap.size ≤ b ∧ b < w'.heap.size ∧ (b < w7.heap.size ∨ w8.heap.size ≤ b) ∧ b ≠ g5) (fun k => l.length - k) 0
      (subEnv_cons rfl (subEnv_cons rfl (subEnv_cons rfl (subEnv_cons rfl (subEnv_cons rfl (subEnv_nil _)))))) ⟨Nat.zero_le _, E9, Nat.le_refl _, hb9, hok, hb2, es0, by rw [hmap9]; simp, hN9, hbk9⟩ ?_
    rintro k w10 ⟨hk10, E10, hs10, hb510, hok10, hb210, es, hes, hN10, hbk10⟩
    repeat' (first | apply Jbq | apply Jbr | apply Jbs | apply Jbt | (apply Jcg; exact Jad rfl rfl; exact rfl))
    refine Jcx rfl (fun hlt0 => ?_) (fun hge => ?_)
    · have hlt : k < l.length := by omega
      have hel : es.length = l.length := by
        have := congrArg List.length hes
        rw [List.length_map, List.length_append, List.length_mapIdx, List.length_take, List.length_drop] at this
        omega
      have hke : k < es.length := by omega
      obtain ⟨gN, cN, loN, hiN, hvN, hownN⟩ := hN10.open hke
      injection hvN with hv1 hv2 hv3
      subst hv1 hv3
      have hgN := hbk10 gN (List.mem_append.2 (.inl (List.mem_singleton.2 rfl)))
      obtain ⟨x, hx⟩ : ∃ x, x = es[k] := ⟨_, rfl⟩
      have hok2 := hN10.ok es[k] (List.getElem_mem hke)
      have hbx := bkd_in (v := .slice (some ⟨gN, 0, none⟩) es0.length cn) hke
      rw [← hx] at hok2 hbx
      have hxl : NdP x = l[k] := by
        have h1 := upd_get (crashP cuts) l k hlt
        rw [← hes, List.getElem?_map, List.getElem?_eq_getElem hke, ← hx] at h1
        injection h1
      obtain ⟨id, body, safe, vb, vs⟩ := x
      obtain ⟨hokB, hokS⟩ := hok2
      simp only at hokB hokS
      obtain ⟨Ab, cb, lob, hib, rfl, hownB⟩ := hokB.sl
      obtain ⟨As, cs, los, his, rfl, hownS⟩ := hokS.sl
      have hbl : body.length ≤ 1048576 ∧ safe.length ≤ 1048576 := by
        have h1 : (id, body, safe) ∈ d.nodes := by
          have h2 : l[k] ∈ l := List.getElem_mem hlt
          rw [← hxl, hlq] at h2
          exact onlyP_mem h2
        have h3 := totNd_mem h1
        have h4 := (totD_parts hl).1
        unfold NdW at h3
        simp only at h3
        omega
      have hcb : w10.cell? ((⟨gN, 0, none⟩ : Addr).add (k * 3) |>.add 1) = some (.slice Ab body.length cb) := by
        rw [add_lit3, hownN.row.cellAt (k * 3 + 1) (by omega), cellsL_at NdC_len es k 1 hke (by omega), ← hx]; rfl
      have hcs : w10.cell? ((⟨gN, 0, none⟩ : Addr).add (k * 3) |>.add 2) = some (.slice As safe.length cs) := by
        rw [add_lit3, hownN.row.cellAt (k * 3 + 2) (by omega), cellsL_at NdC_len es k 2 hke (by omega), ← hx]; rfl
      repeat' (first | apply Jbr | apply Jbz)
      apply Jbs
      repeat' (apply Jby)
      apply Jbs
      repeat' (first | apply Jbq | apply Jbr | apply Jbt | (apply Jcg; (first | exact Jaa rfl | exact Jab rfl); exact rfl))
      apply Jbs
      repeat' (first | apply Jbq | apply Jbr | apply Jbt | (apply Jcg; exact Jab rfl; exact rfl))
      refine TC_join (ι := Unit) (fun _ => [(2, .slice Ac cuts.length cc), (6, .pointer (some ⟨g2, 0, none⟩)), (8, .pointer (some ⟨g5, 0, none⟩)), (11, I k), (12, I (cutAt cuts k)), (41, I es0.length), (42, I k)]) (fun _ w' => w10 = w') ?_ ?_
      · repeat' (first | apply Jbq | apply Jbr | apply Jbs | apply Jbt | (apply Jcg; (first | exact Jaa rfl | exact Jac Us.h rfl | exact Jam rfl rfl); exact rfl))
        refine Jcx rfl (fun hp => ?_) (fun hp => ?_)
        · have hne : cuts.length ≠ 0 := by omega
          have hmod : ((k : Int) % (cuts.length : Int)) = ((k % cuts.length : Nat) : Int) := by omega
          have hmlt : k % cuts.length < cuts.length := Nat.mod_lt _ (by omega)
          obtain ⟨ad, rfl, hcell⟩ := (hrc.ext E10).get hmlt
          have hcv : (i64s cuts).getD (k % cuts.length) undef = I (cutAt cuts k) := by
            unfold cutAt i64s
            rw [if_neg hne]
            simp [List.getD_eq_getElem?_getD, List.getElem?_eq_getElem hmlt]
          rw [hcv] at hcell
          repeat' (first | apply Jbq | apply Jbt | (apply Jcg; (first | exact Jaa rfl | exact Jab rfl | exact Jac Us.h rfl | exact Jag Us.h Sz.h rfl rfl (by omega) | exact Jbj rfl rfl (by omega)); exact rfl) | refine Jcg (Pu_load Fl.h rfl (fun _ e => by rw [e, hmod, Int.toNat_natCast]; exact hcell)) rfl ?_)
          exact TN_join () (subEnv_cons rfl (subEnv_cons rfl (subEnv_cons rfl (subEnv_cons rfl (subEnv_cons rfl (subEnv_cons rfl (subEnv_cons rfl (subEnv_nil _)))))))) rfl
        · have hz0 : cuts.length = 0 := by omega
          repeat' (apply Jbz)
          refine TN_join () (subEnv_cons rfl (subEnv_cons rfl (subEnv_cons rfl (subEnv_cons rfl (subEnv_cons (congrArg (fun z => some (I z)) (by unfold cutAt; rw [if_pos hz0])) (subEnv_cons rfl (subEnv_cons rfl (subEnv_nil _)))))))) rfl
      rintro _ _ rfl
      repeat' (first | apply Jbq | apply Jbr | apply Jbs | apply Jbt | (apply Jcg; (first | exact Jaa rfl | exact Jab rfl | exact Jar Us.h Sz.h rfl rfl (by omega) | (apply Jbl; exact Us.h; exact rfl; exact Sz.h; exact rfl)); exact rfl) | refine Jcg (Pu_load Fl.h rfl (fun _ e => by rw [e]; exact hb510.ld rfl)) rfl ?_)
      refine TC_any mixed rfl ?_
      intro w11 hE hz11
      (refine Jco 0 rfl (by kernel_rfl) (by kernel_rfl) (by kernel_rfl) (fun _ _ _ h => h) hE (by exact Jaa rfl) rfl ?_; refine Jco 1 rfl (by kernel_rfl) (by kernel_rfl) (by kernel_rfl) (fun _ _ _ h => h) hE (by exact Jba rfl) rfl ?_; refine Jco 2 rfl (by kernel_rfl) (by kernel_rfl) (by kernel_rfl) (fun _ _ _ h => h) hE (by (apply Jbl; exact Us.h; exact rfl; exact Sz.h; exact rfl)) rfl ?_; refine Jco 3 rfl (by kernel_rfl) (by kernel_rfl) (by kernel_rfl) (fun _ _ _ h => h) hE (by exact Pu_load Fl.h rfl (fun _ e => Ext.cell e hcs)) rfl ?_; refine Jco 4 rfl (by kernel_rfl) (by kernel_rfl) (by kernel_rfl) (fun _ _ _ h => h) hE (by exact Jaa rfl) rfl ?_; refine Jco 5 rfl (by kernel_rfl) (by kernel_rfl) (by kernel_rfl) (fun _ _ _ h => h) hE (by exact Jba rfl) rfl ?_; refine Jco 6 rfl (by kernel_rfl) (by kernel_rfl) (by kernel_rfl) (fun _ _ _ h => h) hE (by (apply Jbl; exact Us.h; exact rfl; exact Sz.h; exact rfl)) rfl ?_; refine Jco 7 rfl (by kernel_rfl) (by kernel_rfl) (by kernel_rfl) (fun _ _ _ h => h) hE (by exact Pu_load Fl.h rfl (fun _ e => Ext.cell e hcb)) rfl ?_; refine Jco 8 rfl (by kernel_rfl) (by kernel_rfl) (by kernel_rfl) (fun _ _ _ h => h) hE (by exact Jaa rfl) rfl ?_)
      refine TA_one 9 (by kernel_rfl) rfl ?_
      refine TL_call rfl en70 (implTear_c (hownS.ext hE).rd (hownB.ext hE).rd (by omega) (by omega) (hownS.ext hE).cap.1 (hownB.ext hE).cap.1) rfl rfl ?_
      rintro _ w12 ⟨A2, c2, rfl, e12, ho2⟩
      have hs11 := hE.size
      have e1012 := hE.ext e12
      clear hE
      have hE := e1012
      refine Jbq (TN_any hE ?_)
      (refine Jco 10 rfl (by kernel_rfl) (by kernel_rfl) (by kernel_rfl) (fun _ _ _ h => h) hE (by exact Jab rfl) rfl ?_)
      refine TA_done (by kernel_rfl) ?_
      obtain ⟨b, hbq⟩ : ∃ b, b = tear safe body (cutAt cuts k) := ⟨_, rfl⟩
      have hb8 : b.length ≤ 1048576 := by
        have h1 := tear_le safe body (cutAt cuts k)
        rw [← hbq] at h1
        omega
      rw [← hbq] at ho2 ⊢
      repeat' (first | apply Jbr | apply Jbt | (apply Jcg; exact Jaa rfl; exact rfl))
      refine TL_call rfl en71 (copyBytes_c ho2.rd (by omega)) rfl rfl ?_
      rintro _ w13 ⟨A3, c3, rfl, e13, ho3⟩
      have hs12 := e12.size
      have hs13 := e13.size
      have e1013 := e1012.ext e13
      replace ho2 := ho2.ext e13
      repeat' ((apply Jcg; (first | exact Jba rfl | (apply Jbl; exact Us.h; exact rfl; exact Sz.h; exact rfl)); exact rfl))
      refine TL_storeOwn rfl (add_lit3 gN (k * 3) 1) rfl Sz.h rfl (hownN.ext e1013) (by omega) ?_
      intro w14 c14 hz14 hown14
      repeat' ((apply Jcg; (first | exact Jba rfl | (apply Jbl; exact Us.h; exact rfl; exact Sz.h; exact rfl)); exact rfl))
      refine TL_storeOwn rfl (add_lit3 gN (k * 3) 2) rfl Sz.h rfl hown14 (by omega) ?_
      intro w15 c15 hz15 hown15
      have hx' : es[k] = ⟨id, body, safe, .slice Ab body.length cb, .slice As safe.length cs⟩ := hx.symm
      rw [cells_body (s := b) hke hx', cells_safe (s := b) (k := k) (by rw [List.length_set]; exact hke) (List.getElem_set_self ..), List.set_set] at hown15
      have hlset : (es.set k ⟨id, b, b, .slice A2 b.length c2, .slice A3 b.length c3⟩).length = es0.length := by rw [List.length_set]; omega
      have hbn2 : ∀ x ∈ blk (.slice A2 b.length c2), w11.heap.size ≤ x ∧ x < w12.heap.size := OB.bin ⟨A2, c2, rfl, ho2⟩
      have hbn3 : ∀ x ∈ blk (.slice A3 b.length c3), w12.heap.size ≤ x ∧ x < w13.heap.size := OB.bin ⟨A3, c3, rfl, ho3⟩
      have hN15 := ONx.set (x' := ⟨id, b, b, .slice A2 b.length c2, .slice A3 b.length c3⟩) hke (hN10.ext e1013) (c14.then c15) ⟨_, _, by rw [hlset], by rw [hlset, ← hel.trans hlen0.symm]; exact hown15⟩ ⟨OB.x ⟨A2, c2, rfl, ho2⟩, OB.x ⟨A3, c3, rfl, ho3⟩⟩
        (by
          show (blk _ ++ blk _).Nodup
          rw [List.nodup_append]
          exact ⟨blk_nodup _, blk_nodup _, fun x hx y hy e => by
            have h1 := hbn2 x hx
            have h2 := hbn3 y hy
            omega⟩)
        (fun x hx => by
          right
          intro h
          have h1 := hbk10 x h
          rcases List.mem_append.1 hx with hx | hx
          · have h2 := hbn2 x hx; omega
          · have h2 := hbn3 x hx; omega)
      have hbk15 := bks_set (R := fun b => w3.heap.size ≤ b ∧ b < w15.heap.size ∧ (b < w7.heap.size ∨ w8.heap.size ≤ b) ∧ b ≠ g5) (v := .slice (some ⟨gN, 0, none⟩) es0.length cn) (es := es) (k := k) (x' := ⟨id, b, b, .slice A2 b.length c2, .slice A3 b.length c3⟩) (fun b hb => by have := hbk10 b hb; exact ⟨this.1, by omega, this.2.2⟩)
        (fun x hx => by
          rcases List.mem_append.1 hx with hx | hx
          · have h2 := hbn2 x hx
            exact ⟨by omega, by omega, by omega, by omega⟩
          · have h2 := hbn3 x hx
            exact ⟨by omega, by omega, by omega, by omega⟩)
      have hb515 := ((hb510.ext e1013).ch c14 (by simp only [Iv]; omega)).ch c15 (by simp only [Iv]; omega)
      have hb215 := ((hb210.ext e1013).ch c14 (by simp only [Iv]; omega)).ch c15 (by simp only [Iv]; omega)
      have hok15 := ((hok10.ext e1013).ch c14 (by intro j h1 h2; simp only [Iv]; omega)).ch c15 (by intro j h1 h2; simp only [Iv]; omega)
      repeat' (first | apply Jbq | apply Jbr | apply Jbt | apply Jbx | (apply Jcg; (first | exact Jaa rfl | exact Jaf rfl rfl (by omega)); exact rfl))
      exact TN_round (k + 1) (subEnv_cons rfl (subEnv_cons rfl (subEnv_cons rfl (subEnv_cons rfl (subEnv_cons rfl (subEnv_nil _)))))) ⟨hlt, Ext.then_iv (Ext.then_iv (E10.ext e1013) c14 (by omega)) c15 (by omega), by omega, hb515, hok15, hb215, es.set k ⟨id, b, b, .slice A2 b.length c2, .slice A3 b.length c3⟩, by rw [← upd_step _ _ _ hlt, ← hes, List.map_set, ← hxl, hbq]; rfl, hN15, hbk15⟩ (by omega)
    · obtain rfl : k = l.length := by omega
      rw [upd_all, hlq] at hes
      repeat' (first | apply Jbr | apply Jbs | apply Jbt | apply Jca | apply Jcb | apply Jcc | (apply Jcg; (apply Jbl; exact Us.h; exact rfl; exact Sz.h; exact rfl); exact rfl))
      refine TL_store rfl rfl Sz.h rfl hb510 rfl ?_
      intro w10' c10' hz10' hb511
      replace hb511 : Blk w10' g5 33 (dskC (crashD d t cuts) (.slice An es0.length cn) vk (.slice none 0 0)) := hb511
      replace E10 : Ext w w10' := Ext.then_iv E10 c10' (by have := E4.size; omega)
      replace hb210 := hb210.ch c10' (by simp only [Iv]; omega)
      replace hok10 := hok10.ch c10' (by intro k _ _; simp only [Iv]; omega)
      replace hN10 := hN10.ch c10' (fun b hb => by have := hbk10 b hb; simp only [Iv]; omega)
      repeat' (first | apply Jbq | apply Jbr | apply Jbs | apply Jbt | refine Jcg (Pu_loadAgg (cs := dskC (crashD d t cuts) (.slice An es0.length cn) vk (.slice none 0 0)) Us.h rfl Sz.h rfl (fun _ e j u hu => by rw [e, add0, hb511.cell]; exact hu)) rfl ?_)
      refine TL_storeAgg rfl rfl Sz.h (by show ((dskC (crashD d t cuts) (.slice An es0.length cn) vk (.slice none 0 0)).all (·.oneCell')) = true; simp only [dskC, List.all_cons, List.all_nil, hok10.rd.one]; rfl) hb210 rfl ?_
      intro w11 c11 hz11 hb11
      repeat' (first | apply Jbq | apply Jbr | apply Jbu | (apply Jcg; exact Jab rfl; exact rfl))
      exact TR_of (resA1 rfl rfl rfl hb11 Us.h rfl Sz.h) ⟨.slice An es0.length cn, vk, .slice none 0 0, rfl, Ext.then_iv E10 c11 (by omega), ODk.mk2 (d := crashD d t cuts) (Nat.le_refl _) (by rw [hes]; unfold crashD; rw [hLm]) (hN10.ch c11 (fun b hb => by have := hbk10 b hb; simp only [Iv]; omega)) (by rw [show (crashD d t cuts).kept = L from hLm]; exact hok10.ch c11 (by intro j _ _; simp only [Iv]; omega)) rfl (fun b hb => by have := hbk10 b hb; exact ⟨by omega, by omega, fun h => by have := hokb b h; omega⟩) (by omega) (by omega)⟩
end Go.Proofs.YtggaghghclomkaaGreat

/- A disk stays right whatever is done to it, and behind a loss of power: the plain law. No condition. -/
namespace Go.Proofs.YtggaghghclomkaaGreat
open Go.RowKit
/-! ### nodes and links, all at once -/
def NAll (l : List NodeP) (n : Int) : Prop := (∀ p ∈ l, 1 ≤ p.1 ∧ p.1 < n) ∧ l.Pairwise (fun a b => a.1 < b.1)
theorem nall_iff (d : DiskP) : (∀ i, nStep d i) ↔ NAll d.nodes d.next := by
  constructor
  · intro h
    refine ⟨fun p hp => ?_, ?_⟩
    · obtain ⟨i, hi, rfl⟩ := List.mem_iff_getElem.1 hp
      exact ⟨(h i hi).1, (h i hi).2.1⟩
    · rw [List.pairwise_iff_getElem]
      intro i j hi hj hij
      exact nodes_rise h j i hij hj
  · intro h i hi
    refine ⟨(h.1 _ (List.getElem_mem hi)).1, (h.1 _ (List.getElem_mem hi)).2, fun h0 => ?_⟩
    exact List.pairwise_iff_getElem.1 h.2 (i - 1) i (by omega) hi (by omega)
def KAll (l : List LkD) : Prop := (∀ x ∈ l, pName x.name = true) ∧ Asc l
theorem kall_iff (d : DiskP) : (∀ i, kStep d i) ↔ KAll d.kept := by
  constructor
  · intro h
    refine ⟨fun p hp => ?_, kept_asc h⟩
    obtain ⟨i, hi, rfl⟩ := List.mem_iff_getElem.1 hp
    exact (h i hi).1
  · intro h i hi
    refine ⟨h.1 _ (List.getElem_mem hi), fun h0 => ?_⟩
    exact List.pairwise_iff_getElem.1 h.2 (i - 1) i (by omega) hi (by omega)
/-! ### the Ids of a directory -/
theorem dIns_perm (x : LkD) : ∀ L : List LkD, (dIns x L).Perm (x :: L)
  | [] => List.Perm.refl _
  | y :: r => by
    unfold dIns
    split
    · exact List.Perm.refl _
    · exact ((dIns_perm x r).cons y).trans (List.Perm.swap x y r)
theorem id_inj : ∀ {L : List LkD}, (L.map (·.id)).Nodup → ∀ x ∈ L, ∀ y ∈ L, x.id = y.id → x = y
  | [], _, x, hx, _, _, _ => by cases hx
  | z :: r, h, x, hx, y, hy, e => by
    rw [List.map_cons, List.nodup_cons] at h
    rcases List.mem_cons.1 hx with rfl | hx
    · rcases List.mem_cons.1 hy with rfl | hy
      · rfl
      · exact absurd (show x.id ∈ r.map (·.id) from List.mem_map.2 ⟨y, hy, e.symm⟩) h.1
    · rcases List.mem_cons.1 hy with rfl | hy
      · exact absurd (show y.id ∈ r.map (·.id) from List.mem_map.2 ⟨x, by assumption, e⟩) h.1
      · exact id_inj h.2 x hx y hy e
theorem dLess_sub (L : List LkD) (s : List UInt8) : (dLess L s).Sublist L := List.filter_sublist
theorem turn_ids {L : List LkD} {t : TnD} {S : List Int} (h : (L.map (·.id) ++ ((if t.kind = 1 then [t.id] else []) ++ S)).Nodup) (ha : aOk L t) : ((pTurn L t).map (·.id) ++ S).Nodup := by
  unfold pTurn
  rcases ha with ⟨h1, _⟩ | ⟨h5, hh, _⟩ | ⟨h6, _⟩
  · rw [if_pos h1] at h ⊢
    have hp1 : ((dIns ⟨t.name, t.id⟩ L).map (·.id) ++ S).Perm (t.id :: (L.map (·.id) ++ S)) := ((dIns_perm ⟨t.name, t.id⟩ L).map (fun x : LkD => x.id)).append_right S
    have hp : ((dIns ⟨t.name, t.id⟩ L).map (·.id) ++ S).Perm (L.map (·.id) ++ ([t.id] ++ S)) :=
      hp1.trans (List.perm_middle (a := t.id) (l₁ := L.map (fun x : LkD => x.id)) (l₂ := S)).symm
    exact hp.nodup_iff.2 h
  · have h1 : ¬ t.kind = 1 := by omega
    rw [if_neg h1] at h ⊢
    rw [if_pos h5]
    rw [List.nil_append] at h
    obtain ⟨x, hx, hn, hi⟩ := dFind_mem hh
    have hs : ((dLess (dLess L t.name) t.to).map (·.id)).Sublist (L.map (·.id)) := List.Sublist.map _ ((dLess_sub _ _).trans (dLess_sub _ _))
    have hp : ((dIns ⟨t.to, dFind L t.name⟩ (dLess (dLess L t.name) t.to)).map (·.id) ++ S).Perm (dFind L t.name :: ((dLess (dLess L t.name) t.to).map (·.id) ++ S)) :=
      ((dIns_perm _ _).map (fun x : LkD => x.id)).append_right S
    refine hp.nodup_iff.2 (List.nodup_cons.2 ⟨fun hm => ?_, h.sublist (hs.append_right S)⟩)
    rw [List.nodup_append] at h
    rw [← hi] at hm
    rcases List.mem_append.1 hm with hm | hm
    · obtain ⟨y, hy, he⟩ := List.mem_map.1 hm
      have hy1 := mem_dLess hy
      have := id_inj h.1 y (mem_dLess hy1) x hx he
      subst this
      exact dHas_none (dHas_dLess L t.name) y hy1 hn
    · exact h.2.2 x.id (List.mem_map.2 ⟨x, hx, rfl⟩) x.id hm rfl
  · have h1 : ¬ t.kind = 1 := by omega
    rw [if_neg h1] at h ⊢
    rw [if_neg (by omega)]
    rw [List.nil_append] at h
    exact h.sublist ((List.Sublist.map _ (dLess_sub _ _)).append_right S)
theorem crs_drop {ts : List TnD} {k : Nat} (h : k < ts.length) : ((ts.drop k).filter (fun t => decide (t.kind = 1))).map (·.id) = (if ts[k].kind = 1 then [ts[k].id] else []) ++ ((ts.drop (k + 1)).filter (fun t => decide (t.kind = 1))).map (·.id) := by
  rw [List.drop_eq_getElem_cons h, List.filter_cons]
  split
  · rename_i h1; rw [if_pos (by simpa using h1)]; rfl
  · rename_i h1; rw [if_neg (by simpa using h1)]; rfl
theorem DOk.dirNd {d : DiskP} (h : DOk d) (k : Nat) (hk : k ≤ d.turns.length) : ((runT d.kept (d.turns.take k)).map (·.id) ++ ((d.turns.drop k).filter (fun t => decide (t.kind = 1))).map (·.id)).Nodup := by
  have h2 := (dok_iff d).1 h
  induction k with
  | zero => simpa [runT, pIds] using h2.nodup
  | succ k ih =>
    have hlt : k < d.turns.length := by omega
    have h3 := ih (by omega)
    rw [crs_drop hlt] at h3
    rw [runT_take hlt]
    exact turn_ids h3 (h2.turn k hlt)
theorem DOk.dirNodup {d : DiskP} (h : DOk d) (k : Nat) (hk : k ≤ d.turns.length) : ((runT d.kept (d.turns.take k)).map (·.id)).Nodup := ((List.nodup_append.1 (h.dirNd k hk)).1)
theorem nIds_only (l : List NodeP) (s : List Int) : nIds (onlyP l s) = (nIds l).filter (fun i => decide (i ∈ s)) := by
  unfold nIds onlyP
  rw [List.filter_map]
  rfl
theorem mapIdx_ids (f : Nat → NodeP → NodeP) (hf : ∀ i p, (f i p).1 = p.1) (l : List NodeP) : nIds (l.mapIdx f) = nIds l := by
  unfold nIds
  apply List.ext_getElem
  · simp
  · intro i h1 h2
    simp [hf]
theorem pUsed_mapIdx : ∀ (l : List NodeP) (f : Nat → NodeP → NodeP), (∀ i p, NdM (f i p) ≤ NdM p) → pUsed (l.mapIdx f) ≤ pUsed l
  | [], _, _ => by simp [pUsed]
  | p :: r, f, h => by
    have h1 := pUsed_mapIdx r (fun i => f (i + 1)) (fun i p => h (i + 1) p)
    have h2 := h 0 p
    rw [List.mapIdx_cons]
    simp only [pUsed, List.map_cons, List.sum_cons] at *
    omega
theorem NAll_of {l l' : List NodeP} {n n' : Int} (h : NAll l n) (hs : (nIds l').Sublist (nIds l)) (hn : n ≤ n') : NAll l' n' := by
  have h1 : (nIds l).Pairwise (· < ·) := by unfold nIds; rw [List.pairwise_map]; exact h.2
  have h2 : (nIds l').Pairwise (· < ·) := h1.sublist hs
  refine ⟨fun p hp => ?_, ?_⟩
  · obtain ⟨q, hq, he⟩ := List.mem_map.1 (hs.subset (List.mem_map.2 ⟨p, hp, rfl⟩))
    have := h.1 q hq
    omega
  · unfold nIds at h2; rw [List.pairwise_map] at h2; exact h2
/-- A disk whose turns were settled, the first m of them. -/
theorem DOk.turned {d : DiskP} (h : DOk d) {m : Nat} (hm : m ≤ d.turns.length) {f : Nat → NodeP → NodeP} (h1 : ∀ i p, (f i p).1 = p.1) (h2 : ∀ i p, NdM (f i p) ≤ NdM p) {L : List LkD} (hL : L = runT d.kept (d.turns.take m)) {fu : Int} (hfu : -1 ≤ fu ∧ fu ≤ 1000) :
    DOk { d with fuse := fu, nodes := (onlyP d.nodes (L.map (·.id))).mapIdx f, kept := L, turns := [] } := by
  subst hL
  have hI := (dok_iff d).1 h
  have hB := h.base
  unfold dBase at hB
  have hlen := h.dirLe m hm
  have hids := h.dirIds m hm
  have hnd := h.dirNodup m hm
  obtain ⟨L, hL⟩ : ∃ L, L = runT d.kept (d.turns.take m) := ⟨_, rfl⟩
  have hname := h.dirName m hm
  have hasc := h.asc m hm
  rw [← hL] at hlen hids hnd hname hasc ⊢
  have hon := onlyP_length d.nodes (L.map (·.id))
  have hnn := nIds_nodup h.node
  have hidl : nIds ((onlyP d.nodes (L.map (·.id))).mapIdx f) = (nIds d.nodes).filter (fun i => decide (i ∈ L.map (·.id))) := by rw [mapIdx_ids f h1, nIds_only]
  have hN := (nall_iff d).1 h.node
  rw [dok_iff]
  refine ⟨?_, (nall_iff _).2 ?_, (kall_iff _).2 ⟨hname, hasc⟩, fun j hj => absurd hj (by simp), fun j hj => absurd hj (by simp), ?_, ?_, ?_, ?_⟩
  · unfold dBase
    simp only [List.length_mapIdx, List.length_nil]
    omega
  · exact NAll_of hN (by rw [hidl]; exact List.filter_sublist) (Int.le_refl _)
  · unfold pIds
    simpa using hnd
  · have e1 : (L.map (·.id)).length ≤ ((nIds d.nodes).filter (fun i => decide (i ∈ L.map (·.id)))).length := nodup_sub_length hnd (fun x hx => List.mem_filter.2 ⟨by obtain ⟨y, hy, rfl⟩ := List.mem_map.1 hx; exact hids y hy, by simpa using hx⟩)
    have e2 : ((nIds d.nodes).filter (fun i => decide (i ∈ L.map (·.id)))).length ≤ (L.map (·.id)).length := nodup_sub_length (List.Pairwise.filter _ hnn) (fun x hx => by simpa using (List.mem_filter.1 hx).2)
    have e3 := congrArg List.length hidl
    unfold nIds at e3
    unfold pIds
    simp only [List.length_map, List.filter_nil, List.map_nil, List.append_nil] at e1 e2 e3 ⊢
    unfold nIds at e1 e2
    omega
  · intro p hp
    have : p.1 ∈ nIds ((onlyP d.nodes (L.map (·.id))).mapIdx f) := List.mem_map.2 ⟨p, hp, rfl⟩
    rw [hidl] at this
    unfold pIds
    simpa using (List.mem_filter.1 this).2
  · have := pUsed_mapIdx (onlyP d.nodes (L.map (·.id))) f h2
    have := pUsed_only (L.map (·.id)) d.nodes
    have := h.used
    simp only
    omega
theorem crashP_le (cuts : List Int) (i : Nat) (p : NodeP) : NdM (crashP cuts i p) ≤ NdM p := by
  have := tear_le p.2.2 p.2.1 (cutAt cuts i)
  unfold crashP NdM; simp only; omega
theorem DOk.crash {d : DiskP} (h : DOk d) (t : Int) (cuts : List Int) : DOk (crashD d t cuts) :=
  h.turned (f := crashP cuts) (fu := -1) (tnN_le d t) (fun _ _ => rfl) (crashP_le cuts) rfl (by omega)
theorem DOk.calm {d : DiskP} (h : DOk d) : DOk (calmD d) := by
  have hB := h.base
  unfold dBase at hB
  have h1 := h.turned (m := d.turns.length) (Nat.le_refl _) (f := fun _ p => calmP p) (fun _ _ => rfl) (fun _ p => by unfold calmP NdM; simp only; omega) (L := pDir d) (by rw [List.take_length]; rfl) (fu := d.fuse) (by omega)
  exact h1
/-! ### one node put -/
theorem ids_set {l : List NodeP} {i : Nat} {p : NodeP} (hi : i < l.length) (h : p.1 = l[i].1) : nIds (l.set i p) = nIds l := by
  unfold nIds
  rw [List.map_set, h]
  apply List.ext_getElem
  · simp
  · intro j h1 h2
    rw [List.getElem_set]
    split
    · rename_i e; subst e; simp
    · rfl
theorem pUsed_set : ∀ {l : List NodeP} {i : Nat} {p : NodeP} (hi : i < l.length), pUsed (l.set i p) = pUsed l - NdM l[i] + NdM p
  | [], i, p, hi => absurd hi (by simp)
  | q :: r, 0, p, hi => by simp only [List.set_cons_zero, pUsed, List.map_cons, List.sum_cons, List.getElem_cons_zero]; omega
  | q :: r, i + 1, p, hi => by
    have := pUsed_set (l := r) (i := i) (p := p) (by simpa using hi)
    simp only [List.set_cons_succ, pUsed, List.map_cons, List.sum_cons, List.getElem_cons_succ] at *
    omega
theorem DOk.put {d : DiskP} (h : DOk d) {i : Nat} (hi : i < d.nodes.length) {p : NodeP} (h1 : p.1 = d.nodes[i].1) (h2 : NdM p + pUsed d.nodes ≤ d.room + NdM d.nodes[i]) {fu : Int} (hfu : -1 ≤ fu ∧ fu ≤ 1000) : DOk { d with fuse := fu, nodes := d.nodes.set i p } := by
  have hI := (dok_iff d).1 h
  have hB := h.base
  unfold dBase at hB
  have he := ids_set hi h1
  rw [dok_iff]
  refine ⟨?_, (nall_iff _).2 (NAll_of ((nall_iff d).1 h.node) (by simp only; rw [he]; exact List.Sublist.refl _) (Int.le_refl _)), (kall_iff _).2 ((kall_iff d).1 hI.link), hI.turn0, hI.turn, hI.nodup, by simp only [List.length_set]; exact hI.len, ?_, ?_⟩
  · unfold dBase; simp only [List.length_set]; omega
  · intro q hq
    have : q.1 ∈ nIds (d.nodes.set i p) := List.mem_map.2 ⟨q, hq, rfl⟩
    rw [he] at this
    obtain ⟨r, hr, e⟩ := List.mem_map.1 this
    have := hI.ids r hr
    rw [e] at this
    exact this
  · simp only; rw [pUsed_set hi]; omega
theorem DOk.turnOn {d : DiskP} (h : DOk d) {t : TnD} (h0 : tOk0 t) (ha : aOk (pDir d) t) (hk : t.kind ≠ 1) (hl : d.turns.length < 40) {fu : Int} (hfu : -1 ≤ fu ∧ fu ≤ 1000) : DOk { d with fuse := fu, turns := d.turns ++ [t] } := by
  have hI := (dok_iff d).1 h
  have hB := h.base
  unfold dBase at hB
  have hp : pIds { d with fuse := fu, turns := d.turns ++ [t] } = pIds d := by unfold pIds; simp only [List.filter_append]; simp [hk]
  rw [dok_iff]
  refine ⟨?_, (nall_iff _).2 ((nall_iff d).1 h.node), (kall_iff _).2 ((kall_iff d).1 hI.link), ?_, ?_, by rw [hp]; exact hI.nodup, by rw [hp]; exact hI.len, by rw [hp]; exact hI.ids, hI.used⟩
  · unfold dBase; simp only [List.length_append, List.length_cons, List.length_nil]; omega
  · intro j hj
    simp only [List.length_append, List.length_cons, List.length_nil] at hj
    by_cases e : j < d.turns.length
    · simp only [List.getElem_append_left e]; exact hI.turn0 j e
    · simp only [List.getElem_append_right (Nat.le_of_not_lt e)]; simpa using h0
  · intro j hj
    simp only [List.length_append, List.length_cons, List.length_nil] at hj
    by_cases e : j < d.turns.length
    · simp only [List.getElem_append_left e, List.take_append_of_le_length (Nat.le_of_lt e)]; exact hI.turn j e
    · obtain rfl : j = d.turns.length := by omega
      simp only [List.getElem_append_right (Nat.le_refl _), List.take_append_of_le_length (Nat.le_refl _), List.take_length, Nat.sub_self, List.getElem_cons_zero]
      exact ha
theorem DOk.make {d : DiskP} (h : DOk d) {s : List UInt8} (hs : pName s = true) (hh : dHas (pDir d) s = false) (h8 : d.nodes.length < 8) (hn : d.next < 1000000) (hl : d.turns.length < 40) {fu : Int} (hfu : -1 ≤ fu ∧ fu ≤ 1000) :
    DOk { d with fuse := fu, next := d.next + 1, nodes := d.nodes ++ [(d.next, [], [])], turns := d.turns ++ [⟨1, s, [], d.next⟩] } := by
  have hI := (dok_iff d).1 h
  have hB := h.base
  unfold dBase at hB
  have hN := (nall_iff d).1 h.node
  have hp : (pIds { d with fuse := fu, next := d.next + 1, nodes := d.nodes ++ [(d.next, [], [])], turns := d.turns ++ [⟨1, s, [], d.next⟩] }) = pIds d ++ [d.next] := by
    unfold pIds; simp only [List.filter_append, List.map_append, List.append_assoc]; rfl
  have hlt : ∀ x ∈ pIds d, x < d.next := fun x hx => by
    obtain ⟨j, hj, rfl⟩ := List.mem_iff_getElem.1 hx
    obtain ⟨p, hp, e⟩ := List.mem_map.1 (h.ids j hj).2
    have := hN.1 p hp
    omega
  rw [dok_iff]
  refine ⟨?_, (nall_iff _).2 ⟨fun p hp => ?_, ?_⟩, (kall_iff _).2 ((kall_iff d).1 hI.link), ?_, ?_, ?_, ?_, ?_, ?_⟩
  · unfold dBase; simp only [List.length_append, List.length_cons, List.length_nil]; omega
  · rcases List.mem_append.1 hp with hp | hp
    · have := hN.1 p hp; simp only; omega
    · obtain rfl := List.mem_singleton.1 hp; simp only; omega
  · refine List.pairwise_append.2 ⟨hN.2, List.pairwise_singleton _ _, fun a ha b hb => ?_⟩
    obtain rfl := List.mem_singleton.1 hb
    exact (hN.1 a ha).2
  · intro j hj
    simp only [List.length_append, List.length_cons, List.length_nil] at hj
    by_cases e : j < d.turns.length
    · simp only [List.getElem_append_left e]; exact hI.turn0 j e
    · simp only [List.getElem_append_right (Nat.le_of_not_lt e)]
      obtain rfl : j = d.turns.length := by omega
      simp only [Nat.sub_self, List.getElem_cons_zero]
      exact ⟨hs, .inl ⟨rfl, rfl⟩⟩
  · intro j hj
    simp only [List.length_append, List.length_cons, List.length_nil] at hj
    by_cases e : j < d.turns.length
    · simp only [List.getElem_append_left e, List.take_append_of_le_length (Nat.le_of_lt e)]; exact hI.turn j e
    · obtain rfl : j = d.turns.length := by omega
      simp only [List.getElem_append_right (Nat.le_refl _), List.take_append_of_le_length (Nat.le_refl _), List.take_length, Nat.sub_self, List.getElem_cons_zero]
      exact .inl ⟨rfl, hh⟩
  · rw [hp]
    refine List.nodup_append.2 ⟨hI.nodup, List.nodup_cons.2 ⟨by simp, List.nodup_nil⟩, fun a ha b hb e => ?_⟩
    obtain rfl := List.mem_singleton.1 hb
    have := hlt a ha
    omega
  · rw [hp]; have := hI.len; simp only [List.length_append, List.length_cons, List.length_nil] at *; omega
  · intro p hp'
    rw [hp]
    rcases List.mem_append.1 hp' with hp' | hp'
    · exact List.mem_append.2 (.inl (hI.ids p hp'))
    · obtain rfl := List.mem_singleton.1 hp'; exact List.mem_append.2 (.inr (List.mem_singleton.2 rfl))
  · have := hI.used
    unfold pUsed at *
    simp only [List.map_append, List.sum_append, List.map_cons, List.map_nil, List.sum_cons, List.sum_nil, NdM, List.length_nil]
    omega
theorem fuseOf_in {d : DiskP} (h : DOk d) : -1 ≤ fuseOf d ∧ fuseOf d ≤ 1000 := by
  have hB := h.base
  unfold dBase at hB
  unfold fuseOf
  split <;> omega
theorem fuseOf_step {d : DiskP} (h : DOk d) (h0 : d.fuse ≠ 0) : (0 < d.fuse → fuseOf d = d.fuse - 1) ∧ (d.fuse = -1 → fuseOf d = -1) := by
  unfold fuseOf
  constructor
  · intro h; rw [if_pos h]
  · intro h; rw [if_neg (by omega)]; exact h
/-- A right disk stays right. -/
theorem DOk.do_ {d : DiskP} (h : DOk d) {o : OpD} (ho : pOp o = true) (hc : pCode d o = 0) : DOk (doD d o) := by
  obtain ⟨p1, p2, p3, p4, p5, p6, p7, p8, p9⟩ := pOp_parts ho
  obtain ⟨_, hch, hc1, hct, hc4, hc5⟩ := pCode_has hc
  have hfu := fuseOf_in h
  have hB := h.base
  unfold dBase at hB
  have hk : o.kind = 1 ∨ o.kind = 2 ∨ o.kind = 3 ∨ o.kind = 4 ∨ o.kind = 5 ∨ o.kind = 6 ∨ o.kind = 7 := by omega
  have hnode : o.kind ≠ 1 → o.kind ≠ 7 → ∃ i, ∃ hi : i < d.nodes.length, opAt d o = (i : Int) ∧ ndAt d o = d.nodes[i] := fun h1 h7 => h.opNode (by rw [hch h7]; simp [h1])
  unfold doD
  rcases hk with e | e | e | e | e | e | e
  · rw [if_pos e]
    exact h.make (p3 (by omega)) (by have := hch (by omega); rw [this]; simp [e]) (hc1 e).1 (hc1 e).2 (hct (.inl e)) hfu
  · rw [if_neg (by omega), if_pos e]
    obtain ⟨i, hi, h1, h2⟩ := hnode (by omega) (by omega)
    unfold ndPut
    rw [h1, Int.toNat_natCast]
    refine h.put hi (by rw [h2]) ?_ hfu
    have hu := h.used
    have hf : fitsN d o ≤ NdM (ndAt d o) + d.room - pUsed d.nodes - (ndAt d o).2.1.length := by unfold fitsN; omega
    have hl : ((o.data.take (fitsN d o).toNat).length : Int) ≤ max 0 (fitsN d o) := by rw [List.length_take]; omega
    rw [h2] at hf ⊢
    unfold NdM at *
    simp only [List.length_append]
    omega
  · rw [if_neg (by omega), if_neg (by omega), if_pos e]
    obtain ⟨i, hi, h1, h2⟩ := hnode (by omega) (by omega)
    unfold ndPut
    rw [h1, Int.toNat_natCast]
    refine h.put hi (by rw [h2]) ?_ hfu
    have hu := h.used
    rw [h2]
    unfold NdM
    simp only
    omega
  · rw [if_neg (by omega), if_neg (by omega), if_neg (by omega), if_pos e]
    obtain ⟨i, hi, h1, h2⟩ := hnode (by omega) (by omega)
    unfold ndPut
    rw [h1, Int.toNat_natCast]
    refine h.put hi (by rw [h2]) ?_ hfu
    have hu := h.used
    rw [h2]
    unfold NdM
    simp only [List.length_take]
    omega
  · rw [if_neg (by omega), if_neg (by omega), if_neg (by omega), if_neg (by omega), if_neg (by omega)]
    exact h.turnOn ⟨p3 (by omega), .inr (.inl ⟨e, p4 e, rfl⟩)⟩ (.inr (.inl ⟨e, by rw [hch (by omega)]; simp [e], hc5 e⟩)) (by simp only; omega) (hct (by omega)) hfu
  · rw [if_neg (by omega), if_neg (by omega), if_neg (by omega), if_neg (by omega), if_neg (by omega)]
    exact h.turnOn ⟨p3 (by omega), .inr (.inr ⟨e, p5 (by omega), rfl⟩)⟩ (.inr (.inr ⟨e, by rw [hch (by omega)]; simp [e]⟩)) (by simp only; omega) (hct (by omega)) hfu
  · rw [if_neg (by omega), if_neg (by omega), if_neg (by omega), if_neg (by omega), if_pos e]
    have h1 := h.turned (m := d.turns.length) (Nat.le_refl _) (f := fun _ p => p) (fun _ _ => rfl) (fun _ p => Int.le_refl _) (L := pDir d) (by rw [List.take_length]; rfl) hfu
    have h2 : (onlyP d.nodes ((pDir d).map (·.id))).mapIdx (fun _ p => p) = onlyP d.nodes ((pDir d).map (·.id)) := by
      apply List.ext_getElem
      · simp
      · intro i h1 h2; simp
    rw [h2] at h1
    exact h1
theorem DOk.pDo {d : DiskP} (h : DOk d) {o : OpD} (ho : pOp o = true) : DOk (pDo d o).1 := by
  by_cases hc : pCode d o = 0
  · rw [pDo_yes h ho hc]; exact h.do_ ho hc
  · rw [pDo_code h ho hc]; exact h
theorem doD_room (d : DiskP) (o : OpD) : (doD d o).room = d.room ∧ (doD d o).fuse = fuseOf d := by
  unfold doD
  split
  · exact ⟨rfl, rfl⟩
  · split
    · exact ⟨rfl, rfl⟩
    · split
      · exact ⟨rfl, rfl⟩
      · split
        · exact ⟨rfl, rfl⟩
        · split <;> exact ⟨rfl, rfl⟩
theorem doD_next (d : DiskP) (o : OpD) : d.next ≤ (doD d o).next ∧ (doD d o).next ≤ d.next + 1 := by
  unfold doD
  split
  · simp only; omega
  · split
    · simp only; omega
    · split
      · simp only; omega
      · split
        · simp only; omega
        · split <;> (simp only; omega)
theorem pCode_ne1 {d : DiskP} {o : OpD} : pCode d o ≠ 1 := by unfold pCode; repeat' split <;> omega
theorem pDo_parts {d : DiskP} (h : DOk d) {o : OpD} (ho : pOp o = true) : (pDo d o).2 ≠ 1 ∧ (pDo d o).1.room = d.room ∧ d.next ≤ (pDo d o).1.next ∧ (pDo d o).1.next ≤ d.next + 1 := by
  by_cases hc : pCode d o = 0
  · rw [pDo_yes h ho hc]
    refine ⟨?_, (doD_room d o).1, doD_next d o⟩
    unfold doC
    simp only
    split <;> omega
  · rw [pDo_code h ho hc]
    exact ⟨pCode_ne1, rfl, Int.le_refl _, by simp only; omega⟩
/-! ### a right disk is small -/
theorem DOk.fitsD {d : DiskP} (h : DOk d) : d.fits := by
  have hI := (dok_iff d).1 h
  have hB := h.base
  have hN := (nall_iff d).1 h.node
  have hK := (kall_iff d).1 h.link
  have hu := h.used
  unfold dBase at hB
  have hb : ∀ x ∈ pIds d, 1 ≤ x ∧ x < 1000000 := fun x hx => by
    obtain ⟨j, hj, rfl⟩ := List.mem_iff_getElem.1 hx
    obtain ⟨p, hp, e⟩ := List.mem_map.1 (h.ids j hj).2
    have := hN.1 p hp
    omega
  refine ⟨by omega, by omega, by omega, ⟨by omega, fun p hp => ?_⟩, ⟨by omega, fun x hx => ?_⟩, by omega, fun t ht => ?_⟩
  · have h1 : NdM p ≤ pUsed d.nodes := by
      clear hB hN hu hI hb
      generalize d.nodes = l at hp
      induction l with
      | nil => cases hp
      | cons a r ih =>
        have h0 := (pUsed_le r).1
        have h0' : 0 ≤ NdM a := by unfold NdM; omega
        simp only [pUsed, List.map_cons, List.sum_cons] at *
        rcases List.mem_cons.1 hp with rfl | hp
        · omega
        · have := ih hp; omega
    unfold NdM at h1
    unfold NdFit
    omega
  · have h1 := pName_len (hK.1 x hx)
    have h2 := hb _ (kept_mem hx)
    unfold LkFit
    omega
  · obtain ⟨j, hj, rfl⟩ := List.mem_iff_getElem.1 ht
    have h1 := hI.turn0 j hj
    have h2 := pName_len h1.1
    unfold TnFit
    rcases h1.2 with ⟨a, b⟩ | ⟨a, b, c⟩ | ⟨a, b, c⟩
    · have h3 := hb _ (creates_mem (List.getElem_mem hj) a)
      rw [b]; simp only [List.length_nil]; omega
    · have := pName_len b; omega
    · rw [b]; simp only [List.length_nil]; omega
theorem totNd_used : ∀ l : List NodeP, totNd l ≤ 2 * pUsed l
  | [] => by simp [totNd, pUsed]
  | p :: r => by
    have := totNd_used r
    simp only [totNd, pUsed, List.map_cons, List.sum_cons, NdW, NdM] at *
    omega
theorem totTn_le : ∀ {l : List TnD}, (∀ t ∈ l, TnW t ≤ 24) → totTn l ≤ 24 * l.length
  | [], _ => by simp [totTn]
  | x :: r, h => by
    have h1 := totTn_le (l := r) (fun y hy => h y (by simp [hy]))
    have h2 := h x (by simp)
    unfold totTn at *
    simp only [List.map_cons, List.sum_cons, List.length_cons] at *
    omega
theorem DOk.totD {d : DiskP} (h : DOk d) : totD d ≤ 200000 := by
  have hI := (dok_iff d).1 h
  have hB := h.base
  have hK := (kall_iff d).1 h.link
  have hu := h.used
  unfold dBase at hB
  have h1 := totNd_used d.nodes
  have h2 := totLk_names hK.1
  have h3 : totTn d.turns ≤ 24 * d.turns.length := totTn_le (fun t ht => by
    obtain ⟨j, hj, rfl⟩ := List.mem_iff_getElem.1 ht
    have h1 := hI.turn0 j hj
    have h2 := pName_len h1.1
    unfold TnW
    rcases h1.2 with ⟨a, b⟩ | ⟨a, b, c⟩ | ⟨a, b, c⟩
    · rw [b]; simp only [List.length_nil]; omega
    · have := pName_len b; omega
    · rw [b]; simp only [List.length_nil]; omega)
  unfold Go.Proofs.YtggaghghclomkaaGreat.totD
  omega
end Go.Proofs.YtggaghghclomkaaGreat

/- The steps between two contents, in the words of what goes from call to call. -/
namespace Go.Proofs.YtggaghghclomkaaGreat
open Go.RowKit
attribute [local irreducible] TL TC TN TX TR TQ Pu Ret
theorem specTearSteps_k {w : World} {lo hi lo2 hi2 : Nat} {v v2 : Value} {s t : List UInt8} (h : RB w lo hi v s) (h2 : RB w lo2 hi2 v2 t) (hl : s.length ≤ 1048576) (hl2 : t.length ≤ 1048576) : Ret Tryz.prog 134 #[v, v2] w fun v' w' => v' = I (tearSteps s t) ∧ Ext w w' := by
  obtain ⟨A, c, rfl, _, hr⟩ := h
  obtain ⟨A2, c2, rfl, _, hr2⟩ := h2
  exact specTearSteps_c hr hr2 (by omega) (by omega)
theorem implTearSteps_k {w : World} {lo hi lo2 hi2 : Nat} {v v2 : Value} {s t : List UInt8} (h : RB w lo hi v s) (h2 : RB w lo2 hi2 v2 t) (hl : s.length ≤ 1048576) (hl2 : t.length ≤ 1048576) : Ret Tryz.prog 145 #[v, v2] w fun v' w' => v' = I (tearSteps s t) ∧ Ext w w' := by
  obtain ⟨A, c, rfl, _, hr⟩ := h
  obtain ⟨A2, c2, rfl, _, hr2⟩ := h2
  exact implTearSteps_c hr hr2 (by omega) (by omega)
theorem specTear_k {w : World} {lo hi lo2 hi2 : Nat} {v v2 : Value} {s t : List UInt8} {k : Int} (h : RB w lo hi v s) (h2 : RB w lo2 hi2 v2 t) (hl : s.length ≤ 1048576) (hl2 : t.length ≤ 1048576) : Ret Tryz.prog 61 #[v, v2, I k] w fun v' w' => Ext w w' ∧ OB w' w.heap.size w'.heap.size v' (tear s t k) := by
  obtain ⟨A, c, rfl, hc, hr⟩ := h
  obtain ⟨A2, c2, rfl, hc2, hr2⟩ := h2
  exact (specTear_c hr hr2 (by omega) (by omega) hc hc2).mono fun v' w' ⟨A', c', hv, e, ho⟩ => ⟨e, A', c', hv, ho⟩
theorem implTear_k {w : World} {lo hi lo2 hi2 : Nat} {v v2 : Value} {s t : List UInt8} {k : Int} (h : RB w lo hi v s) (h2 : RB w lo2 hi2 v2 t) (hl : s.length ≤ 1048576) (hl2 : t.length ≤ 1048576) : Ret Tryz.prog 70 #[v, v2, I k] w fun v' w' => Ext w w' ∧ OB w' w.heap.size w'.heap.size v' (tear s t k) := by
  obtain ⟨A, c, rfl, hc, hr⟩ := h
  obtain ⟨A2, c2, rfl, hc2, hr2⟩ := h2
  exact (implTear_c hr hr2 (by omega) (by omega) hc hc2).mono fun v' w' ⟨A', c', hv, e, ho⟩ => ⟨e, A', c', hv, ho⟩
end Go.Proofs.YtggaghghclomkaaGreat

/- The steps between two contents: what the law asks of them. No condition. -/
namespace Go.Proofs.YtggaghghclomkaaGreat
open Go.RowKit

theorem tearSteps_nn (s t : List UInt8) : 0 ≤ tearSteps s t ∧ tearSteps s t ≤ s.length + t.length := by have := share_le s t; unfold tearSteps; omega
theorem tearK_in {s t : List UInt8} {k : Int} (h0 : 0 ≤ k) (h1 : k ≤ tearSteps s t) : tearK s t k = k.toNat := by unfold tearK; congr 1; omega
theorem tear_zero (s t : List UInt8) : tear s t 0 = s := by
  have := tearSteps_nn s t
  unfold tear
  rw [tearK_in (by omega) (by omega), if_pos (by simp)]
  simp
theorem tear_all (s t : List UInt8) : tear s t (tearSteps s t) = t := by
  have h := tearSteps_nn s t
  have hs := share_le s t
  have ht := share_take s t
  unfold tear
  rw [tearK_in h.1 (Int.le_refl _)]
  by_cases hc : (tearSteps s t).toNat ≤ s.length - share s t
  · rw [if_pos hc]
    unfold tearSteps at hc ⊢
    rw [show s.length - ((s.length : Int) + t.length - 2 * (share s t : Int)).toNat = share s t by omega, ht, List.take_of_length_le (by omega)]
  · rw [if_neg hc]
    unfold tearSteps at hc ⊢
    rw [List.take_of_length_le (by omega)]
theorem share_self : ∀ s : List UInt8, share s s = s.length
  | [] => rfl
  | a :: x => by simp [share, share_self x]
theorem tear_self (s : List UInt8) (k : Int) : tear s s k = s := by
  have h : tearK s s k = 0 := by unfold tearK tearSteps; rw [share_self]; omega
  unfold tear
  rw [h, if_pos (by omega)]
  simp
theorem tear_step (s t : List UInt8) (i : Nat) (h : (i : Int) < tearSteps s t) :
    ((tear s t i).length = (tear s t ((i : Int) + 1)).length + 1 ∧ (tear s t i).take (tear s t ((i : Int) + 1)).length = tear s t ((i : Int) + 1)) ∨
    ((tear s t ((i : Int) + 1)).length = (tear s t i).length + 1 ∧ (tear s t ((i : Int) + 1)).take (tear s t i).length = tear s t i) := by
  have hs := share_le s t
  have ht := share_take s t
  have h2 : (i : Int) + 1 ≤ s.length + t.length - 2 * (share s t : Int) := by unfold tearSteps at h; omega
  have k0 : tearK s t i = i := by rw [tearK_in (by omega) (by omega)]; omega
  have k1 : tearK s t ((i : Int) + 1) = i + 1 := by rw [tearK_in (by omega) (by omega)]; omega
  unfold tear
  rw [k0, k1]
  by_cases h1 : i + 1 ≤ s.length - share s t
  · left
    rw [if_pos h1, if_pos (by omega)]
    refine ⟨by simp only [List.length_take]; omega, ?_⟩
    rw [List.take_take, List.length_take]
    congr 1; omega
  · right
    rw [if_neg h1]
    by_cases h3 : i ≤ s.length - share s t
    · rw [if_pos h3, show s.length - i = share s t by omega, ht]
      refine ⟨by simp only [List.length_take]; omega, ?_⟩
      rw [List.take_take, List.length_take]
      congr 1; omega
    · rw [if_neg h3]
      refine ⟨by simp only [List.length_take]; omega, ?_⟩
      rw [List.take_take, List.length_take]
      congr 1; omega
end Go.Proofs.YtggaghghclomkaaGreat

/- What a name reads as on a disk, before and behind an operation and a loss of power: the plain law. No condition. -/
namespace Go.Proofs.YtggaghghclomkaaGreat
open Go.RowKit
theorem node_inj {d : DiskP} (h : DOk d) {p q : NodeP} (hp : p ∈ d.nodes) (hq : q ∈ d.nodes) (e : p.1 = q.1) : p = q := by
  obtain ⟨i, hi, rfl⟩ := List.mem_iff_getElem.1 hp
  obtain ⟨j, hj, rfl⟩ := List.mem_iff_getElem.1 hq
  have h1 := ((nall_iff d).1 h.node).2
  rw [List.pairwise_iff_getElem] at h1
  rcases Nat.lt_trichotomy i j with h2 | h2 | h2
  · have := h1 i j hi hj h2; omega
  · subst h2; rfl
  · have := h1 j i hj hi h2; omega
/-- A name is linked to a node, in a directory. -/
structure HasL (L : List LkD) (l : List NodeP) (s : List UInt8) (p : NodeP) : Prop where
  there : dHas L s = true
  mem : p ∈ l
  id : p.1 = dFind L s
abbrev Has (d : DiskP) (s : List UInt8) (p : NodeP) : Prop := HasL (pDir d) d.nodes s p
section
variable {d : DiskP} {s t : List UInt8} {p q p' : NodeP} {fu : Int}
theorem DOk.has (h : DOk d) (hh : dHas (pDir d) s = true) : ∃ p, Has d s p := by
  obtain ⟨i, hi, _, h2⟩ := h.dirAt hh
  exact ⟨d.nodes[i], hh, List.getElem_mem hi, h2⟩
theorem Has.at_ (h : DOk d) (H : Has d s p) : ∃ i, ∃ hi : i < d.nodes.length, nAt d.nodes (dFind (pDir d) s) = (i : Int) ∧ d.nodes[i] = p := by
  obtain ⟨i, hi, h1, h2⟩ := h.dirAt H.there
  exact ⟨i, hi, h1, node_inj h (List.getElem_mem hi) H.mem (h2.trans H.id.symm)⟩
theorem Has.read (h : DOk d) (H : Has d s p) : pRead d s = (p.2.1, true) := by
  obtain ⟨i, hi, h1, h2⟩ := H.at_ h
  rw [pRead_yes h H.there, h1, bodyAt_nat hi, h2]
theorem Has.uniq (h : DOk d) (H : Has d s p) (K : Has d s q) : p = q := node_inj h H.mem K.mem (H.id.trans K.id.symm)
theorem read_none (hh : dHas (pDir d) s = false) : pRead d s = ([], false) := pRead_no (fun h => by rw [hh] at h; exact absurd h.2 (by decide))
theorem read_iff (h : DOk d) : (pRead d s).2 = dHas (pDir d) s := by
  cases hh : dHas (pDir d) s with
  | true => obtain ⟨p, hp⟩ := h.has hh; rw [hp.read h]
  | false => rw [read_none hh]
/-- One node is put. -/
def putN (d : DiskP) (s : List UInt8) (p' : NodeP) : DiskP := { d with fuse := fuseOf d, nodes := d.nodes.set (nAt d.nodes (dFind (pDir d) s)).toNat p' }
theorem putN_dir : pDir (putN d s p') = pDir d := rfl
theorem Has.put (h : DOk d) (H : Has d s p) (e : p'.1 = p.1) : Has (putN d s p') s p' := by
  obtain ⟨i, hi, h1, h2⟩ := H.at_ h
  refine ⟨H.there, ?_, e.trans H.id⟩
  unfold putN
  simp only
  rw [h1, Int.toNat_natCast]
  exact List.mem_set hi p'
theorem Has.put_other (h : DOk d) (H : Has d s p) {L : List LkD} (K : HasL L d.nodes t q) (hne : q.1 ≠ p.1) : HasL L (putN d s p').nodes t q := by
  obtain ⟨i, hi, h1, h2⟩ := H.at_ h
  refine ⟨K.there, ?_, K.id⟩
  unfold putN
  simp only
  rw [h1, Int.toNat_natCast]
  obtain ⟨j, hj, hq⟩ := List.mem_iff_getElem.1 K.mem
  have hij : i ≠ j := fun e => by subst e; rw [h2] at hq; exact hne (by rw [hq])
  exact List.mem_iff_getElem.2 ⟨j, by rw [List.length_set]; exact hj, by rw [List.getElem_set, if_neg hij]; exact hq⟩
theorem putN_nodes (h : DOk d) (H : Has d s p) : ∃ i, i < d.nodes.length ∧ (putN d s p').nodes = d.nodes.set i p' := by
  obtain ⟨i, hi, h1, h2⟩ := H.at_ h
  exact ⟨i, hi, by unfold putN; simp only; rw [h1, Int.toNat_natCast]⟩
/-! ### the operations -/
abbrev oMk (s : List UInt8) : OpD := ⟨1, s, [], 0, []⟩
abbrev oApp (s b : List UInt8) : OpD := ⟨2, s, [], 0, b⟩
abbrev oSync (s : List UInt8) : OpD := ⟨3, s, [], 0, []⟩
abbrev oCut (s : List UInt8) (n : Int) : OpD := ⟨4, s, [], n, []⟩
abbrev oRen (s t : List UInt8) : OpD := ⟨5, s, t, 0, []⟩
abbrev oRm (s : List UInt8) : OpD := ⟨6, s, [], 0, []⟩
abbrev oDir : OpD := ⟨7, [], [], 0, []⟩
def newD (d : DiskP) (s : List UInt8) : DiskP := { d with fuse := fuseOf d, next := d.next + 1, nodes := d.nodes ++ [(d.next, [], [])], turns := d.turns ++ [⟨1, s, [], d.next⟩] }
def turnD (d : DiskP) (t : TnD) : DiskP := { d with fuse := fuseOf d, turns := d.turns ++ [t] }
def dirD (d : DiskP) : DiskP := { d with fuse := fuseOf d, nodes := onlyP d.nodes ((pDir d).map (·.id)), kept := pDir d, turns := [] }
/-- How many bytes of b still fit behind a node. -/
def roomN (d : DiskP) (p : NodeP) (b : List UInt8) : Int := min (NdM p + d.room - pUsed d.nodes - p.2.1.length) b.length
theorem pDo_fuse (h : DOk d) {o : OpD} (ho : pOp o = true) (h0 : d.fuse = 0) : pDo d o = (d, 2) := by
  have : pCode d o = 2 := by unfold pCode; rw [if_pos h0]
  rw [pDo_code h ho (by rw [this]; decide), this]
theorem op_at (h : DOk d) (H : Has d s p) {o : OpD} (e : o.name = s) : ndAt d o = p := by
  subst e
  obtain ⟨i, hi, h1, h2⟩ := H.at_ h
  unfold ndAt opAt
  rw [h1, Int.toNat_natCast, List.getD_eq_getElem?_getD, List.getElem?_eq_getElem hi, h2]
  rfl
theorem pDo_app (h : DOk d) (h0 : d.fuse ≠ 0) (H : Has d s p) (hs : pName s = true) {b : List UInt8} (hb : b.length ≤ 60000) :
    pDo d (oApp s b) = (putN d s (p.1, p.2.1 ++ b.take (roomN d p b).toNat, p.2.2), if roomN d p b < b.length then 5 else 0) := by
  have ho : pOp (oApp s b) = true := by unfold pOp; simp [hs, hb]
  have hc : pCode d (oApp s b) = 0 := by unfold pCode; simp [h0, H.there]
  have hn := op_at h H (o := oApp s b) rfl
  rw [pDo_yes h ho hc]
  unfold doD doC fitsN ndPut
  rw [hn, if_neg (by simp), if_pos rfl]
  refine Prod.ext rfl ?_
  simp only [true_and]
  rfl
theorem pDo_sync (h : DOk d) (h0 : d.fuse ≠ 0) (H : Has d s p) (hs : pName s = true) : pDo d (oSync s) = (putN d s (p.1, p.2.1, p.2.1), 0) := by
  have ho : pOp (oSync s) = true := by unfold pOp; simp [hs]
  have hc : pCode d (oSync s) = 0 := by unfold pCode; simp [h0, H.there]
  have hn := op_at h H (o := oSync s) rfl
  rw [pDo_yes h ho hc]
  unfold doD doC ndPut
  rw [hn, if_neg (by simp), if_neg (by simp), if_pos rfl, if_neg (by simp)]
  rfl
theorem pDo_cut (h : DOk d) (h0 : d.fuse ≠ 0) (H : Has d s p) (hs : pName s = true) {n : Nat} (hn1 : n ≤ p.2.1.length) (hn2 : n ≤ 60000) : pDo d (oCut s n) = (putN d s (p.1, p.2.1.take n, p.2.2), 0) := by
  have ho : pOp (oCut s n) = true := by unfold pOp; simp [hs]; omega
  have hb : ((bodyAt d (opAt d (oCut s n))).length : Int) = p.2.1.length := by
    obtain ⟨i, hi, h1, h2⟩ := H.at_ h
    unfold opAt
    simp only
    rw [h1, bodyAt_nat hi, h2]
  have hc : pCode d (oCut s n) = 0 := by
    rw [pCode_4 rfl, if_neg h0, hb]
    simp only [H.there]
    rw [if_neg (by simp), if_neg (by omega)]
  have hn := op_at h H (o := oCut s n) rfl
  rw [pDo_yes h ho hc]
  unfold doD doC ndPut
  rw [hn, if_neg (by simp), if_neg (by simp), if_neg (by simp), if_pos rfl, if_neg (by simp)]
  simp only [Int.toNat_natCast]
  rfl
theorem pDo_rm (h : DOk d) (h0 : d.fuse ≠ 0) (H : Has d s p) (hs : pName s = true) (hl : d.turns.length < 40) : pDo d (oRm s) = (turnD d ⟨6, s, [], 0⟩, 0) := by
  have ho : pOp (oRm s) = true := by unfold pOp; simp [hs]
  have hc : pCode d (oRm s) = 0 := by rw [pCode_6 rfl, if_neg h0]; simp only [H.there]; rw [if_neg (by simp), if_neg (by omega)]
  rw [pDo_yes h ho hc]
  unfold doD doC
  rw [if_neg (by simp), if_neg (by simp), if_neg (by simp), if_neg (by simp), if_neg (by simp), if_neg (by simp)]
  rfl
theorem pDo_ren (h : DOk d) (h0 : d.fuse ≠ 0) (H : Has d s p) (hs : pName s = true) (ht : pName t = true) (hne : t ≠ s) (hl : d.turns.length < 40) : pDo d (oRen s t) = (turnD d ⟨5, s, t, 0⟩, 0) := by
  have ho : pOp (oRen s t) = true := by unfold pOp; simp [hs, ht]
  have hc : pCode d (oRen s t) = 0 := by rw [pCode_5 rfl, if_neg h0]; simp only [H.there]; rw [if_neg (by simp), if_neg (by omega), if_neg hne]
  rw [pDo_yes h ho hc]
  unfold doD doC
  rw [if_neg (by simp), if_neg (by simp), if_neg (by simp), if_neg (by simp), if_neg (by simp), if_neg (by simp)]
  rfl
theorem pDo_dir (h : DOk d) (h0 : d.fuse ≠ 0) : pDo d oDir = (dirD d, 0) := by
  have ho : pOp oDir = true := by unfold pOp; simp
  have hc : pCode d oDir = 0 := by rw [pCode_7 rfl, if_neg h0]
  rw [pDo_yes h ho hc]
  unfold doD doC
  rw [if_neg (by simp), if_neg (by simp), if_neg (by simp), if_neg (by simp), if_pos rfl, if_neg (by simp)]
  rfl
theorem pDo_mk (h : DOk d) (h0 : d.fuse ≠ 0) (hh : dHas (pDir d) s = false) (hs : pName s = true) (hl : d.turns.length < 40) :
    (8 ≤ d.nodes.length ∨ 1000000 ≤ d.next) ∧ pDo d (oMk s) = (d, 4) ∨ ¬ (8 ≤ d.nodes.length ∨ 1000000 ≤ d.next) ∧ pDo d (oMk s) = (newD d s, 0) := by
  have ho : pOp (oMk s) = true := by unfold pOp; simp [hs]
  by_cases hx : 8 ≤ d.nodes.length ∨ 1000000 ≤ d.next
  · left
    have hc : pCode d (oMk s) = 4 := by rw [pCode_1 rfl, if_neg h0]; simp only [hh]; rw [if_neg (by simp), if_pos (by omega)]
    rw [pDo_code h ho (by rw [hc]; decide), hc]
    exact ⟨hx, rfl⟩
  · right
    have hc : pCode d (oMk s) = 0 := by rw [pCode_1 rfl, if_neg h0]; simp only [hh]; rw [if_neg (by simp), if_neg (by omega)]
    rw [pDo_yes h ho hc]
    refine ⟨hx, ?_⟩
    unfold doD doC
    rw [if_pos rfl, if_neg (by simp)]
    rfl
/-! ### directories -/
theorem dHas_mem {L : List LkD} {x : LkD} (h : x ∈ L) : dHas L x.name = true := by unfold dHas; rw [List.any_eq_true]; exact ⟨x, h, by simp⟩
theorem dHas_iff {L : List LkD} {s : List UInt8} : dHas L s = true ↔ ∃ x ∈ L, x.name = s := by unfold dHas; rw [List.any_eq_true]; simp
theorem dFind_of {L : List LkD} (ha : Asc L) {x : LkD} (hx : x ∈ L) : dFind L x.name = x.id := by
  obtain ⟨y, hy, hn, hi⟩ := dFind_mem (dHas_mem hx)
  rw [← hi]
  have h1 := ha
  unfold Asc at h1
  rw [List.pairwise_iff_getElem] at h1
  obtain ⟨i, hi1, rfl⟩ := List.mem_iff_getElem.1 hx
  obtain ⟨j, hj1, rfl⟩ := List.mem_iff_getElem.1 hy
  rcases Nat.lt_trichotomy i j with h2 | h2 | h2
  · have := h1 i j hi1 hj1 h2; rw [hn, bb_irrefl] at this; cases this
  · subst h2; rfl
  · have := h1 j i hj1 hi1 h2; rw [hn, bb_irrefl] at this; cases this
theorem ins_has (x : LkD) (L : List LkD) (s : List UInt8) : dHas (dIns x L) s = (decide (x.name = s) || dHas L s) := by
  rw [Bool.eq_iff_iff]
  simp only [Bool.or_eq_true, decide_eq_true_eq, dHas_iff, mem_dIns]
  constructor
  · rintro ⟨y, rfl | hy, h⟩
    · exact .inl h
    · exact .inr ⟨y, hy, h⟩
  · rintro (h | ⟨y, hy, h⟩)
    · exact ⟨x, .inl rfl, h⟩
    · exact ⟨y, .inr hy, h⟩
theorem less_has (L : List LkD) (s t : List UInt8) : dHas (dLess L t) s = (!decide (s = t) && dHas L s) := by
  rw [Bool.eq_iff_iff]
  simp only [Bool.and_eq_true, Bool.not_eq_true', decide_eq_false_iff_not, dHas_iff, dLess, List.mem_filter]
  constructor
  · rintro ⟨y, ⟨hy, h1⟩, rfl⟩
    exact ⟨by simpa using h1, y, hy, rfl⟩
  · rintro ⟨h1, y, hy, rfl⟩
    exact ⟨y, ⟨hy, by simpa using h1⟩, rfl⟩
theorem ins_find {x : LkD} {L : List LkD} (ha : Asc L) (hx : dHas L x.name = false) (s : List UInt8) : dFind (dIns x L) s = if x.name = s then x.id else dFind L s := by
  have ha2 := asc_dIns ha hx
  split
  · rename_i e; subst e; exact dFind_of ha2 ((mem_dIns L).2 (.inl rfl))
  · rename_i e
    cases hh : dHas L s with
    | true =>
      obtain ⟨y, hy, rfl, hi⟩ := dFind_mem hh
      rw [dFind_of ha2 ((mem_dIns L).2 (.inr hy)), hi]
    | false =>
      rw [dFind_none hh, dFind_none (by rw [ins_has, hh]; simp [e])]
theorem less_find {L : List LkD} (ha : Asc L) {s t : List UInt8} (h : s ≠ t) : dFind (dLess L t) s = dFind L s := by
  have ha2 := asc_dLess ha t
  cases hh : dHas L s with
  | true =>
    obtain ⟨y, hy, rfl, hi⟩ := dFind_mem hh
    rw [← hi]
    exact dFind_of ha2 (List.mem_filter.2 ⟨hy, by simpa using h⟩)
  | false => rw [dFind_none hh, dFind_none (by rw [less_has, hh]; simp)]
theorem DOk.ascD (h : DOk d) : Asc (pDir d) := by have := h.asc d.turns.length (Nat.le_refl _); rw [List.take_length] at this; exact this
theorem runT_snoc (L : List LkD) (ts : List TnD) (t : TnD) : runT L (ts ++ [t]) = pTurn (runT L ts) t := by unfold runT; rw [List.foldl_append]; rfl
theorem turnD_dir (t : TnD) : pDir (turnD d t) = pTurn (pDir d) t := runT_snoc _ _ _
theorem newD_dir : pDir (newD d s) = dIns ⟨s, d.next⟩ (pDir d) := by unfold newD pDir; simp only; rw [runT_snoc]; unfold pTurn; rw [if_pos rfl]
theorem dirD_dir : pDir (dirD d) = pDir d := rfl
theorem rm_dir : pDir (turnD d ⟨6, s, [], 0⟩) = dLess (pDir d) s := by rw [turnD_dir]; unfold pTurn; rw [if_neg (by simp), if_neg (by simp)]
theorem ren_dir : pDir (turnD d ⟨5, s, t, 0⟩) = dIns ⟨t, dFind (pDir d) s⟩ (dLess (dLess (pDir d) s) t) := by rw [turnD_dir]; unfold pTurn; rw [if_neg (by simp), if_pos rfl]
theorem Has.dir (H : Has d s p) : Has (dirD d) s p := by
  refine ⟨H.there, List.mem_filter.2 ⟨H.mem, ?_⟩, H.id⟩
  obtain ⟨x, hx, _, hi⟩ := dFind_mem H.there
  rw [H.id, ← hi]
  simpa using ⟨x, hx, rfl⟩
theorem Has.rm (h : DOk d) (H : Has d s p) (hne : s ≠ t) : Has (turnD d ⟨6, t, [], 0⟩) s p := by
  refine ⟨?_, H.mem, ?_⟩
  · rw [rm_dir, less_has, H.there]; simp [hne]
  · rw [rm_dir, less_find h.ascD hne]; exact H.id
theorem Has.newOld (h : DOk d) (H : Has d s p) (hn : dHas (pDir d) t = false) : Has (newD d t) s p := by
  have hne : t ≠ s := fun e => by subst e; rw [H.there] at hn; cases hn
  refine ⟨?_, List.mem_append.2 (.inl H.mem), ?_⟩
  · rw [newD_dir, ins_has, H.there]; simp
  · rw [newD_dir, ins_find h.ascD hn]; simp only [hne, if_false]; exact H.id
theorem Has.newNew (h : DOk d) (hn : dHas (pDir d) t = false) : Has (newD d t) t (d.next, [], []) := by
  refine ⟨?_, List.mem_append.2 (.inr (List.mem_singleton.2 rfl)), ?_⟩
  · rw [newD_dir, ins_has]; simp
  · rw [newD_dir, ins_find h.ascD hn]; simp
theorem Has.ren (h : DOk d) (H : Has d s p) : Has (turnD d ⟨5, s, t, 0⟩) t p := by
  have ha : Asc (dLess (dLess (pDir d) s) t) := asc_dLess (asc_dLess h.ascD s) t
  refine ⟨?_, H.mem, ?_⟩
  · rw [ren_dir, ins_has]; simp
  · rw [ren_dir, ins_find ha (dHas_dLess _ _)]; simp only [if_true]; exact H.id
theorem ren_gone (hne : s ≠ t) : dHas (pDir (turnD d ⟨5, s, t, 0⟩)) s = false := by
  rw [ren_dir, ins_has, less_has, less_has]; simp [Ne.symm hne]
/-! ### behind a loss of power -/
theorem HasL.crash (h : DOk d) {tn : Int} {cuts : List Int} (H : HasL (runT d.kept (d.turns.take (tnN d tn))) d.nodes s p) : ∃ i, Has (crashD d tn cuts) s (crashP cuts i p) := by
  have hin : p ∈ onlyP d.nodes ((runT d.kept (d.turns.take (tnN d tn))).map (·.id)) := by
    refine List.mem_filter.2 ⟨H.mem, ?_⟩
    obtain ⟨x, hx, _, hi⟩ := dFind_mem H.there
    rw [H.id, ← hi]
    simpa using ⟨x, hx, rfl⟩
  obtain ⟨i, hi, he⟩ := List.mem_iff_getElem.1 hin
  refine ⟨i, H.there, ?_, H.id⟩
  exact List.mem_iff_getElem.2 ⟨i, by unfold crashD; simpa using hi, by unfold crashD; simp [he]⟩
theorem crash_dir (tn : Int) (cuts : List Int) : pDir (crashD d tn cuts) = runT d.kept (d.turns.take (tnN d tn)) := rfl
theorem only_all (h : DOk d) (ht : d.turns = []) : onlyP d.nodes (d.kept.map (·.id)) = d.nodes := by
  unfold onlyP
  rw [List.filter_eq_self]
  intro p hp
  have := ((dok_iff d).1 h).ids p hp
  unfold pIds at this
  rw [ht] at this
  simpa using this
theorem crash_fix (h : DOk d) (ht : d.turns = []) (hs : ∀ p ∈ d.nodes, p.2.2 = p.2.1) (tn : Int) (cuts : List Int) : crashD d tn cuts = { d with fuse := -1 } := by
  unfold crashD
  rw [ht]
  simp only [List.take_nil]
  rw [show runT d.kept [] = d.kept from rfl, only_all h ht]
  have : d.nodes.mapIdx (crashP cuts) = d.nodes := by
    apply List.ext_getElem
    · simp
    · intro i h1 h2
      have := hs d.nodes[i] (List.getElem_mem h2)
      rw [List.getElem_mapIdx]
      unfold crashP
      rw [this, tear_self, ← this]
      exact Prod.ext rfl (Prod.ext this rfl)
  rw [this, ← ht]
theorem crash_even {tn : Int} {cuts : List Int} : ∀ p ∈ (crashD d tn cuts).nodes, p.2.2 = p.2.1 := by
  intro p hp
  unfold crashD at hp
  simp only at hp
  obtain ⟨i, hi, rfl⟩ := List.mem_iff_getElem.1 hp
  rw [List.getElem_mapIdx]
  rfl
theorem calm_even : ∀ p ∈ (calmD d).nodes, p.2.2 = p.2.1 := by
  intro p hp
  unfold calmD at hp
  simp only at hp
  obtain ⟨i, hi, rfl⟩ := List.mem_iff_getElem.1 hp
  rw [List.getElem_mapIdx]
  rfl
theorem Has.calm (H : Has d s p) : Has (calmD d) s (calmP p) := by
  have hin : p ∈ onlyP d.nodes ((pDir d).map (·.id)) := by
    refine List.mem_filter.2 ⟨H.mem, ?_⟩
    obtain ⟨x, hx, _, hi⟩ := dFind_mem H.there
    rw [H.id, ← hi]
    simpa using ⟨x, hx, rfl⟩
  obtain ⟨i, hi, he⟩ := List.mem_iff_getElem.1 hin
  refine ⟨H.there, ?_, H.id⟩
  exact List.mem_iff_getElem.2 ⟨i, by unfold calmD; simpa using hi, by unfold calmD; simp [he]⟩
theorem calm_read (h : DOk d) : pRead (calmD d) s = pRead d s := by
  cases hh : dHas (pDir d) s with
  | true => obtain ⟨p, H⟩ := h.has hh; rw [H.read h, H.calm.read h.calm]; rfl
  | false => rw [read_none hh, read_none (show dHas (pDir (calmD d)) s = false from hh)]
end
end Go.Proofs.YtggaghghclomkaaGreat

/- Operations one after another: the plain law. No condition. -/
namespace Go.Proofs.YtggaghghclomkaaGreat
open Go.RowKit
noncomputable def pRun : DiskP → Nat → List OpD → DiskP × Nat × Int
  | d, i, [] => (d, i, 0)
  | d, i, o :: l => open Classical in if (pDo d o).2 = 0 then pRun (pDo d o).1 (i + 1) l else ((pDo d o).1, i, (pDo d o).2)
theorem pRun_nil (d : DiskP) (i : Nat) : pRun d i [] = (d, i, 0) := by unfold pRun; rfl
theorem pRun_go {d : DiskP} {i : Nat} {o : OpD} {l : List OpD} (h : (pDo d o).2 = 0) : pRun d i (o :: l) = pRun (pDo d o).1 (i + 1) l := by conv => lhs; unfold pRun; rw [if_pos h]
theorem pRun_stop {d : DiskP} {i : Nat} {o : OpD} {l : List OpD} (h : (pDo d o).2 ≠ 0) : pRun d i (o :: l) = ((pDo d o).1, i, (pDo d o).2) := by conv => lhs; unfold pRun; rw [if_neg h]
open Classical in
noncomputable def pRuns (d : DiskP) (l : List OpD) : DiskP × Nat × Int := if DOk d then pRun d 0 l else (noDk, 0, 1)
theorem pRuns_yes {d : DiskP} {l : List OpD} (h : DOk d) : pRuns d l = pRun d 0 l := by unfold pRuns; exact if_pos h
theorem pRuns_no {d : DiskP} {l : List OpD} (h : ¬ DOk d) : pRuns d l = (noDk, 0, 1) := by unfold pRuns; exact if_neg h
theorem pDo_zero {d : DiskP} {o : OpD} (h : (pDo d o).2 = 0) : DOk d ∧ pOp o = true ∧ DOk (pDo d o).1 := by
  by_cases hp : DOk d ∧ pOp o = true
  · exact ⟨hp.1, hp.2, hp.1.pDo hp.2⟩
  · rw [pDo_no hp] at h; exact absurd h (by decide)
theorem pDo_tot (d : DiskP) (o : OpD) : totD (pDo d o).1 ≤ 1048576 := by
  by_cases hp : DOk d ∧ pOp o = true
  · have := (hp.1.pDo hp.2).totD; omega
  · rw [pDo_no hp, totD_no]; decide
theorem noDk_fits : noDk.fits := by unfold DiskP.fits noDk; simp
theorem pDo_fits (d : DiskP) (o : OpD) : (pDo d o).1.fits := by
  by_cases hp : DOk d ∧ pOp o = true
  · exact (hp.1.pDo hp.2).fitsD
  · rw [pDo_no hp]; exact noDk_fits
theorem pRun_tot : ∀ (l : List OpD) {d : DiskP} (i : Nat), totD d ≤ 1048576 → totD (pRun d i l).1 ≤ 1048576
  | [], d, i, h => by rw [pRun_nil]; exact h
  | o :: l, d, i, h => by
    by_cases h0 : (pDo d o).2 = 0
    · rw [pRun_go h0]; exact pRun_tot l (i + 1) (pDo_tot d o)
    · rw [pRun_stop h0]; exact pDo_tot d o
theorem pRuns_tot {d : DiskP} {l : List OpD} (h : totD d ≤ 1048576) : totD (pRuns d l).1 ≤ 1048576 := by
  by_cases hd : DOk d
  · rw [pRuns_yes hd]; exact pRun_tot l 0 h
  · rw [pRuns_no hd, totD_no]; decide
theorem pRun_le : ∀ (l : List OpD) (d : DiskP) (i : Nat), i ≤ (pRun d i l).2.1 ∧ (pRun d i l).2.1 ≤ i + l.length
  | [], d, i => by rw [pRun_nil]; simp
  | o :: l, d, i => by
    by_cases h0 : (pDo d o).2 = 0
    · rw [pRun_go h0]; have := pRun_le l (pDo d o).1 (i + 1); simp only [List.length_cons]; omega
    · rw [pRun_stop h0]; simp only [List.length_cons]; omega
/-- The fuse counts what is done. -/
theorem pDo_burn {d : DiskP} (h : DOk d) {o : OpD} (ho : pOp o = true) (hf : 0 ≤ d.fuse) : 0 ≤ (pDo d o).1.fuse ∧ (pDo d o).1.fuse ≤ d.fuse ∧ ((pDo d o).2 = 0 → (pDo d o).1.fuse + 1 = d.fuse) := by
  by_cases hc : pCode d o = 0
  · rw [pDo_yes h ho hc]
    obtain ⟨h0, _⟩ := pCode_has hc
    have h1 := fuseOf_step h h0
    rw [(doD_room d o).2]
    have := h1.1 (by omega)
    refine ⟨by omega, by omega, fun _ => by omega⟩
  · rw [pDo_code h ho hc]
    exact ⟨hf, Int.le_refl _, fun e => absurd e hc⟩
theorem pRun_burn : ∀ (l : List OpD) {d : DiskP} (i : Nat), DOk d → (∀ o ∈ l, pOp o = true) → 0 ≤ d.fuse → 0 ≤ (pRun d i l).1.fuse ∧ (pRun d i l).1.fuse + (pRun d i l).2.1 ≤ d.fuse + i
  | [], d, i, h, _, hf => by rw [pRun_nil]; simp only; omega
  | o :: l, d, i, h, ho, hf => by
    have hb := pDo_burn h (ho o (List.mem_cons_self ..)) hf
    by_cases h0 : (pDo d o).2 = 0
    · rw [pRun_go h0]
      have := pRun_burn l (i + 1) (pDo_zero h0).2.2 (fun x hx => ho x (List.mem_cons_of_mem _ hx)) hb.1
      have := hb.2.2 h0
      omega
    · rw [pRun_stop h0]
      simp only
      omega
end Go.Proofs.YtggaghghclomkaaGreat

/- Contracts: sizes and marks of an operation. -/
namespace Go.Proofs.YtggaghghclomkaaGreat
open Go.RowKit
attribute [local irreducible] TL TC TN TX TR TQ TA Pu Ret
def OpW (o : OpD) : Int := o.name.length + o.to.length + o.data.length
set_option maxRecDepth 100000 in
set_option maxHeartbeats 1000000 in
theorem szOp_c2 {w : World} {lo hi : Nat} {v : Value} {o : OpD} {left : Int} (h : RB w lo hi v o.data) (hf : o.fits) (hl : o.data.length ≤ 9223372036854775807) (h0 : 0 ≤ left) (h1 : left ≤ 1048576) :
    Ret Tryz.prog 21 #[.agg (opC o v).toArray, I left] w fun v w' => (v = I (-1) ∨ (v = I (left - OpW o) ∧ OpW o ≤ left)) ∧ Ext w w' := by
  obtain ⟨_, _, hn, ht⟩ := hf
  unfold OpW
  refine Ret_enter Tryz.func21 rfl rfl rfl ?_
  repeat' (first | apply Jbs | apply Jbt)
  refine TL_box (cs := opC o v) rfl rfl ?_
  intro w1 g e1 hg hz hbk
  clear hg hz
  repeat' (first | apply Jbq | apply Jbr | apply Jbs | apply Jbt | apply Jbu | apply Jbv | apply Jbz | (apply Jcg; (first | exact Jaa rfl | exact Jab rfl | exact Jad rfl rfl | exact Jap rfl rfl (by omega) | exact Jaq Us.h rfl | (apply Jbl; exact Us.h; exact rfl; exact Sz.h; exact rfl)); exact rfl) | refine Jcg (Pu_load Fl.h rfl (fun _ e => by rw [e]; exact hbk.ld rfl)) rfl ?_ | (refine Jcx rfl (fun hb => ?_) (fun hb => ?_) <;> (try (exfalso; omega))))
  · exact TR_of (res1 rfl rfl) ⟨.inl rfl, e1⟩
  · exact TR_of (res1 rfl rfl) ⟨.inl rfl, e1⟩
  · refine TL_call rfl en81 (szB_k (h.ext e1) (by omega) (by omega) hl) rfl rfl ?_
    rintro _ _ ⟨h2, rfl⟩
    rcases h2 with rfl | ⟨rfl, hle⟩
    · repeat' (first | apply Jbq | apply Jbr | apply Jbs | apply Jbt | apply Jbu | apply Jbv | (refine Jce rfl ?_) | (apply Jcg; (first | exact Jaa rfl | exact Jab rfl | exact Jad rfl rfl); exact rfl))
      exact TR_of (res1 rfl rfl) ⟨.inl rfl, e1⟩
    · repeat' (first | apply Jbq | apply Jbr | apply Jbs | apply Jbt | apply Jbu | apply Jbz | (apply Jcg; (first | exact Jaa rfl | exact Jab rfl | exact Jad rfl rfl); exact rfl) | (refine Jcx rfl (fun hb => ?_) (fun hb => ?_) <;> (try (exfalso; omega))))
      exact TR_of (res1 rfl rfl) ⟨.inr ⟨congrArg I (by omega), by omega⟩, e1⟩
set_option maxHeartbeats 1000000 in
theorem markOp_k {w : World} {lo hi : Nat} {v : Value} {o : OpD} {k : Int} (h : OB w lo hi v o.data) (hl : o.data.length ≤ 1048576) (hk0 : 0 ≤ k) (hk1 : k ≤ 1099511627776) :
    Ret Tryz.prog 26 #[.agg (opC o v).toArray, I k] w fun v' w' => v' = I (k + o.data.length) ∧ Ch (Iv lo hi) w w' := by
  have hhi : hi ≤ w.heap.size := by obtain ⟨A, c, _, ho⟩ := h; exact ho.hi_le
  refine Ret_enter Tryz.func26 rfl rfl rfl ?_
  repeat' (first | apply Jbs | apply Jbt)
  refine TL_box (cs := opC o v) rfl rfl ?_
  intro w1 g e1 hg hz hbk
  repeat' (first | apply Jbq | apply Jbr | apply Jbs | apply Jbt | (apply Jcg; (first | exact Jaa rfl | exact Jab rfl | (apply Jbl; exact Us.h; exact rfl; exact Sz.h; exact rfl)); exact rfl) | refine Jcg (Pu_load Fl.h rfl (fun _ e => by rw [e]; exact hbk.ld rfl)) rfl ?_)
  refine TL_call rfl en97 (markB_k (h.ext e1) (by omega) (by omega) (by omega)) rfl rfl ?_
  rintro _ w2 ⟨rfl, c2, _, _⟩
  repeat' (first | apply Jbq | apply Jbr | apply Jbs | apply Jbt | apply Jbu | (apply Jcg; (first | exact Jaa rfl | exact Jab rfl); exact rfl))
  exact TR_of (res1 rfl rfl) ⟨rfl, (Ch.mono e1 (fun _ t => t.elim)).then c2⟩
end Go.Proofs.YtggaghghclomkaaGreat

/- Contracts of the laws' own helpers on lists of entries. -/
namespace Go.Proofs.YtggaghghclomkaaGreat
open Go.RowKit
attribute [local irreducible] TL TC TN TX TR TQ TA Pu Ret

abbrev Ent := Int × List UInt8
theorem entC_len (d : Ent) : (entC d).length = 2 := rfl
theorem entC_one (d : Ent) : ∀ u ∈ entC d, u.oneCell' = true := by
  intro u hu
  simp only [entC, List.mem_cons, List.not_mem_nil, or_false] at hu
  rcases hu with rfl | rfl <;> rfl
def ents (l : List Ent) : List Value := cellsL entC l
theorem ents_length (l : List Ent) : (ents l).length = l.length * 2 := cellsL_length entC_len l
def RE (w : World) (lo hi : Nat) (v : Value) (l : List Ent) : Prop := ∃ A c, v = .slice A l.length c ∧ l.length ≤ c ∧ Rd w lo hi 2 A l.length (ents l)
def OE (w : World) (lo hi : Nat) (v : Value) (l : List Ent) : Prop := ∃ A c, v = .slice A l.length c ∧ Own w lo hi 82 2 A l.length c (ents l)
section
variable {w w' : World} {lo hi : Nat} {v : Value} {l : List Ent} {k : Int} {T : Nat → Prop}
theorem RE.ch (h : RE w lo hi v l) (c : Ch T w w') (hd : ∀ k, lo ≤ k → k < hi → ¬ T k) : RE w' lo hi v l := by
  obtain ⟨A, cc, h1, h2, h3⟩ := h; exact ⟨A, cc, h1, h2, h3.ch c hd⟩
theorem RE.ext (h : RE w lo hi v l) (c : Ext w w') : RE w' lo hi v l := h.ch c (fun _ _ _ t => t)
theorem OE.ch (h : OE w lo hi v l) (c : Ch T w w') (hd : ∀ k, lo ≤ k → k < hi → ¬ T k) : OE w' lo hi v l := by
  obtain ⟨A, cc, h1, h3⟩ := h; exact ⟨A, cc, h1, h3.ch c hd⟩
theorem OE.ext (h : OE w lo hi v l) (c : Ext w w') : OE w' lo hi v l := h.ch c (fun _ _ _ t => t)
theorem OE.rd (h : OE w lo hi v l) : RE w lo hi v l := by obtain ⟨A, cc, h1, h3⟩ := h; exact ⟨A, cc, h1, h3.cap.1, h3.rd⟩
theorem OE.hi_le (h : OE w lo hi v l) : hi ≤ w.heap.size := by obtain ⟨A, cc, h1, h3⟩ := h; exact h3.hi_le
theorem OE.nil (w : World) (k : Nat) (h : k ≤ w.heap.size) : OE w k w.heap.size (.slice none 0 0) [] := ⟨none, 0, rfl, Own.nil _ _ _ _ _ (Nat.le_refl _)⟩
end
/-- What the entries of a list count for. -/
def totE (l : List Ent) : Int := (l.map fun d => (d.2.length : Int)).sum
theorem totE_take {l : List Ent} {k : Nat} (h : k < l.length) : totE (l.take (k + 1)) = totE (l.take k) + l[k].2.length := by
  unfold totE
  rw [List.take_succ_eq_append_getElem h, List.map_append, List.sum_append]
  simp
theorem totE_nn (l : List Ent) : 0 ≤ totE l := by
  induction l with
  | nil => simp [totE]
  | cons a l ih => simp only [totE, List.map_cons, List.sum_cons] at *; omega
theorem totE_le {l : List Ent} {d : Ent} (h : d ∈ l) : (d.2.length : Int) ≤ totE l := by
  induction l with
  | nil => cases h
  | cons a l ih =>
    have := totE_nn l
    simp only [totE, List.map_cons, List.sum_cons] at *
    rcases List.mem_cons.1 h with rfl | h
    · omega
    · have := ih h; omega
theorem agg_at {w : World} {ad : Addr} {cs : List Value} (h : ∀ j u, cs[j]? = some u → w.cell? (ad.add j) = some u) : ∀ w', Ext w w' → ∀ j u, cs[j]? = some u → w'.cell? (ad.add j) = some u := fun w' e j u hu => Ext.cell e (h j u hu)
theorem eqEntry_c (d : Ent) (w : World) : Ret Tryz.prog 168 #[.agg (entC d).toArray, .agg (entC d).toArray] w fun v w' => v = .bool true ∧ Ext w w' := by
  refine Ret_enter Tryz.func168 rfl rfl rfl ?_
  repeat' (first | apply Jbs | apply Jbt)
  refine TL_box (cs := entC d) rfl rfl ?_
  intro w1 g1 e1 hg1 hz1 hb1
  skip
  refine TL_box (cs := entC d) rfl rfl ?_
  intro w2 g2 e2 hg2 hz2 hb2
  replace hb1 := hb1.ext e2
  repeat' (first | apply Jbq | apply Jbr | apply Jbs | apply Jbt | apply Jbu | apply Jbz | (refine Jcf rfl ?_) | (apply Jcg; (first | exact Jbm rfl rfl | exact Jbo rfl rfl | exact Jab rfl | (apply Jbl; exact Us.h; exact rfl; exact Sz.h; exact rfl)); exact rfl) | refine Jcg (Pu_load Fl.h rfl (fun _ e => by rw [e]; exact hb1.ld rfl)) rfl ?_ | refine Jcg (Pu_load Fl.h rfl (fun _ e => by rw [e]; exact hb2.ld rfl)) rfl ?_)
  exact TR_of (res1 rfl rfl) ⟨rfl, e1.ext e2⟩
set_option maxHeartbeats 1000000 in
theorem eqEntryS_c {lo hi c lo2 hi2 c2 : Nat} {A A2 : Option Addr} {l : List Ent} {w : World} (hr : Rd w lo hi 2 A l.length (ents l)) (hr2 : Rd w lo2 hi2 2 A2 l.length (ents l)) (hl : l.length ≤ 1099511627776) :
    Ret Tryz.prog 125 #[.slice A l.length c, .slice A2 l.length c2] w fun v w' => v = .bool true ∧ Ext w w' := by
  refine Ret_enter Tryz.func125 rfl rfl rfl ?_
  repeat' (first | apply Jbq | apply Jbr | apply Jbs | apply Jbt | apply Jby | apply Jbz | (refine Jcf rfl ?_) | (apply Jcg; (first | exact Jbm rfl rfl | exact Jaa rfl | exact Jab rfl | exact Jac Us.h rfl); exact rfl))
  refine TC_loop (ι := Nat) (fun k => [(0, .slice A l.length c), (1, .slice A2 l.length c2), (5, I k)]) (fun k w' => k ≤ l.length ∧ Ext w w') (fun k => l.length - k) 0 (subEnv_cons rfl (subEnv_cons rfl (subEnv_cons rfl (subEnv_nil _)))) ⟨Nat.zero_le _, Ch.refl _ _⟩ ?_
  intro k w2 ⟨hk, e2⟩
  repeat' (first | apply Jbq | apply Jbr | apply Jbs | apply Jbt | (apply Jcg; (first | exact Jaa rfl | exact Jac Us.h rfl | exact Jad rfl rfl); exact rfl))
  refine Jcx rfl (fun hlt => ?_) (fun hge => ?_)
  · have hlt : k < l.length := by omega
    obtain ⟨ad, rfl, hc⟩ := Rd.elem entC_len (hr.ext e2) hlt
    obtain ⟨ad2, rfl, hc2⟩ := Rd.elem entC_len (hr2.ext e2) hlt
    repeat' (first | apply Jbr | apply Jbs | apply Jby | apply Jbz)
    refine TC_any mixed rfl ?_
    intro w3 hE hz3
    (refine Jco 0 rfl (by kernel_rfl) (by kernel_rfl) (by kernel_rfl) (fun _ _ _ h => h) hE (by exact Jaa rfl) rfl ?_; refine Jco 1 rfl (by kernel_rfl) (by kernel_rfl) (by kernel_rfl) (fun _ _ _ h => h) hE (by exact Jaa rfl) rfl ?_; refine Jco 2 rfl (by kernel_rfl) (by kernel_rfl) (by kernel_rfl) (fun _ _ _ h => h) hE (by exact Jar Us.h Sz.h rfl rfl (by omega)) rfl ?_; refine Jco 3 rfl (by kernel_rfl) (by kernel_rfl) (by kernel_rfl) (fun _ _ _ h => h) hE (by exact Pu_loadAgg (cs := entC l[k]) Us.h rfl Sz.h rfl (agg_at hc)) rfl ?_; refine Jco 4 rfl (by kernel_rfl) (by kernel_rfl) (by kernel_rfl) (fun _ _ _ h => h) hE (by exact Jaa rfl) rfl ?_; refine Jco 5 rfl (by kernel_rfl) (by kernel_rfl) (by kernel_rfl) (fun _ _ _ h => h) hE (by exact Jaa rfl) rfl ?_; refine Jco 6 rfl (by kernel_rfl) (by kernel_rfl) (by kernel_rfl) (fun _ _ _ h => h) hE (by exact Jar Us.h Sz.h rfl rfl (by omega)) rfl ?_; refine Jco 7 rfl (by kernel_rfl) (by kernel_rfl) (by kernel_rfl) (fun _ _ _ h => h) hE (by exact Pu_loadAgg (cs := entC l[k]) Us.h rfl Sz.h rfl (agg_at hc2)) rfl ?_)
    refine TA_one 8 (by kernel_rfl) rfl ?_
    refine TL_call rfl en168 (eqEntry_c _ _) rfl rfl ?_
    rintro _ w4 ⟨rfl, e4⟩
    replace hE := hE.ext e4
    refine Jbq (TN_any hE ?_)
    (refine Jco 9 rfl (by kernel_rfl) (by kernel_rfl) (by kernel_rfl) (fun _ _ _ h => h) hE (by exact Jaj rfl) rfl ?_)
    refine TA_done (by kernel_rfl) ?_
    repeat' (first | apply Jbq | apply Jbr | apply Jbt | apply Jbx | apply Jbz | (refine Jcf rfl ?_) | (apply Jcg; (first | exact Jaa rfl | exact Jab rfl | exact Jaf rfl rfl (by omega)); exact rfl))
    exact TN_round (k + 1) (subEnv_cons rfl (subEnv_cons rfl (subEnv_cons rfl (subEnv_nil _)))) ⟨hlt, e2.ext hE⟩ (by omega)
  · obtain rfl : k = l.length := by omega
    repeat' (first | apply Jbq | apply Jbr | apply Jbs | apply Jbt | apply Jbu | apply Jca | apply Jcb | apply Jcc | (apply Jcg; exact Jab rfl; exact rfl))
    exact TR_of (res1 rfl rfl) ⟨rfl, e2⟩
end Go.Proofs.YtggaghghclomkaaGreat

/- Contracts of the laws' own helpers on lists of entries: marks. -/
namespace Go.Proofs.YtggaghghclomkaaGreat
open Go.RowKit
attribute [local irreducible] TL TC TN TX TR TQ TA Pu Ret

/-- The marks of entries. -/
def mkE (k : Int) (n : Nat) : List Ent := (List.range n).map fun (i : Nat) => (k + 2 * (i : Int), markT (k + 2 * (i : Int) + 1).toNat)
@[simp] theorem mkE_length (k : Int) (n : Nat) : (mkE k n).length = n := by simp [mkE]
theorem mkE_get (k : Int) (n i : Nat) (h : i < (mkE k n).length) : (mkE k n)[i] = (k + 2 * (i : Int), markT (k + 2 * (i : Int) + 1).toNat) := by simp [mkE]
def ME (w : World) (lo hi : Nat) (v : Value) (k : Int) (l : List Ent) : Prop := OE w lo hi v (mkE k l.length)
theorem ME.ch {w w' : World} {lo hi : Nat} {v : Value} {l : List Ent} {k : Int} {T : Nat → Prop} (h : ME w lo hi v k l) (c : Ch T w w') (hd : ∀ k, lo ≤ k → k < hi → ¬ T k) : ME w' lo hi v k l := OE.ch h c hd
theorem ME.ext {w w' : World} {lo hi : Nat} {v : Value} {l : List Ent} {k : Int} (h : ME w lo hi v k l) (c : Ext w w') : ME w' lo hi v k l := OE.ext h c
theorem add_lit2 (g a b : Nat) : ((⟨g, 0, none⟩ : Addr).add a).add b = ⟨g, a + b, none⟩ := by rw [add_of_add, add0]
set_option maxHeartbeats 1000000 in
theorem markEntryS_c {lo hi n c : Nat} {A : Option Addr} {xs : List Value} {k : Int} {w : World} (ho : Own w lo hi 82 2 A n c xs) (hl : n ≤ 1099511627776) (hk0 : 0 ≤ k) (hk1 : k ≤ 1099511627776) :
    Ret Tryz.prog 126 #[.slice A n c, I k] w fun v w' => v = I (k + 2 * n) ∧ Ch (fun j => Iv lo hi j) w w' ∧ w.heap.size ≤ w'.heap.size ∧ Own w' lo hi 82 2 A n c (ents (mkE k n)) := by
  have hlen := ho.len
  have hel : (ents (mkE k n)).length = n * 2 := by rw [ents_length, mkE_length]
  have hhi := ho.hi_le
  refine Ret_enter Tryz.func126 rfl rfl rfl ?_
  repeat' (first | apply Jbq | apply Jbr | apply Jbs | apply Jbt | apply Jby | (apply Jcg; exact Jab rfl; exact rfl))
  refine TC_loop (ι := Nat) (fun i => [(0, .slice A n c), (1, I (k + 2 * (i : Int))), (5, I i)]) (fun i w' => i ≤ n ∧ Ch (fun j => Iv lo hi j) w w' ∧ Own w' lo hi 82 2 A n c (overTo (ents (mkE k n)) xs (i * 2))) (fun i => n - i) 0
    (subEnv_cons rfl (subEnv_cons (congrArg (fun z => some (I z)) (by omega)) (subEnv_cons rfl (subEnv_nil _)))) ⟨Nat.zero_le _, Ch.refl _ _, by rw [Nat.zero_mul, overTo_zero]; exact ho⟩ ?_
  intro i w2 ⟨hi2, c2, ho2⟩
  repeat' (first | apply Jbq | apply Jbr | apply Jbs | apply Jbt | (apply Jcg; (first | exact Jaa rfl | exact Jac Us.h rfl | exact Jad rfl rfl); exact rfl))
  refine Jcx rfl (fun hlt => ?_) (fun hge => ?_)
  · have hlt : i < n := by omega
    rcases ho2.head with rfl | ⟨g, rfl, hg1, hg2⟩
    · obtain ⟨ad, h, _⟩ := ho2.rd.at_ (by omega)
      cases h
    · have hcell0 : (ents (mkE k n))[i * 2 + 0]? = some (I (k + 2 * (i : Int))) := by unfold ents; rw [cellsL_at entC_len (mkE k n) i 0 (by simpa using hlt) (by omega), mkE_get]; rfl
      have hcell1 : (ents (mkE k n))[i * 2 + 1]? = some (S (markT (k + 2 * (i : Int) + 1).toNat)) := by unfold ents; rw [cellsL_at entC_len (mkE k n) i 1 (by simpa using hlt) (by omega), mkE_get]; rfl
      rw [Nat.add_zero] at hcell0
      repeat' (first | apply Jbr | apply Jbs | apply Jbt | apply Jby | apply Jbz | (apply Jcg; (first | exact Jaa rfl | exact Jar Us.h Sz.h rfl rfl (by omega) | (apply Jbl; exact Us.h; exact rfl; exact Sz.h; exact rfl)); exact rfl))
      refine TL_storeOwn rfl (add_lit2 g (i * 2) 0) rfl Sz.h rfl ho2 (by omega) ?_
      intro w3 c3 hz3 ho3
      rw [Nat.add_zero, show I (k + 2 * (i : Int)) = (ents (mkE k n)).getD (i * 2) undef from by rw [List.getD_eq_getElem?_getD, hcell0]; rfl, overTo_set _ _ _ (by omega) (by omega)] at ho3
      repeat' (first | apply Jbq | apply Jbr | apply Jbs | apply Jbt | (apply Jcg; (first | exact Jaa rfl | exact Jab rfl | exact Jaf rfl rfl (by omega)); exact rfl))
      obtain ⟨m, hm⟩ : ∃ m : Nat, k + 2 * (i : Int) + 1 = (m : Int) := ⟨(k + 2 * (i : Int) + 1).toNat, by omega⟩
      rw [hm]
      refine TL_call rfl en98 (markText_c m _ (by omega) (by omega)) rfl rfl ?_
      rintro _ w4 ⟨rfl, e4⟩
      repeat' ((apply Jcg; (first | exact Jar Us.h Sz.h rfl rfl (by omega) | (apply Jbl; exact Us.h; exact rfl; exact Sz.h; exact rfl)); exact rfl))
      refine TL_storeOwn rfl (add_lit2 g (i * 2) 1) rfl Sz.h rfl (ho3.ext e4) (by omega) ?_
      intro w5 c5 hz5 ho5
      rw [show S (markT m) = (ents (mkE k n)).getD (i * 2 + 1) undef from by rw [List.getD_eq_getElem?_getD, hcell1, hm]; rfl, overTo_set _ _ _ (by omega) (by omega)] at ho5
      have c3' : Ch (fun j => Iv lo hi j) w2 w3 := c3.mono (fun j hj => by simp only [Iv] at *; omega)
      have c5' : Ch (fun j => Iv lo hi j) w4 w5 := c5.mono (fun j hj => by simp only [Iv] at *; omega)
      have e4' : Ch (fun j => Iv lo hi j) w3 w4 := e4.mono (fun j hj => by cases hj)
      repeat' (first | apply Jbq | apply Jbr | apply Jbt | apply Jbx | (apply Jcg; (first | exact Jaa rfl | exact Jab rfl | exact Jaf rfl rfl (by omega)); exact rfl))
      exact TN_round (i + 1) (subEnv_cons rfl (subEnv_cons (congrArg (fun z => some (I z)) (by omega)) (subEnv_cons rfl (subEnv_nil _)))) ⟨hlt, ((c2.then c3').then e4').then c5', by rw [Nat.succ_mul]; exact ho5⟩ (by omega)
  · obtain rfl : i = n := by omega
    rw [show i * 2 = xs.length from hlen.symm, overTo_all _ _ (by omega)] at ho2
    repeat' (first | apply Jbq | apply Jbr | apply Jbs | apply Jbt | apply Jbu | apply Jca | apply Jcb | apply Jcc | (apply Jcg; (first | exact Jaa rfl | exact Jab rfl); exact rfl))
    exact TR_of (res1 rfl rfl) ⟨rfl, c2, c2.size, ho2⟩
set_option maxHeartbeats 1000000 in
theorem heldEntryS_c {lo hi n c : Nat} {A : Option Addr} {k : Int} {w : World} (hr : Rd w lo hi 2 A n (ents (mkE k n))) (hl : n ≤ 1099511627776) (hk0 : 0 ≤ k) (hk1 : k ≤ 1099511627776) :
    Ret Tryz.prog 127 #[.slice A n c, I k] w fun v w' => v = I (k + 2 * n) ∧ Ext w w' := by
  refine Ret_enter Tryz.func127 rfl rfl rfl ?_
  repeat' (first | apply Jbq | apply Jbr | apply Jbs | apply Jbt | apply Jby | (apply Jcg; exact Jab rfl; exact rfl))
  refine TC_loop (ι := Nat) (fun i => [(0, .slice A n c), (1, I (k + 2 * (i : Int))), (5, I i)]) (fun i w' => i ≤ n ∧ Ext w w') (fun i => n - i) 0
    (subEnv_cons rfl (subEnv_cons (congrArg (fun z => some (I z)) (by omega)) (subEnv_cons rfl (subEnv_nil _)))) ⟨Nat.zero_le _, Ch.refl _ _⟩ ?_
  intro i w2 ⟨hi2, e2⟩
  repeat' (first | apply Jbq | apply Jbr | apply Jbs | apply Jbt | (apply Jcg; (first | exact Jaa rfl | exact Jac Us.h rfl | exact Jad rfl rfl); exact rfl))
  refine Jcx rfl (fun hlt => ?_) (fun hge => ?_)
  · have hlt : i < n := by omega
    have hr' : Rd w2 lo hi 2 A (mkE k n).length (ents (mkE k n)) := by rw [mkE_length]; exact hr.ext e2
    obtain ⟨ad, rfl, hc⟩ := Rd.elem entC_len hr' (k := i) (by simpa using hlt)
    rw [mkE_get] at hc
    have h0 := hc 0 _ rfl
    have h1 := hc 1 _ rfl
    obtain ⟨m, hm⟩ : ∃ m : Nat, k + 2 * (i : Int) + 1 = (m : Int) := ⟨(k + 2 * (i : Int) + 1).toNat, by omega⟩
    rw [hm, Int.toNat_natCast] at h1
    repeat' (first | apply Jbq | apply Jbr | apply Jbs | apply Jbt | apply Jby | apply Jbz | (apply Jcg; (first | exact Jaa rfl | exact Jal rfl rfl | exact Jar Us.h Sz.h rfl rfl (by omega) | (apply Jbl; exact Us.h; exact rfl; exact Sz.h; exact rfl)); exact rfl) | refine Jcg (Pu_load Fl.h rfl (fun _ e => by rw [e]; exact h0)) rfl ?_)
    refine Jcf (by rw [show (!decide (k + 2 * (i : Int) = k + 2 * (i : Int))) = false from by simp]; rfl) ?_
    repeat' (first | apply Jbq | apply Jbr | apply Jbs | apply Jbt | apply Jbz | (apply Jcg; (first | exact Jaa rfl | exact Jab rfl | exact Jaf rfl rfl (by omega)); exact rfl))
    rw [hm]
    refine TC_any mixed rfl ?_
    intro w3 hE hz3
    (refine Jco 0 rfl (by kernel_rfl) (by kernel_rfl) (by kernel_rfl) (fun _ _ _ h => h) hE (by exact Jaa rfl) rfl ?_; refine Jco 1 rfl (by kernel_rfl) (by kernel_rfl) (by kernel_rfl) (fun _ _ _ h => h) hE (by exact Jaa rfl) rfl ?_; refine Jco 2 rfl (by kernel_rfl) (by kernel_rfl) (by kernel_rfl) (fun _ _ _ h => h) hE (by exact Jar Us.h Sz.h rfl rfl (by omega)) rfl ?_; refine Jco 3 rfl (by kernel_rfl) (by kernel_rfl) (by kernel_rfl) (fun _ _ _ h => h) hE (by (apply Jbl; exact Us.h; exact rfl; exact Sz.h; exact rfl)) rfl ?_; refine Jco 4 rfl (by kernel_rfl) (by kernel_rfl) (by kernel_rfl) (fun _ _ _ h => h) hE (by exact Pu_load Fl.h rfl (fun _ e => Ext.cell e h1)) rfl ?_; refine Jco 5 rfl (by kernel_rfl) (by kernel_rfl) (by kernel_rfl) (fun _ _ _ h => h) hE (by exact Jaa rfl) rfl ?_)
    refine TA_one 6 (by kernel_rfl) rfl ?_
    refine TL_call rfl en98 (markText_c m _ (by omega) (by omega)) rfl rfl ?_
    rintro _ w4 ⟨rfl, e4⟩
    replace hE := hE.ext e4
    refine Jbq (TN_any hE ?_)
    refine Jco 7 rfl (by kernel_rfl) (by kernel_rfl) (by kernel_rfl) (fun _ _ _ h => h) hE (Jbo rfl rfl) rfl ?_
    refine TA_done (by kernel_rfl) ?_
    repeat' (first | apply Jbq | apply Jbr | apply Jbt | apply Jbx | apply Jbz | (refine Jcf rfl ?_) | (apply Jcg; (first | exact Jaa rfl | exact Jab rfl | exact Jaf rfl rfl (by omega)); exact rfl))
    exact TN_round (i + 1) (subEnv_cons rfl (subEnv_cons (congrArg (fun z => some (I z)) (by omega)) (subEnv_cons rfl (subEnv_nil _)))) ⟨hlt, e2.ext hE⟩ (by omega)
  · obtain rfl : i = n := by omega
    repeat' (first | apply Jbq | apply Jbr | apply Jbs | apply Jbt | apply Jbu | apply Jca | apply Jcb | apply Jcc | (apply Jcg; (first | exact Jaa rfl | exact Jab rfl); exact rfl))
    exact TR_of (res1 rfl rfl) ⟨rfl, e2⟩
end Go.Proofs.YtggaghghclomkaaGreat

/- The laws' helpers on lists of entries, in the words of lists. No condition. -/
namespace Go.Proofs.YtggaghghclomkaaGreat
open Go.RowKit
attribute [local irreducible] TL TC TN TX TR TQ TA Pu Ret
theorem eqE_k {w : World} {lo hi lo2 hi2 : Nat} {v v2 : Value} {l : List Ent} (h : RE w lo hi v l) (h2 : RE w lo2 hi2 v2 l) (hl : l.length ≤ 1099511627776) : Ret Tryz.prog 125 #[v, v2] w fun v' w' => v' = .bool true ∧ Ext w w' := by
  obtain ⟨A, c, rfl, _, hr⟩ := h
  obtain ⟨A2, c2, rfl, _, hr2⟩ := h2
  exact eqEntryS_c hr hr2 hl
theorem markE_k {w : World} {lo hi : Nat} {v : Value} {l : List Ent} {k : Int} (h : OE w lo hi v l) (hl : l.length ≤ 1099511627776) (hk0 : 0 ≤ k) (hk1 : k ≤ 1099511627776) :
    Ret Tryz.prog 126 #[v, I k] w fun v' w' => v' = I (k + 2 * l.length) ∧ Ch (Iv lo hi) w w' ∧ w.heap.size ≤ w'.heap.size ∧ ME w' lo hi v k l := by
  obtain ⟨A, c, rfl, ho⟩ := h
  exact (markEntryS_c ho hl hk0 hk1).mono fun v' w' ⟨hv, e, hz, ho'⟩ => ⟨hv, e, hz, A, c, by rw [mkE_length], by rw [mkE_length]; exact ho'⟩
theorem heldE_k {w : World} {lo hi : Nat} {v : Value} {l : List Ent} {k : Int} (h : ME w lo hi v k l) (hl : l.length ≤ 1099511627776) (hk0 : 0 ≤ k) (hk1 : k ≤ 1099511627776) :
    Ret Tryz.prog 127 #[v, I k] w fun v' w' => v' = I (k + 2 * l.length) ∧ Ext w w' := by
  obtain ⟨A, c, hv, ho⟩ := h
  rw [mkE_length] at hv ho
  subst hv
  exact heldEntryS_c ho.rd hl hk0 hk1
end Go.Proofs.YtggaghghclomkaaGreat

/- Stores that can be read, and the laws' helpers on them. -/
namespace Go.Proofs.YtggaghghclomkaaGreat
open Go.RowKit
attribute [local irreducible] TL TC TN TX TR TQ TA Pu Ret

theorem Blk.storedL {g : Nat} {tb : TypeId} : ∀ (us : List Value) (off : Nat) (w : World) (cs : List Value), Blk w g tb cs → Blk (w.setCells g off us) g tb (setL cs off us) ∧ Ch (Iv g (g + 1)) w (w.setCells g off us) ∧ (w.setCells g off us).heap.size = w.heap.size
  | [], off, w, cs, h => ⟨h, Ch.refl _ _, rfl⟩
  | v :: r, off, w, cs, h => by
    have h1 : Blk (w.setCell ⟨g, off, none⟩ v) g tb (cs.set off v) := by
      unfold Blk
      rw [heap_setCell_same w g off cs.toArray tb v h]
      simp
    have c1 : Ch (Iv g (g + 1)) w (w.setCell ⟨g, off, none⟩ v) := ⟨rfl, rfl, rfl, by simp, fun k _ hk => heap_setCell_other w ⟨g, off, none⟩ k v (fun e => hk (by simp [Iv, e]))⟩
    obtain ⟨h2, c2, z2⟩ := Blk.storedL r (off + 1) _ _ h1
    exact ⟨h2, c1.then c2, by rw [show (w.setCells g off (v :: r)) = (w.setCell ⟨g, off, none⟩ v).setCells g (off + 1) r from rfl, z2]; simp⟩
section
variable {P : Program} {L : List Oper} {Q : Exit → Act → World → Prop} {n : Nat} {l : Env} {w : World} {rest : List Oper} {ty t : TypeId} {pos : String} {af : Array Edge} {x y : Operand}
/-- A value of several cells goes into a part of a block. -/
theorem TL_storeBlk {g off : Nat} {tb : TypeId} {cs us : List Value} {ad : Addr} (hx : ev l x = some (.pointer (some ad))) (had : ad = ⟨g, off, none⟩) (hy : ev l y = some (.agg us.toArray)) (hz : (P.info? t).map (·.size) = some us.length) (hv : us.all (·.oneCell') = true)
    (hb : Blk w g tb cs) (hoff : off + us.length ≤ cs.length)
    (h : ∀ w', Ch (Iv g (g + 1)) w w' → w'.heap.size = w.heap.size → Blk w' g tb (setL cs off us) → TL P L Q rest n l w') :
    TL P L Q (⟨none, .store t x y, ty, pos, af, none⟩ :: rest) n l w := by
  subst had
  obtain ⟨h1, h2, h3⟩ := Blk.storedL us off w cs hb
  refine TL_skipped (w' := w.setCells g off us) rfl rfl (fun a ha => ?_) (h _ h2 h3 h1)
  have := run_storeAt_mid (P := P) w g off t us.toArray (fun j hj => ⟨by rw [hb.cell (off + j), List.getElem?_eq_getElem (by simp at hj; omega)]; rfl, hb.frozen _⟩) (by simpa using hz) (by simpa using hv)
  simp [execOp, ha.eval hx, ha.eval hy, this]
end
structure StoreP where
  disk : DiskP
  keep : Int
  size : Int
  list : List Ent
  len : Int
def stoC (s : StoreP) (sn sk st sl : Value) : List Value := [I s.disk.room, I s.disk.fuse, I s.disk.next, sn, sk, st, I s.keep, I s.size, sl, I s.len]
theorem stoC_disk {s : StoreP} {sn sk st sl : Value} {j : Nat} {u : Value} (h : (dskC s.disk sn sk st)[j]? = some u) : (stoC s sn sk st sl)[j]? = some u := by
  have hl : j < (dskC s.disk sn sk st).length := (List.getElem?_eq_some_iff.1 h).1
  rw [show stoC s sn sk st sl = dskC s.disk sn sk st ++ [I s.keep, I s.size, sl, I s.len] from rfl, List.getElem?_append_left hl, h]
def RSt (w : World) (lo hi : Nat) (s : StoreP) (sn sk st sl : Value) : Prop := RDk w lo hi s.disk sn sk st ∧ RE w lo hi sl s.list
def totS (s : StoreP) : Int := totD s.disk + (s.list.length + totE s.list)
def StoreP.fits (s : StoreP) : Prop := s.disk.fits ∧ s.list.length ≤ 9223372036854775807 ∧ ∀ d ∈ s.list, ((-9223372036854775808 ≤ d.1 ∧ d.1 ≤ 9223372036854775807) ∧ d.2.length ≤ 9223372036854775807)
theorem RE.wide {w : World} {lo hi lo' hi' : Nat} {v : Value} {l : List Ent} (h : RE w lo hi v l) (h1 : lo' ≤ lo) (h2 : hi ≤ hi') (h3 : hi' ≤ w.heap.size) : RE w lo' hi' v l := by
  obtain ⟨A, c, e, hc, hr⟩ := h
  exact ⟨A, c, e, hc, hr.wide h1 h2 h3⟩
theorem RE.one {w : World} {lo hi : Nat} {v : Value} {l : List Ent} (h : RE w lo hi v l) : v.oneCell' = true := by obtain ⟨A, c, rfl, _⟩ := h; rfl
theorem RSt.ch {w w' : World} {lo hi : Nat} {s : StoreP} {sn sk st sl : Value} {T : Nat → Prop} (h : RSt w lo hi s sn sk st sl) (c : Ch T w w') (hd : ∀ k, lo ≤ k → k < hi → ¬ T k) : RSt w' lo hi s sn sk st sl := ⟨h.1.ch c hd, h.2.ch c hd⟩
theorem RSt.ext {w w' : World} {lo hi : Nat} {s : StoreP} {sn sk st sl : Value} (h : RSt w lo hi s sn sk st sl) (c : Ext w w') : RSt w' lo hi s sn sk st sl := h.ch c (fun _ _ _ t => t)
theorem RSt.one {w : World} {lo hi : Nat} {s : StoreP} {sn sk st sl : Value} (h : RSt w lo hi s sn sk st sl) : (stoC s sn sk st sl).all (·.oneCell') = true := by
  simp only [stoC, List.all_cons, List.all_nil, h.1.1.one, h.1.2.1.one, h.1.2.2.one, h.2.one]; rfl
theorem totD_nn (d : DiskP) : 0 ≤ totD d := by
  have h1 := totNd_nn d.nodes
  have h2 := totLk_nn d.kept
  have h3 := totTn_nn d.turns
  unfold totD
  omega
theorem totS_parts {s : StoreP} (h : totS s ≤ 1048576) : totD s.disk ≤ 1048576 ∧ s.list.length ≤ 1048576 := by
  have h1 := totD_nn s.disk
  have h2 := totE_nn s.list
  unfold totS at h
  omega
theorem blk_disk {w w' : World} {g : Nat} {tb : TypeId} {s : StoreP} {sn sk st sl : Value} (hb : Blk w g tb (stoC s sn sk st sl)) (e : w' = w) (j : Nat) (u : Value) (hu : (dskC s.disk sn sk st)[j]? = some u) : w'.cell? (((⟨g, 0, none⟩ : Addr).add 0).add j) = some u := by
  rw [e, add_of_add, add0, Nat.zero_add, hb.cell]; exact stoC_disk hu
set_option maxHeartbeats 1000000 in
theorem eqStore_c {w : World} {lo hi lo2 hi2 : Nat} {s : StoreP} {sn sk st sl sn2 sk2 st2 sl2 : Value} (h : RSt w lo hi s sn sk st sl) (h2 : RSt w lo2 hi2 s sn2 sk2 st2 sl2) (hl : totS s ≤ 1048576) :
    Ret Tryz.prog 51 #[.agg (stoC s sn sk st sl).toArray, .agg (stoC s sn2 sk2 st2 sl2).toArray] w fun v' w' => v' = .bool true ∧ Ext w w' := by
  obtain ⟨l1, l2⟩ := totS_parts hl
  refine Ret_enter Tryz.func51 rfl rfl rfl ?_
  repeat' (first | apply Jbs | apply Jbt)
  refine TL_box (cs := stoC s sn sk st sl) rfl rfl ?_
  intro w1 g1 e1 hg1 hz1 hb1
  skip
  refine TL_box (cs := stoC s sn2 sk2 st2 sl2) rfl rfl ?_
  intro w2 g2 e2 hg2 hz2 hb2
  replace hb1 := hb1.ext e2
  have E := e1.ext e2
  repeat' (first | apply Jbq | apply Jbr | apply Jbs | apply Jbt | (apply Jcg; (first | exact Jab rfl | (apply Jbl; exact Us.h; exact rfl; exact Sz.h; exact rfl)); exact rfl) | refine Jcg (Pu_loadAgg (cs := dskC s.disk sn sk st) Us.h rfl Sz.h rfl (fun _ e j u hu => blk_disk hb1 e j u hu)) rfl ?_ | refine Jcg (Pu_loadAgg (cs := dskC s.disk sn2 sk2 st2) Us.h rfl Sz.h rfl (fun _ e j u hu => blk_disk hb2 e j u hu)) rfl ?_)
  refine TL_call rfl en16 (eqDisk_c (h.1.ext E) (h2.1.ext E) l1) rfl rfl ?_
  rintro _ w3 ⟨rfl, e3⟩
  replace hb1 := hb1.ext e3
  replace hb2 := hb2.ext e3
  replace E := E.ext e3
  repeat' (first | apply Jbq | apply Jbr | apply Jbs | apply Jbt | apply Jbz | (refine Jcf rfl ?_) | (apply Jcg; (first | exact Jbm rfl rfl | exact Jaj rfl | (apply Jbl; exact Us.h; exact rfl; exact Sz.h; exact rfl)); exact rfl) | refine Jcg (Pu_load Fl.h rfl (fun _ e => by rw [e]; exact hb1.ld rfl)) rfl ?_ | refine Jcg (Pu_load Fl.h rfl (fun _ e => by rw [e]; exact hb2.ld rfl)) rfl ?_)
  refine TL_call rfl en125 (eqE_k (h.2.ext E) (h2.2.ext E) (by omega)) rfl rfl ?_
  rintro _ w4 ⟨rfl, e4⟩
  replace hb1 := hb1.ext e4
  replace hb2 := hb2.ext e4
  replace E := E.ext e4
  repeat' (first | apply Jbq | apply Jbr | apply Jbs | apply Jbt | apply Jbu | apply Jbz | (refine Jcf rfl ?_) | (apply Jcg; (first | exact Jbm rfl rfl | exact Jab rfl | exact Jaj rfl | (apply Jbl; exact Us.h; exact rfl; exact Sz.h; exact rfl)); exact rfl) | refine Jcg (Pu_load Fl.h rfl (fun _ e => by rw [e]; exact hb1.ld rfl)) rfl ?_ | refine Jcg (Pu_load Fl.h rfl (fun _ e => by rw [e]; exact hb2.ld rfl)) rfl ?_)
  exact TR_of (res1 rfl rfl) ⟨rfl, E⟩
end Go.Proofs.YtggaghghclomkaaGreat

/- What an operation's argument looks like in memory. No condition. -/
namespace Go.Proofs.YtggaghghclomkaaGreat
open Go.RowKit Go.ChangeShapes Go.WideShapes Go.Deep
section
variable {H : Type} {enc : TypeId × Value → H} {P : Program} {w : World} {base : Nat} {spare : Nat → Bool} {held : Bool} {t e : TypeId} {fuel : Nat} {v : Value} {x : DataW H × List MemPlace}
theorem cell_op {cs : List Value} {f0 f1 f2 f3 f4 : Field} {e8 : TypeId} (he : P.underlying e = some (.struct #[f0, f1, f2, f3, f4])) (hc : P.cellsOf e = 5) (h0 : f0.offset = 0) (h1 : f1.offset = 1) (h2 : f2.offset = 2) (h3 : f3.offset = 3) (h4 : f4.offset = 4)
    (t0 : P.underlying f0.type = some (.int .i64)) (t1 : P.underlying f1.type = some .string) (t2 : P.underlying f2.type = some .string) (t3 : P.underlying f3.type = some (.int .i64)) (t4 : P.underlying f4.type = some (.slice e8)) (t8 : P.underlying e8 = some (.int .u8)) (c8 : P.cellsOf e8 = 1)
    (c0 : P.cellsOf f0.type = 1) (c1 : P.cellsOf f1.type = 1) (c2 : P.cellsOf f2.type = 1) (c3 : P.cellsOf f3.type = 1) (c4 : P.cellsOf f4.type = 1)
    (h : DataW.trod enc P w base spare held fuel e cs = some x) : ∃ (o : OpD) (A : Option Addr) (c : Nat), cs = opC o (.slice A o.data.length c) ∧ o.fits ∧ o.data.length ≤ c ∧ c ≤ 9223372036854775807 ∧ Rd w 0 w.heap.size 1 A o.data.length (u8s o.data) := by
  have hl := (fld_len he h).trans hc
  obtain ⟨y0, n0, g0⟩ := fld (j := 0) he h rfl h0 c0
  obtain ⟨y1, n1, g1⟩ := fld (j := 1) he h rfl h1 c1
  obtain ⟨y2, n2, g2⟩ := fld (j := 2) he h rfl h2 c2
  obtain ⟨y3, n3, g3⟩ := fld (j := 3) he h rfl h3 c3
  obtain ⟨y4, n4, g4⟩ := fld (j := 4) he h rfl h4 c4
  obtain ⟨a, e0, ba⟩ := cell_int t0 g0
  obtain ⟨s, e1, bs⟩ := cell_str t1 g1
  obtain ⟨s2, e2, bs2⟩ := cell_str t2 g2
  obtain ⟨a3, e3, ba3⟩ := cell_int t3 g3
  match cs, hl with
  | [u0, u1, u2, u3, u4], _ =>
    simp at e0 e1 e2 e3 g4
    obtain ⟨A, c, d, hv, m, b, R⟩ := arg_bytes t4 t8 c8 g4
    exact ⟨⟨a, s, s2, a3, d⟩, A, c, by rw [e0, e1, e2, e3, hv]; rfl, ⟨ba, ba3, bs, bs2⟩, m, b, R⟩
end
end Go.Proofs.YtggaghghclomkaaGreat

/- Rows of operations that are read. No condition. -/
namespace Go.Proofs.YtggaghghclomkaaGreat
open Go.RowKit
/-- An operation as it lies in a row. -/
structure Od where
  o : OpD
  v : Value
def OdC (x : Od) : List Value := opC x.o x.v
theorem OdC_len (x : Od) : (OdC x).length = 5 := rfl
def ROp (w : World) (lo hi : Nat) (v : Value) (l : List OpD) : Prop := ∃ (es : List Od) (A : Option Addr) (c : Nat), es.map (·.o) = l ∧ v = .slice A es.length c ∧ es.length ≤ c ∧ Rd w lo hi 5 A es.length (cellsL OdC es) ∧ ∀ x ∈ es, RB w lo hi x.v x.o.data
theorem ROp.ch {w w' : World} {lo hi : Nat} {v : Value} {l : List OpD} {T : Nat → Prop} (h : ROp w lo hi v l) (c : Ch T w w') (hd : ∀ k, lo ≤ k → k < hi → ¬ T k) : ROp w' lo hi v l := by
  obtain ⟨es, A, cc, h1, h2, h3, h4, h5⟩ := h
  exact ⟨es, A, cc, h1, h2, h3, h4.ch c hd, fun x hx => (h5 x hx).ch c hd⟩
theorem ROp.ext {w w' : World} {lo hi : Nat} {v : Value} {l : List OpD} (h : ROp w lo hi v l) (c : Ext w w') : ROp w' lo hi v l := h.ch c (fun _ _ _ t => t)
theorem ROp.nil (w : World) : ROp w 0 w.heap.size (.slice none 0 0) [] := ⟨[], none, 0, rfl, rfl, Nat.le_refl _, ⟨by simp [cellsL], Nat.le_refl _, fun h => absurd h (by simp)⟩, fun x hx => by cases hx⟩
end Go.Proofs.YtggaghghclomkaaGreat
