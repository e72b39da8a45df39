/- Contracts: a disk behind a loss of power. -/
import Derived.Test.YtggaghghclomkaaGreatCalmK
import Derived.Test.YtggaghghclomkaaGreatTear
import Derived.Test.YtggaghghclomkaaGreatKindI
namespace Go.Proofs.YtggaghghclomkaaGreat
open Go.RowKit
/-! ### the plain law -/
def cutAt (cuts : List Int) (i : Nat) : Int := if cuts.length = 0 then 0 else cuts.getD (i % cuts.length) 0
def crashP (cuts : List Int) (i : Nat) (p : NodeP) : NodeP := (p.1, tear p.2.2 p.2.1 (cutAt cuts i), tear p.2.2 p.2.1 (cutAt cuts i))
/-- How many turns are safe. -/
def tnN (d : DiskP) (t : Int) : Nat := (max 0 (min t (d.turns.length : Int))).toNat
def crashD (d : DiskP) (t : Int) (cuts : List Int) : DiskP :=
  { d with fuse := -1, nodes := (onlyP d.nodes ((runT d.kept (d.turns.take (tnN d t))).map (·.id))).mapIdx (crashP cuts), kept := runT d.kept (d.turns.take (tnN d t)), turns := [] }
open Classical in
noncomputable def pCrash (d : DiskP) (t : Int) (cuts : List Int) : DiskP × Bool := if DOk d then (crashD d t cuts, true) else (noDk, false)
open Classical in
theorem pCrash_yes {d : DiskP} {t : Int} {cuts : List Int} (h : DOk d) : pCrash d t cuts = (crashD d t cuts, true) := by unfold pCrash; exact if_pos h
open Classical in
theorem pCrash_no {d : DiskP} {t : Int} {cuts : List Int} (h : ¬ DOk d) : pCrash d t cuts = (noDk, false) := by unfold pCrash; exact if_neg h
theorem tnN_le (d : DiskP) (t : Int) : tnN d t ≤ d.turns.length := by unfold tnN; omega
theorem tear_le (s t : List UInt8) (k : Int) : (tear s t k).length ≤ max s.length t.length := by
  have h1 := tear_len s t k
  have h2 := share_le s t
  have h3 : (tearK s t k : Int) ≤ s.length + t.length - 2 * (share s t : Int) := by unfold tearK tearSteps; omega
  rw [h1]
  split <;> omega
theorem pCrash_tot {d : DiskP} {t : Int} {cuts : List Int} : totD (pCrash d t cuts).1 ≤ 1048576 := by
  by_cases h : DOk d
  · rw [pCrash_yes h]
    have h1 := h.dirLe _ (tnN_le d t)
    have h2 := h.dirName _ (tnN_le d t)
    exact tot_turned h h1 h2 (fun i p => by
      have := tear_le p.2.2 p.2.1 (cutAt cuts i)
      unfold crashP NdW NdM; simp only; omega) _ _ _
  · rw [pCrash_no h, totD_no]; decide
theorem RowR.head {α : Type} {f : α → List Value} {s lo hi m c : Nat} {w : World} {A : Option Addr} {l : List α} (hf : ∀ a, (f a).length = s) (h : RowR f s w lo hi (.slice A l.length c) l) (hm : m ≤ l.length) : Rd w lo hi s (cutA A c 0 s) (l.take m).length (cellsL f (l.take m)) := by
  obtain ⟨A', c', hv, hc, hr⟩ := h
  injection hv with h1 h2 h3
  subst h1 h3
  have h4 := hr.cut (a := 0) (b := m) (c := c) (Nat.zero_le _) hm hc
  rw [Nat.zero_mul, List.drop_zero, Nat.sub_zero, cellsL_take hf] at h4
  have : (l.take m).length = m := by rw [List.length_take]; omega
  rw [this]
  exact h4
attribute [local irreducible] TL TC TN TX TR TQ TA Pu Ret
set_option maxRecDepth 100000 in
set_option maxHeartbeats 4000000 in
theorem implDiskCrash_c {w : World} {lo hi : Nat} {d : DiskP} {sn sk st : Value} {t : Int} {cuts : List Int} {lo2 hi2 : Nat} {vc : Value} (h : RDk w lo hi d sn sk st) (hf : d.fits) (hl : totD d ≤ 1048576) (hcu : RI w lo2 hi2 vc cuts) (hcl : cuts.length ≤ 9223372036854775807) :
    Ret Tryz.prog 15 #[.agg (dskC d sn sk st).toArray, I t, vc] w fun v' w' => ∃ sn' sk' st', v' = .tuple #[.agg (dskC (pCrash d t cuts).1 sn' sk' st').toArray, .bool (pCrash d t cuts).2] ∧ Ext w w' ∧ ODk w' w.heap.size w'.heap.size (pCrash d t cuts).1 sn' sk' st' := by
  obtain ⟨ft1, ft2⟩ := fits_tk hf
  obtain ⟨Ac, cc, rfl, hcc, hrc⟩ := hcu
  obtain ⟨m, hm⟩ : ∃ m, m = tnN d t := ⟨_, rfl⟩
  have hmi : max 0 (min t (d.turns.length : Int)) = (m : Int) := by rw [hm]; unfold tnN; omega
  have hml : m ≤ d.turns.length := by omega
  obtain ⟨L, hLq⟩ : ∃ L, L = runT d.kept (d.turns.take m) := ⟨_, rfl⟩
  have hLm : runT d.kept (d.turns.take (tnN d t)) = L := by rw [hLq, hm]
  obtain ⟨At, ct, rfl, hct, hrt0⟩ := h.2.2.row
  have hh := h
  refine Ret_enter Tryz.func15 rfl rfl rfl ?_
  repeat' (first | apply Jbs | apply Jbt)
  refine TL_box (cs := dskC d sn sk (.slice At d.turns.length ct)) rfl rfl ?_
  intro w1 g1 e1 hg1 hz1 hb1
  skip
  refine TL_alloc Zs.h rfl rfl ?_
  intro w2 g2 e2 hg2 hz2 hb2
  replace hb1 := hb1.ext e2
  have E2 : Ext w w2 := e1.ext e2
  repeat' (first | apply Jbq | apply Jbr | apply Jbs | apply Jbt | (apply Jcg; exact Jab rfl; exact rfl) | refine Jcg (Pu_loadAgg (cs := dskC d sn sk (.slice At d.turns.length ct)) Us.h rfl Sz.h rfl (fun _ e j u hu => by rw [e, add0, hb1.cell]; exact hu)) rfl ?_)
  refine TL_call rfl en65 (implDiskOk_c (hh.ext E2) hf hl) rfl rfl ?_
  rintro _ w3 ⟨rfl, e3⟩
  replace hb1 := hb1.ext e3
  replace hb2 := hb2.ext e3
  have hs3 := e3.size
  have E3 := E2.ext e3
  cases hp : pDOk d with
  | false =>
    rw [pCrash_no (fun h => by rw [pDOk_yes h] at hp; cases hp)]
    repeat' (first | apply Jbq | apply Jbr | apply Jbs | apply Jbt | (refine Jce rfl ?_) | (apply Jcg; exact Jaj rfl; exact rfl) | refine Jcg (Pu_build (cs := dskC noDk (.slice none 0 0) (.slice none 0 0) (.slice none 0 0)) rfl (by kernel_rfl)) rfl ?_)
    refine TL_storeAgg rfl rfl Sz.h rfl hb2 rfl ?_
    intro w8 c8 hz8 hb8
    have E8 : Ext w w8 := Ext.then_iv E3 c8 (by omega)
    repeat' (first | apply Jbq | apply Jbr | apply Jbu | apply Jbv | (apply Jcg; exact Jab rfl; exact rfl))
    exact TR_of (resA1 rfl rfl rfl hb8 Us.h rfl Sz.h) ⟨_, _, _, rfl, E8, ODk.nil (Nat.le_refl _)⟩
  | true =>
    have hD := pDOk_of hp
    have hB := hD.base
    unfold dBase at hB
    rw [pCrash_yes hD]
    repeat' (first | apply Jbq | apply Jbr | apply Jbs | apply Jbt | apply Jbz | (refine Jcf rfl ?_) | (apply Jcg; exact Jaj rfl; exact rfl) | refine Jcg (Pu_loadAgg (cs := dskC d sn sk (.slice At d.turns.length ct)) Us.h rfl Sz.h rfl (fun _ e j u hu => by rw [e, add0, hb1.cell]; exact hu)) rfl ?_)
    refine TL_call rfl en66 (implcopyDisk_c (hh.ext E3) hl) rfl rfl ?_
    rintro _ w4 ⟨sn1, sk1, st1, rfl, e4, hx⟩
    replace hb1 := hb1.ext e4
    replace hb2 := hb2.ext e4
    have hs4 := e4.size
    have E4 := E3.ext e4
    have hone := hx.one
    skip
    refine TL_alloc Zs.h rfl rfl ?_
    intro w5 g5 e5 hg5 hz5 hb5
    replace hb1 := hb1.ext e5
    replace hb2 := hb2.ext e5
    replace hx := hx.ext e5
    skip
    refine TL_storeAgg rfl rfl Sz.h hone hb5 rfl ?_
    clear hb5
    intro w6 c6 hz6 hb5
    replace hb1 := hb1.ch c6 (by simp only [Iv]; omega)
    replace hb2 := hb2.ch c6 (by simp only [Iv]; omega)
    replace hx := hx.ch c6 (by intro k _ _; simp only [Iv]; omega)
    have E6 : Ext w w6 := Ext.then_iv (E4.ext e5) c6 (by have := E4.size; omega)
    repeat' (first | apply Jbq | apply Jbr | apply Jbs)
    refine TC_any mixed rfl ?_
    intro w6a hE hz6a
    (refine Jco 0 rfl (by kernel_rfl) (by kernel_rfl) (by kernel_rfl) (fun _ _ _ h => h) hE (by (apply Jbl; exact Us.h; exact rfl; exact Sz.h; exact rfl)) rfl ?_; refine Jco 1 rfl (by kernel_rfl) (by kernel_rfl) (by kernel_rfl) (fun _ _ _ h => h) hE (by exact Pu_load Fl.h rfl (fun _ e => Ext.cell e (hb1.ld rfl))) rfl ?_; refine Jco 2 rfl (by kernel_rfl) (by kernel_rfl) (by kernel_rfl) (fun _ _ _ h => h) hE (by (apply Jbl; exact Us.h; exact rfl; exact Sz.h; exact rfl)) rfl ?_; refine Jco 3 rfl (by kernel_rfl) (by kernel_rfl) (by kernel_rfl) (fun _ _ _ h => h) hE (by exact Pu_load Fl.h rfl (fun _ e => Ext.cell e (hb1.ld rfl))) rfl ?_; refine Jco 4 rfl (by kernel_rfl) (by kernel_rfl) (by kernel_rfl) (fun _ _ _ h => h) hE (by exact Jaa rfl) rfl ?_; refine Jco 5 rfl (by kernel_rfl) (by kernel_rfl) (by kernel_rfl) (fun _ _ _ h => h) hE (by (apply Jbl; exact Us.h; exact rfl; exact Sz.h; exact rfl)) rfl ?_; refine Jco 6 rfl (by kernel_rfl) (by kernel_rfl) (by kernel_rfl) (fun _ _ _ h => h) hE (by exact Pu_load Fl.h rfl (fun _ e => Ext.cell e (hb1.ld rfl))) rfl ?_; refine Jco 7 rfl (by kernel_rfl) (by kernel_rfl) (by kernel_rfl) (fun _ _ _ h => h) hE (by exact Jac Us.h rfl) rfl ?_; refine Jco 8 rfl (by kernel_rfl) (by kernel_rfl) (by kernel_rfl) (fun _ _ _ h => h) hE (by exact Jay rfl rfl) rfl ?_; refine Jco 9 rfl (by kernel_rfl) (by kernel_rfl) (by kernel_rfl) (fun _ _ _ h => h) hE (by exact Jaz rfl rfl) rfl ?_; refine Jco 10 rfl (by kernel_rfl) (by kernel_rfl) (by kernel_rfl) (fun _ _ _ h => h) hE (by exact Jbe Us.h Sz.h rfl rfl (by omega)) rfl ?_)
    refine TA_one 11 (by kernel_rfl) rfl ?_
    have hts := (RowR.head TnC_len hh.2.2.row hml).ext (E6.ext hE)
    rw [hmi, Int.toNat_natCast]
    have hlt : (d.turns.take m).length = m := by rw [List.length_take]; omega
    rw [hlt] at hts
    refine TL_call rfl en67 (dirOf_c (hh.2.1.ext (E6.ext hE)) (RowR.rt ⟨_, _, by rw [hlt], by omega, by rw [hlt]; exact hts⟩) (kept_asc ((dok_iff d).1 hD).link) (by omega) (by omega) ft1 (fun x hx => ft2 x (List.mem_of_mem_take hx))) rfl rfl ?_
    rintro _ w7 ⟨e7a, hq⟩
    have e7 := hE.ext e7a
    rcases hq with ⟨_, b, kb, rfl, _, _, hM⟩ | ⟨hA, _⟩
    case inr =>
      refine absurd (fun j hj => ?_) hA
      have h1 := ((dok_iff d).1 hD).turn j (by omega)
      rw [List.take_take, Nat.min_eq_left (by omega), List.getElem_take]
      exact h1
    clear hE
    have hE := e7
    refine Jbq (TN_any hE ?_)
    (refine Jco 12 rfl (by kernel_rfl) (by kernel_rfl) (by kernel_rfl) (fun _ _ _ h => h) hE (by exact Jaa rfl) rfl ?_; refine Jco 13 rfl (by kernel_rfl) (by kernel_rfl) (by kernel_rfl) (fun _ _ _ h => h) hE (by exact Jae rfl rfl) rfl ?_; refine Jco 14 rfl (by kernel_rfl) (by kernel_rfl) (by kernel_rfl) (fun _ _ _ h => h) hE (by exact Jae rfl rfl) rfl ?_; refine Jco 15 rfl (by kernel_rfl) (by kernel_rfl) (by kernel_rfl) (fun _ _ _ h => h) hE (by exact Jab rfl) rfl ?_; refine Jco 16 rfl (by kernel_rfl) (by kernel_rfl) (by kernel_rfl) (fun _ _ _ h => h) hE (by exact Jab rfl) rfl ?_)
    refine TA_done (by kernel_rfl) ?_
    have hs7 := e7.size
    have E7 := E6.ext e7
    have hb57 := hb5.ext e7
    have hdir := hD.dirLe m hml
    have hids := hD.dirIds m hml
    have hasc := hD.asc m hml
    rw [← hLq] at hdir hids hasc hM
    repeat' (first | apply Jbr | apply Jbs | apply Jbt | (apply Jcg; exact Jaa rfl; exact rfl))
    refine TL_call rfl en69 (links_c hM hasc (by omega)) rfl rfl ?_
    rintro vk w8 ⟨e8, hok⟩
    have hs8 := e8.size
    have E8 := E7.ext e8
    have hb58 := hb57.ext e8
    have hx8 := hx.ext (e7.ext e8)
    obtain ⟨_, ds, hmap, hN, hrk, hrt, hnd, hin⟩ := hx8
    have hinN : ∀ b ∈ bksN sn1 ds, w3.heap.size ≤ b ∧ b < w4.heap.size := fun b hb => hin b (List.mem_append.2 (.inl hb))
    obtain ⟨A1, c1, rfl, hc1, hr1⟩ := hN.row.rr (fun b hb => hinN b (List.mem_append.2 (.inl hb))) (by omega)
    have hdl : ds.length = d.nodes.length := by rw [← hmap, List.length_map]
    skip
    refine TL_call rfl en68 (only_c hb58 hr1 (fun x hx => by obtain ⟨h1, h2⟩ := hN.ok x hx; obtain ⟨A, c, _, _, h3, _⟩ := h1.sl; obtain ⟨A', c', _, _, h4, _⟩ := h2.sl; exact ⟨⟨A, _, c, h3⟩, ⟨A', _, c', h4⟩⟩) hok.rd (by omega) (by omega) (fun x hx => hD.idB _ (hids x hx))
      (fun x hx => hD.idB _ (by rw [← hmap]; unfold nIds; rw [List.map_map]; exact List.mem_map.2 ⟨x, hx, rfl⟩))) rfl rfl ?_
    rintro _ w9 ⟨rfl, c9, vn, hb9, hon⟩
    have hs9 := c9.size
    have hokb := hok.bin
    have hN9 : ONx w9 vn (only ds ((L).map (·.id))) := hN.keep hon c9 (fun b hb => by have := hinN b hb; simp only [Iv]; omega) (fun b hb => by have := hinN b hb; omega)
    have hbk9 : ∀ b ∈ bksN vn (only ds ((L).map (·.id))), w3.heap.size ≤ b ∧ b < w9.heap.size ∧ (b < w7.heap.size ∨ w8.heap.size ≤ b) ∧ b ≠ g5 := fun b hb => by
      have h1 := bks_keep hon hinN b hb
      exact ⟨by omega, by omega, by omega, by omega⟩
    replace hok := hok.ch c9 (by intro k _ _; simp only [Iv]; omega)
    have E9 : Ext w w9 := Ext.then_iv E8 c9 (by have := E4.size; omega)
    replace hb2 := ((hb2.ext e7).ext e8).ch c9 (by simp only [Iv]; omega)
    obtain ⟨l, hlq⟩ : ∃ l, l = onlyP d.nodes ((L).map (·.id)) := ⟨_, rfl⟩
    have hmap9 : (only ds ((L).map (·.id))).map NdP = l := by rw [only_map, hmap, hlq]
    obtain ⟨es0, hes0⟩ : ∃ es0, es0 = only ds ((L).map (·.id)) := ⟨_, rfl⟩
    rw [← hes0] at hmap9 hN9 hbk9 hon
    have hl8 : l.length ≤ 8 := by rw [hlq]; have := onlyP_length d.nodes ((L).map (·.id)); omega
    have hlen0 : es0.length = l.length := by rw [← hmap9, List.length_map]
    obtain ⟨An, cn, rfl, hown⟩ := hon
    clear hown hr1 hrk hrt hN hmap hnd hin hM hb1 hrt0
    repeat' (first | apply Jbq | apply Jbr | apply Jbs | apply Jbt | apply Jby | (apply Jcg; (first | exact Jaa rfl | exact Jac Us.h rfl | (apply Jbl; exact Us.h; exact rfl; exact Sz.h; exact rfl)); exact rfl) | refine Jcg (Pu_load Fl.h rfl (fun _ e => by rw [e]; exact hb9.ld rfl)) rfl ?_)
    refine TC_loop (ι := Nat) (fun k => [(2, .slice Ac cuts.length cc), (6, .pointer (some ⟨g2, 0, none⟩)), (8, .pointer (some ⟨g5, 0, none⟩)), (41, I es0.length), (42, I k)])
      (fun k w' => k ≤ l.length ∧ Ext w w' ∧ w9.heap.size ≤ w'.heap.size ∧ Blk w' g5 33 (dskC d (.slice An es0.length cn) vk (.slice none 0 0)) ∧ RowO LkC 162 2 w' w7.heap.size w8.heap.size vk (L) ∧ Blk w' g2 33 (dskC noDk (.slice none 0 0) (.slice none 0 0) (.slice none 0 0)) ∧
        ∃ es, es.map NdP = (l.take k).mapIdx (crashP cuts) ++ l.drop k ∧ ONx w' (.slice An es0.length cn) es ∧ ∀ b ∈ bksN (.slice An es0.length cn) es, w3.heap.size ≤ b ∧ b < w'.heap.size ∧ (b < w7.heap.size ∨ w8.heap.size ≤ b) ∧ b ≠ g5) (fun k => l.length - k) 0
      (subEnv_cons rfl (subEnv_cons rfl (subEnv_cons rfl (subEnv_cons rfl (subEnv_cons rfl (subEnv_nil _)))))) ⟨Nat.zero_le _, E9, Nat.le_refl _, hb9, hok, hb2, es0, by rw [hmap9]; simp, hN9, hbk9⟩ ?_
    rintro k w10 ⟨hk10, E10, hs10, hb510, hok10, hb210, es, hes, hN10, hbk10⟩
    repeat' (first | apply Jbq | apply Jbr | apply Jbs | apply Jbt | (apply Jcg; exact Jad rfl rfl; exact rfl))
    refine Jcx rfl (fun hlt0 => ?_) (fun hge => ?_)
    · have hlt : k < l.length := by omega
      have hel : es.length = l.length := by
        have := congrArg List.length hes
        rw [List.length_map, List.length_append, List.length_mapIdx, List.length_take, List.length_drop] at this
        omega
      have hke : k < es.length := by omega
      obtain ⟨gN, cN, loN, hiN, hvN, hownN⟩ := hN10.open hke
      injection hvN with hv1 hv2 hv3
      subst hv1 hv3
      have hgN := hbk10 gN (List.mem_append.2 (.inl (List.mem_singleton.2 rfl)))
      obtain ⟨x, hx⟩ : ∃ x, x = es[k] := ⟨_, rfl⟩
      have hok2 := hN10.ok es[k] (List.getElem_mem hke)
      have hbx := bkd_in (v := .slice (some ⟨gN, 0, none⟩) es0.length cn) hke
      rw [← hx] at hok2 hbx
      have hxl : NdP x = l[k] := by
        have h1 := upd_get (crashP cuts) l k hlt
        rw [← hes, List.getElem?_map, List.getElem?_eq_getElem hke, ← hx] at h1
        injection h1
      obtain ⟨id, body, safe, vb, vs⟩ := x
      obtain ⟨hokB, hokS⟩ := hok2
      simp only at hokB hokS
      obtain ⟨Ab, cb, lob, hib, rfl, hownB⟩ := hokB.sl
      obtain ⟨As, cs, los, his, rfl, hownS⟩ := hokS.sl
      have hbl : body.length ≤ 1048576 ∧ safe.length ≤ 1048576 := by
        have h1 : (id, body, safe) ∈ d.nodes := by
          have h2 : l[k] ∈ l := List.getElem_mem hlt
          rw [← hxl, hlq] at h2
          exact onlyP_mem h2
        have h3 := totNd_mem h1
        have h4 := (totD_parts hl).1
        unfold NdW at h3
        simp only at h3
        omega
      have hcb : w10.cell? ((⟨gN, 0, none⟩ : Addr).add (k * 3) |>.add 1) = some (.slice Ab body.length cb) := by
        rw [add_lit3, hownN.row.cellAt (k * 3 + 1) (by omega), cellsL_at NdC_len es k 1 hke (by omega), ← hx]; rfl
      have hcs : w10.cell? ((⟨gN, 0, none⟩ : Addr).add (k * 3) |>.add 2) = some (.slice As safe.length cs) := by
        rw [add_lit3, hownN.row.cellAt (k * 3 + 2) (by omega), cellsL_at NdC_len es k 2 hke (by omega), ← hx]; rfl
      repeat' (first | apply Jbr | apply Jbz)
      apply Jbs
      repeat' (apply Jby)
      apply Jbs
      repeat' (first | apply Jbq | apply Jbr | apply Jbt | (apply Jcg; (first | exact Jaa rfl | exact Jab rfl); exact rfl))
      apply Jbs
      repeat' (first | apply Jbq | apply Jbr | apply Jbt | (apply Jcg; exact Jab rfl; exact rfl))
      refine TC_join (ι := Unit) (fun _ => [(2, .slice Ac cuts.length cc), (6, .pointer (some ⟨g2, 0, none⟩)), (8, .pointer (some ⟨g5, 0, none⟩)), (11, I k), (12, I (cutAt cuts k)), (41, I es0.length), (42, I k)]) (fun _ w' => w10 = w') ?_ ?_
      · repeat' (first | apply Jbq | apply Jbr | apply Jbs | apply Jbt | (apply Jcg; (first | exact Jaa rfl | exact Jac Us.h rfl | exact Jam rfl rfl); exact rfl))
        refine Jcx rfl (fun hp => ?_) (fun hp => ?_)
        · have hne : cuts.length ≠ 0 := by omega
          have hmod : ((k : Int) % (cuts.length : Int)) = ((k % cuts.length : Nat) : Int) := by omega
          have hmlt : k % cuts.length < cuts.length := Nat.mod_lt _ (by omega)
          obtain ⟨ad, rfl, hcell⟩ := (hrc.ext E10).get hmlt
          have hcv : (i64s cuts).getD (k % cuts.length) undef = I (cutAt cuts k) := by
            unfold cutAt i64s
            rw [if_neg hne]
            simp [List.getD_eq_getElem?_getD, List.getElem?_eq_getElem hmlt]
          rw [hcv] at hcell
          repeat' (first | apply Jbq | apply Jbt | (apply Jcg; (first | exact Jaa rfl | exact Jab rfl | exact Jac Us.h rfl | exact Jag Us.h Sz.h rfl rfl (by omega) | exact Jbj rfl rfl (by omega)); exact rfl) | refine Jcg (Pu_load Fl.h rfl (fun _ e => by rw [e, hmod, Int.toNat_natCast]; exact hcell)) rfl ?_)
          exact TN_join () (subEnv_cons rfl (subEnv_cons rfl (subEnv_cons rfl (subEnv_cons rfl (subEnv_cons rfl (subEnv_cons rfl (subEnv_cons rfl (subEnv_nil _)))))))) rfl
        · have hz0 : cuts.length = 0 := by omega
          repeat' (apply Jbz)
          refine TN_join () (subEnv_cons rfl (subEnv_cons rfl (subEnv_cons rfl (subEnv_cons rfl (subEnv_cons (congrArg (fun z => some (I z)) (by unfold cutAt; rw [if_pos hz0])) (subEnv_cons rfl (subEnv_cons rfl (subEnv_nil _)))))))) rfl
      rintro _ _ rfl
      repeat' (first | apply Jbq | apply Jbr | apply Jbs | apply Jbt | (apply Jcg; (first | exact Jaa rfl | exact Jab rfl | exact Jar Us.h Sz.h rfl rfl (by omega) | (apply Jbl; exact Us.h; exact rfl; exact Sz.h; exact rfl)); exact rfl) | refine Jcg (Pu_load Fl.h rfl (fun _ e => by rw [e]; exact hb510.ld rfl)) rfl ?_)
      refine TC_any mixed rfl ?_
      intro w11 hE hz11
      (refine Jco 0 rfl (by kernel_rfl) (by kernel_rfl) (by kernel_rfl) (fun _ _ _ h => h) hE (by exact Jaa rfl) rfl ?_; refine Jco 1 rfl (by kernel_rfl) (by kernel_rfl) (by kernel_rfl) (fun _ _ _ h => h) hE (by exact Jba rfl) rfl ?_; refine Jco 2 rfl (by kernel_rfl) (by kernel_rfl) (by kernel_rfl) (fun _ _ _ h => h) hE (by (apply Jbl; exact Us.h; exact rfl; exact Sz.h; exact rfl)) rfl ?_; refine Jco 3 rfl (by kernel_rfl) (by kernel_rfl) (by kernel_rfl) (fun _ _ _ h => h) hE (by exact Pu_load Fl.h rfl (fun _ e => Ext.cell e hcs)) rfl ?_; refine Jco 4 rfl (by kernel_rfl) (by kernel_rfl) (by kernel_rfl) (fun _ _ _ h => h) hE (by exact Jaa rfl) rfl ?_; refine Jco 5 rfl (by kernel_rfl) (by kernel_rfl) (by kernel_rfl) (fun _ _ _ h => h) hE (by exact Jba rfl) rfl ?_; refine Jco 6 rfl (by kernel_rfl) (by kernel_rfl) (by kernel_rfl) (fun _ _ _ h => h) hE (by (apply Jbl; exact Us.h; exact rfl; exact Sz.h; exact rfl)) rfl ?_; refine Jco 7 rfl (by kernel_rfl) (by kernel_rfl) (by kernel_rfl) (fun _ _ _ h => h) hE (by exact Pu_load Fl.h rfl (fun _ e => Ext.cell e hcb)) rfl ?_; refine Jco 8 rfl (by kernel_rfl) (by kernel_rfl) (by kernel_rfl) (fun _ _ _ h => h) hE (by exact Jaa rfl) rfl ?_)
      refine TA_one 9 (by kernel_rfl) rfl ?_
      refine TL_call rfl en70 (implTear_c (hownS.ext hE).rd (hownB.ext hE).rd (by omega) (by omega) (hownS.ext hE).cap.1 (hownB.ext hE).cap.1) rfl rfl ?_
      rintro _ w12 ⟨A2, c2, rfl, e12, ho2⟩
      have hs11 := hE.size
      have e1012 := hE.ext e12
      clear hE
      have hE := e1012
      refine Jbq (TN_any hE ?_)
      (refine Jco 10 rfl (by kernel_rfl) (by kernel_rfl) (by kernel_rfl) (fun _ _ _ h => h) hE (by exact Jab rfl) rfl ?_)
      refine TA_done (by kernel_rfl) ?_
      obtain ⟨b, hbq⟩ : ∃ b, b = tear safe body (cutAt cuts k) := ⟨_, rfl⟩
      have hb8 : b.length ≤ 1048576 := by
        have h1 := tear_le safe body (cutAt cuts k)
        rw [← hbq] at h1
        omega
      rw [← hbq] at ho2 ⊢
      repeat' (first | apply Jbr | apply Jbt | (apply Jcg; exact Jaa rfl; exact rfl))
      refine TL_call rfl en71 (copyBytes_c ho2.rd (by omega)) rfl rfl ?_
      rintro _ w13 ⟨A3, c3, rfl, e13, ho3⟩
      have hs12 := e12.size
      have hs13 := e13.size
      have e1013 := e1012.ext e13
      replace ho2 := ho2.ext e13
      repeat' ((apply Jcg; (first | exact Jba rfl | (apply Jbl; exact Us.h; exact rfl; exact Sz.h; exact rfl)); exact rfl))
      refine TL_storeOwn rfl (add_lit3 gN (k * 3) 1) rfl Sz.h rfl (hownN.ext e1013) (by omega) ?_
      intro w14 c14 hz14 hown14
      repeat' ((apply Jcg; (first | exact Jba rfl | (apply Jbl; exact Us.h; exact rfl; exact Sz.h; exact rfl)); exact rfl))
      refine TL_storeOwn rfl (add_lit3 gN (k * 3) 2) rfl Sz.h rfl hown14 (by omega) ?_
      intro w15 c15 hz15 hown15
      have hx' : es[k] = ⟨id, body, safe, .slice Ab body.length cb, .slice As safe.length cs⟩ := hx.symm
      rw [cells_body (s := b) hke hx', cells_safe (s := b) (k := k) (by rw [List.length_set]; exact hke) (List.getElem_set_self ..), List.set_set] at hown15
      have hlset : (es.set k ⟨id, b, b, .slice A2 b.length c2, .slice A3 b.length c3⟩).length = es0.length := by rw [List.length_set]; omega
      have hbn2 : ∀ x ∈ blk (.slice A2 b.length c2), w11.heap.size ≤ x ∧ x < w12.heap.size := OB.bin ⟨A2, c2, rfl, ho2⟩
      have hbn3 : ∀ x ∈ blk (.slice A3 b.length c3), w12.heap.size ≤ x ∧ x < w13.heap.size := OB.bin ⟨A3, c3, rfl, ho3⟩
      have hN15 := ONx.set (x' := ⟨id, b, b, .slice A2 b.length c2, .slice A3 b.length c3⟩) hke (hN10.ext e1013) (c14.then c15) ⟨_, _, by rw [hlset], by rw [hlset, ← hel.trans hlen0.symm]; exact hown15⟩ ⟨OB.x ⟨A2, c2, rfl, ho2⟩, OB.x ⟨A3, c3, rfl, ho3⟩⟩
        (by
          show (blk _ ++ blk _).Nodup
          rw [List.nodup_append]
          exact ⟨blk_nodup _, blk_nodup _, fun x hx y hy e => by
            have h1 := hbn2 x hx
            have h2 := hbn3 y hy
            omega⟩)
        (fun x hx => by
          right
          intro h
          have h1 := hbk10 x h
          rcases List.mem_append.1 hx with hx | hx
          · have h2 := hbn2 x hx; omega
          · have h2 := hbn3 x hx; omega)
      have hbk15 := bks_set (R := fun b => w3.heap.size ≤ b ∧ b < w15.heap.size ∧ (b < w7.heap.size ∨ w8.heap.size ≤ b) ∧ b ≠ g5) (v := .slice (some ⟨gN, 0, none⟩) es0.length cn) (es := es) (k := k) (x' := ⟨id, b, b, .slice A2 b.length c2, .slice A3 b.length c3⟩) (fun b hb => by have := hbk10 b hb; exact ⟨this.1, by omega, this.2.2⟩)
        (fun x hx => by
          rcases List.mem_append.1 hx with hx | hx
          · have h2 := hbn2 x hx
            exact ⟨by omega, by omega, by omega, by omega⟩
          · have h2 := hbn3 x hx
            exact ⟨by omega, by omega, by omega, by omega⟩)
      have hb515 := ((hb510.ext e1013).ch c14 (by simp only [Iv]; omega)).ch c15 (by simp only [Iv]; omega)
      have hb215 := ((hb210.ext e1013).ch c14 (by simp only [Iv]; omega)).ch c15 (by simp only [Iv]; omega)
      have hok15 := ((hok10.ext e1013).ch c14 (by intro j h1 h2; simp only [Iv]; omega)).ch c15 (by intro j h1 h2; simp only [Iv]; omega)
      repeat' (first | apply Jbq | apply Jbr | apply Jbt | apply Jbx | (apply Jcg; (first | exact Jaa rfl | exact Jaf rfl rfl (by omega)); exact rfl))
      exact TN_round (k + 1) (subEnv_cons rfl (subEnv_cons rfl (subEnv_cons rfl (subEnv_cons rfl (subEnv_cons rfl (subEnv_nil _)))))) ⟨hlt, Ext.then_iv (Ext.then_iv (E10.ext e1013) c14 (by omega)) c15 (by omega), by omega, hb515, hok15, hb215, es.set k ⟨id, b, b, .slice A2 b.length c2, .slice A3 b.length c3⟩, by rw [← upd_step _ _ _ hlt, ← hes, List.map_set, ← hxl, hbq]; rfl, hN15, hbk15⟩ (by omega)
    · obtain rfl : k = l.length := by omega
      rw [upd_all, hlq] at hes
      repeat' (first | apply Jbr | apply Jbs | apply Jbt | apply Jca | apply Jcb | apply Jcc | (apply Jcg; (apply Jbl; exact Us.h; exact rfl; exact Sz.h; exact rfl); exact rfl))
      refine TL_store rfl rfl Sz.h rfl hb510 rfl ?_
      intro w10' c10' hz10' hb511
      replace hb511 : Blk w10' g5 33 (dskC (crashD d t cuts) (.slice An es0.length cn) vk (.slice none 0 0)) := hb511
      replace E10 : Ext w w10' := Ext.then_iv E10 c10' (by have := E4.size; omega)
      replace hb210 := hb210.ch c10' (by simp only [Iv]; omega)
      replace hok10 := hok10.ch c10' (by intro k _ _; simp only [Iv]; omega)
      replace hN10 := hN10.ch c10' (fun b hb => by have := hbk10 b hb; simp only [Iv]; omega)
      repeat' (first | apply Jbq | apply Jbr | apply Jbs | apply Jbt | refine Jcg (Pu_loadAgg (cs := dskC (crashD d t cuts) (.slice An es0.length cn) vk (.slice none 0 0)) Us.h rfl Sz.h rfl (fun _ e j u hu => by rw [e, add0, hb511.cell]; exact hu)) rfl ?_)
      refine TL_storeAgg rfl rfl Sz.h (by show ((dskC (crashD d t cuts) (.slice An es0.length cn) vk (.slice none 0 0)).all (·.oneCell')) = true; simp only [dskC, List.all_cons, List.all_nil, hok10.rd.one]; rfl) hb210 rfl ?_
      intro w11 c11 hz11 hb11
      repeat' (first | apply Jbq | apply Jbr | apply Jbu | (apply Jcg; exact Jab rfl; exact rfl))
      exact TR_of (resA1 rfl rfl rfl hb11 Us.h rfl Sz.h) ⟨.slice An es0.length cn, vk, .slice none 0 0, rfl, Ext.then_iv E10 c11 (by omega), ODk.mk2 (d := crashD d t cuts) (Nat.le_refl _) (by rw [hes]; unfold crashD; rw [hLm]) (hN10.ch c11 (fun b hb => by have := hbk10 b hb; simp only [Iv]; omega)) (by rw [show (crashD d t cuts).kept = L from hLm]; exact hok10.ch c11 (by intro j _ _; simp only [Iv]; omega)) rfl (fun b hb => by have := hbk10 b hb; exact ⟨by omega, by omega, fun h => by have := hokb b h; omega⟩) (by omega) (by omega)⟩
end Go.Proofs.YtggaghghclomkaaGreat
