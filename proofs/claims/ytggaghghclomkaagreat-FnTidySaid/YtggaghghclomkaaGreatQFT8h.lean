/- Texts of this proof laid together, in the order in which they build; what each proves stands ahead of it. No condition but those told there. -/
import Derived.Test.YtggaghghclomkaaGreatQFT8g
import Derived.Lib.AppendStr

/- Contracts: a disk behind a loss of power. -/
namespace Go.Proofs.YtggaghghclomkaaGreat
open Go.RowKit
/-! ### the plain law -/
def cutAt (cuts : List Int) (i : Nat) : Int := if cuts.length = 0 then 0 else cuts.getD (i % cuts.length) 0
def crashP (cuts : List Int) (i : Nat) (p : NodeP) : NodeP := (p.1, tear p.2.2 p.2.1 (cutAt cuts i), tear p.2.2 p.2.1 (cutAt cuts i))
/-- How many turns are safe. -/
def tnN (d : DiskP) (t : Int) : Nat := (max 0 (min t (d.turns.length : Int))).toNat
def crashD (d : DiskP) (t : Int) (cuts : List Int) : DiskP :=
  { d with fuse := -1, nodes := (onlyP d.nodes ((runT d.kept (d.turns.take (tnN d t))).map (·.id))).mapIdx (crashP cuts), kept := runT d.kept (d.turns.take (tnN d t)), turns := [] }
open Classical in
noncomputable def pCrash (d : DiskP) (t : Int) (cuts : List Int) : DiskP × Bool := if DOk d then (crashD d t cuts, true) else (noDk, false)
open Classical in
theorem pCrash_yes {d : DiskP} {t : Int} {cuts : List Int} (h : DOk d) : pCrash d t cuts = (crashD d t cuts, true) := by unfold pCrash; exact if_pos h
open Classical in
theorem pCrash_no {d : DiskP} {t : Int} {cuts : List Int} (h : ¬ DOk d) : pCrash d t cuts = (noDk, false) := by unfold pCrash; exact if_neg h
theorem tnN_le (d : DiskP) (t : Int) : tnN d t ≤ d.turns.length := by unfold tnN; omega
theorem tear_le (s t : List UInt8) (k : Int) : (tear s t k).length ≤ max s.length t.length := by
  have h1 := tear_len s t k
  have h2 := share_le s t
  have h3 : (tearK s t k : Int) ≤ s.length + t.length - 2 * (share s t : Int) := by unfold tearK tearSteps; omega
  rw [h1]
  split <;> omega
theorem RowR.head {α : Type} {f : α → List Value} {s lo hi m c : Nat} {w : World} {A : Option Addr} {l : List α} (hf : ∀ a, (f a).length = s) (h : RowR f s w lo hi (.slice A l.length c) l) (hm : m ≤ l.length) : Rd w lo hi s (cutA A c 0 s) (l.take m).length (cellsL f (l.take m)) := by
  obtain ⟨A', c', hv, hc, hr⟩ := h
  injection hv with h1 h2 h3
  subst h1 h3
  have h4 := hr.cut (a := 0) (b := m) (c := c) (Nat.zero_le _) hm hc
  rw [Nat.zero_mul, List.drop_zero, Nat.sub_zero, cellsL_take hf] at h4
  have : (l.take m).length = m := by rw [List.length_take]; omega
  rw [this]
  exact h4
attribute [local irreducible] TL TC TN TX TR TQ TA Pu Ret
set_option maxRecDepth 100000 in
set_option maxHeartbeats 4000000 in
theorem implDiskCrash_c {w : World} {lo hi : Nat} {d : DiskP} {sn sk st : Value} {t : Int} {cuts : List Int} {lo2 hi2 : Nat} {vc : Value} (h : RDk w lo hi d sn sk st) (hf : d.fits) (hl : totD d ≤ 1048576) (hcu : RI w lo2 hi2 vc cuts) (hcl : cuts.length ≤ 9223372036854775807) :
    Ret Tryz.prog 15 #[.agg (dskC d sn sk st).toArray, I t, vc] w fun v' w' => ∃ sn' sk' st', v' = .tuple #[.agg (dskC (pCrash d t cuts).1 sn' sk' st').toArray, .bool (pCrash d t cuts).2] ∧ Ext w w' ∧ ODk w' w.heap.size w'.heap.size (pCrash d t cuts).1 sn' sk' st' := by
  obtain ⟨ft1, ft2⟩ := fits_tk hf
  obtain ⟨Ac, cc, rfl, hcc, hrc⟩ := hcu
  obtain ⟨m, hm⟩ : ∃ m, m = tnN d t := ⟨_, rfl⟩
  have hmi : max 0 (min t (d.turns.length : Int)) = (m : Int) := by rw [hm]; unfold tnN; omega
  have hml : m ≤ d.turns.length := by omega
  obtain ⟨L, hLq⟩ : ∃ L, L = runT d.kept (d.turns.take m) := ⟨_, rfl⟩
  have hLm : runT d.kept (d.turns.take (tnN d t)) = L := by rw [hLq, hm]
  obtain ⟨At, ct, rfl, hct, hrt0⟩ := h.2.2.row
  have hh := h
  refine Ret_enter Tryz.func15 rfl rfl rfl ?_
  repeat' (first | apply Jbs | apply Jbt)
  refine TL_box (cs := dskC d sn sk (.slice At d.turns.length ct)) rfl rfl ?_
  intro w1 g1 e1 hg1 hz1 hb1
  skip
  refine TL_alloc Zs.h rfl rfl ?_
  intro w2 g2 e2 hg2 hz2 hb2
  replace hb1 := hb1.ext e2
  have E2 : Ext w w2 := e1.ext e2
  repeat' (first | apply Jbq | apply Jbr | apply Jbs | apply Jbt | (apply Jcg; exact Jab rfl; exact rfl) | refine Jcg (Pu_loadAgg (cs := dskC d sn sk (.slice At d.turns.length ct)) Us.h rfl Sz.h rfl (fun _ e j u hu => by rw [e, add0, hb1.cell]; exact hu)) rfl ?_)
  refine TL_call rfl en65 (implDiskOk_c (hh.ext E2) hf hl) rfl rfl ?_
  rintro _ w3 ⟨rfl, e3⟩
  replace hb1 := hb1.ext e3
  replace hb2 := hb2.ext e3
  have hs3 := e3.size
  have E3 := E2.ext e3
  cases hp : pDOk d with
  | false =>
    rw [pCrash_no (fun h => by rw [pDOk_yes h] at hp; cases hp)]
    repeat' (first | apply Jbq | apply Jbr | apply Jbs | apply Jbt | (refine Jce rfl ?_) | (apply Jcg; exact Jaj rfl; exact rfl) | refine Jcg (Pu_build (cs := dskC noDk (.slice none 0 0) (.slice none 0 0) (.slice none 0 0)) rfl (by kernel_rfl)) rfl ?_)
    refine TL_storeAgg rfl rfl Sz.h rfl hb2 rfl ?_
    intro w8 c8 hz8 hb8
    have E8 : Ext w w8 := Ext.then_iv E3 c8 (by omega)
    repeat' (first | apply Jbq | apply Jbr | apply Jbu | apply Jbv | (apply Jcg; exact Jab rfl; exact rfl))
    exact TR_of (resA1 rfl rfl rfl hb8 Us.h rfl Sz.h) ⟨_, _, _, rfl, E8, ODk.nil (Nat.le_refl _)⟩
  | true =>
    have hD := pDOk_of hp
    have hB := hD.base
    unfold dBase at hB
    rw [pCrash_yes hD]
    repeat' (first | apply Jbq | apply Jbr | apply Jbs | apply Jbt | apply Jbz | (refine Jcf rfl ?_) | (apply Jcg; exact Jaj rfl; exact rfl) | refine Jcg (Pu_loadAgg (cs := dskC d sn sk (.slice At d.turns.length ct)) Us.h rfl Sz.h rfl (fun _ e j u hu => by rw [e, add0, hb1.cell]; exact hu)) rfl ?_)
    refine TL_call rfl en66 (implcopyDisk_c (hh.ext E3) hl) rfl rfl ?_
    rintro _ w4 ⟨sn1, sk1, st1, rfl, e4, hx⟩
    replace hb1 := hb1.ext e4
    replace hb2 := hb2.ext e4
    have hs4 := e4.size
    have E4 := E3.ext e4
    have hone := hx.one
    skip
    refine TL_alloc Zs.h rfl rfl ?_
    intro w5 g5 e5 hg5 hz5 hb5
    replace hb1 := hb1.ext e5
    replace hb2 := hb2.ext e5
    replace hx := hx.ext e5
    skip
    refine TL_storeAgg rfl rfl Sz.h hone hb5 rfl ?_
    clear hb5
    intro w6 c6 hz6 hb5
    replace hb1 := hb1.ch c6 (by simp only [Iv]; omega)
    replace hb2 := hb2.ch c6 (by simp only [Iv]; omega)
    replace hx := hx.ch c6 (by intro k _ _; simp only [Iv]; omega)
    have E6 : Ext w w6 := Ext.then_iv (E4.ext e5) c6 (by have := E4.size; omega)
    repeat' (first | apply Jbq | apply Jbr | apply Jbs)
    refine TC_any mixed rfl ?_
    intro w6a hE hz6a
    (refine Jco 0 rfl (by kernel_rfl) (by kernel_rfl) (by kernel_rfl) (fun _ _ _ h => h) hE (by (apply Jbl; exact Us.h; exact rfl; exact Sz.h; exact rfl)) rfl ?_; refine Jco 1 rfl (by kernel_rfl) (by kernel_rfl) (by kernel_rfl) (fun _ _ _ h => h) hE (by exact Pu_load Fl.h rfl (fun _ e => Ext.cell e (hb1.ld rfl))) rfl ?_; refine Jco 2 rfl (by kernel_rfl) (by kernel_rfl) (by kernel_rfl) (fun _ _ _ h => h) hE (by (apply Jbl; exact Us.h; exact rfl; exact Sz.h; exact rfl)) rfl ?_; refine Jco 3 rfl (by kernel_rfl) (by kernel_rfl) (by kernel_rfl) (fun _ _ _ h => h) hE (by exact Pu_load Fl.h rfl (fun _ e => Ext.cell e (hb1.ld rfl))) rfl ?_; refine Jco 4 rfl (by kernel_rfl) (by kernel_rfl) (by kernel_rfl) (fun _ _ _ h => h) hE (by exact Jaa rfl) rfl ?_; refine Jco 5 rfl (by kernel_rfl) (by kernel_rfl) (by kernel_rfl) (fun _ _ _ h => h) hE (by (apply Jbl; exact Us.h; exact rfl; exact Sz.h; exact rfl)) rfl ?_; refine Jco 6 rfl (by kernel_rfl) (by kernel_rfl) (by kernel_rfl) (fun _ _ _ h => h) hE (by exact Pu_load Fl.h rfl (fun _ e => Ext.cell e (hb1.ld rfl))) rfl ?_; refine Jco 7 rfl (by kernel_rfl) (by kernel_rfl) (by kernel_rfl) (fun _ _ _ h => h) hE (by exact Jac Us.h rfl) rfl ?_; refine Jco 8 rfl (by kernel_rfl) (by kernel_rfl) (by kernel_rfl) (fun _ _ _ h => h) hE (by exact Jay rfl rfl) rfl ?_; refine Jco 9 rfl (by kernel_rfl) (by kernel_rfl) (by kernel_rfl) (fun _ _ _ h => h) hE (by exact Jaz rfl rfl) rfl ?_; refine Jco 10 rfl (by kernel_rfl) (by kernel_rfl) (by kernel_rfl) (fun _ _ _ h => h) hE (by exact Jbe Us.h Sz.h rfl rfl (by omega)) rfl ?_)
    refine TA_one 11 (by kernel_rfl) rfl ?_
    have hts := (RowR.head TnC_len hh.2.2.row hml).ext (E6.ext hE)
    rw [hmi, Int.toNat_natCast]
    have hlt : (d.turns.take m).length = m := by rw [List.length_take]; omega
    rw [hlt] at hts
    refine TL_call rfl en67 (dirOf_c (hh.2.1.ext (E6.ext hE)) (RowR.rt ⟨_, _, by rw [hlt], by omega, by rw [hlt]; exact hts⟩) (kept_asc ((dok_iff d).1 hD).link) (by omega) (by omega) ft1 (fun x hx => ft2 x (List.mem_of_mem_take hx))) rfl rfl ?_
    rintro _ w7 ⟨e7a, hq⟩
    have e7 := hE.ext e7a
    rcases hq with ⟨_, b, kb, rfl, _, _, hM⟩ | ⟨hA, _⟩
    case inr =>
      refine absurd (fun j hj => ?_) hA
      have h1 := ((dok_iff d).1 hD).turn j (by omega)
      rw [List.take_take, Nat.min_eq_left (by omega), List.getElem_take]
      exact h1
    clear hE
    have hE := e7
    refine Jbq (TN_any hE ?_)
    (refine Jco 12 rfl (by kernel_rfl) (by kernel_rfl) (by kernel_rfl) (fun _ _ _ h => h) hE (by exact Jaa rfl) rfl ?_; refine Jco 13 rfl (by kernel_rfl) (by kernel_rfl) (by kernel_rfl) (fun _ _ _ h => h) hE (by exact Jae rfl rfl) rfl ?_; refine Jco 14 rfl (by kernel_rfl) (by kernel_rfl) (by kernel_rfl) (fun _ _ _ h => h) hE (by exact Jae rfl rfl) rfl ?_; refine Jco 15 rfl (by kernel_rfl) (by kernel_rfl) (by kernel_rfl) (fun _ _ _ h => h) hE (by exact Jab rfl) rfl ?_; refine Jco 16 rfl (by kernel_rfl) (by kernel_rfl) (by kernel_rfl) (fun _ _ _ h => h) hE (by exact Jab rfl) rfl ?_)
    refine TA_done (by kernel_rfl) ?_
    have hs7 := e7.size
    have E7 := E6.ext e7
    have hb57 := hb5.ext e7
    have hdir := hD.dirLe m hml
    have hids := hD.dirIds m hml
    have hasc := hD.asc m hml
    rw [← hLq] at hdir hids hasc hM
    repeat' (first | apply Jbr | apply Jbs | apply Jbt | (apply Jcg; exact Jaa rfl; exact rfl))
    refine TL_call rfl en69 (links_c hM hasc (by omega)) rfl rfl ?_
    rintro vk w8 ⟨e8, hok⟩
    have hs8 := e8.size
    have E8 := E7.ext e8
    have hb58 := hb57.ext e8
    have hx8 := hx.ext (e7.ext e8)
    obtain ⟨_, ds, hmap, hN, hrk, hrt, hnd, hin⟩ := hx8
    have hinN : ∀ b ∈ bksN sn1 ds, w3.heap.size ≤ b ∧ b < w4.heap.size := fun b hb => hin b (List.mem_append.2 (.inl hb))
    obtain ⟨A1, c1, rfl, hc1, hr1⟩ := hN.row.rr (fun b hb => hinN b (List.mem_append.2 (.inl hb))) (by omega)
    have hdl : ds.length = d.nodes.length := by rw [← hmap, List.length_map]
    skip
    refine TL_call rfl en68 (only_c hb58 hr1 (fun x hx => by obtain ⟨h1, h2⟩ := hN.ok x hx; obtain ⟨A, c, _, _, h3, _⟩ := h1.sl; obtain ⟨A', c', _, _, h4, _⟩ := h2.sl; exact ⟨⟨A, _, c, h3⟩, ⟨A', _, c', h4⟩⟩) hok.rd (by omega) (by omega) (fun x hx => hD.idB _ (hids x hx))
      (fun x hx => hD.idB _ (by rw [← hmap]; unfold nIds; rw [List.map_map]; exact List.mem_map.2 ⟨x, hx, rfl⟩))) rfl rfl ?_
    rintro _ w9 ⟨rfl, c9, vn, hb9, hon⟩
    have hs9 := c9.size
    have hokb := hok.bin
    have hN9 : ONx w9 vn (only ds ((L).map (·.id))) := hN.keep hon c9 (fun b hb => by have := hinN b hb; simp only [Iv]; omega) (fun b hb => by have := hinN b hb; omega)
    have hbk9 : ∀ b ∈ bksN vn (only ds ((L).map (·.id))), w3.heap.size ≤ b ∧ b < w9.heap.size ∧ (b < w7.heap.size ∨ w8.heap.size ≤ b) ∧ b ≠ g5 := fun b hb => by
      have h1 := bks_keep hon hinN b hb
      exact ⟨by omega, by omega, by omega, by omega⟩
    replace hok := hok.ch c9 (by intro k _ _; simp only [Iv]; omega)
    have E9 : Ext w w9 := Ext.then_iv E8 c9 (by have := E4.size; omega)
    replace hb2 := ((hb2.ext e7).ext e8).ch c9 (by simp only [Iv]; omega)
    obtain ⟨l, hlq⟩ : ∃ l, l = onlyP d.nodes ((L).map (·.id)) := ⟨_, rfl⟩
    have hmap9 : (only ds ((L).map (·.id))).map NdP = l := by rw [only_map, hmap, hlq]
    obtain ⟨es0, hes0⟩ : ∃ es0, es0 = only ds ((L).map (·.id)) := ⟨_, rfl⟩
    rw [← hes0] at hmap9 hN9 hbk9 hon
    have hl8 : l.length ≤ 8 := by rw [hlq]; have := onlyP_length d.nodes ((L).map (·.id)); omega
    have hlen0 : es0.length = l.length := by rw [← hmap9, List.length_map]
    obtain ⟨An, cn, rfl, hown⟩ := hon
    clear hown hr1 hrk hrt hN hmap hnd hin hM hb1 hrt0
    repeat' (first | apply Jbq | apply Jbr | apply Jbs | apply Jbt | apply Jby | (apply Jcg; (first | exact Jaa rfl | exact Jac Us.h rfl | (apply Jbl; exact Us.h; exact rfl; exact Sz.h; exact rfl)); exact rfl) | refine Jcg (Pu_load Fl.h rfl (fun _ e => by rw [e]; exact hb9.ld rfl)) rfl ?_)
    refine TC_loop (ι := Nat) (fun k => [(2, .slice Ac cuts.length cc), (6, .pointer (some ⟨g2, 0, none⟩)), (8, .pointer (some ⟨g5, 0, none⟩)), (41, I es0.length), (42, I k)])
      (fun k w' => k ≤ l.length ∧ Ext w w' ∧ w9.heap.size ≤ w'.heap.size ∧ Blk w' g5 33 (dskC d (.slice An es0.length cn) vk (.slice none 0 0)) ∧ RowO LkC 162 2 w' w7.heap.size w8.heap.size vk (L) ∧ Blk w' g2 33 (dskC noDk (.slice none 0 0) (.slice none 0 0) (.slice none 0 0)) ∧
        ∃ es, es.map NdP = (l.take k).mapIdx (crashP cuts) ++ l.drop k ∧ ONx w' (.slice An es0.length cn) es ∧ ∀ b ∈ bksN (.slice An es0.length cn) es, w3.heap.size ≤ b ∧ b < w'.heap.size ∧ (b < w7.heap.size ∨ w8.heap.size ≤ b) ∧ b ≠ g5) (fun k => l.length - k) 0
      (subEnv_cons rfl (subEnv_cons rfl (subEnv_cons rfl (subEnv_cons rfl (subEnv_cons rfl (subEnv_nil _)))))) ⟨Nat.zero_le _, E9, Nat.le_refl _, hb9, hok, hb2, es0, by rw [hmap9]; simp, hN9, hbk9⟩ ?_
    rintro k w10 ⟨hk10, E10, hs10, hb510, hok10, hb210, es, hes, hN10, hbk10⟩
    repeat' (first | apply Jbq | apply Jbr | apply Jbs | apply Jbt | (apply Jcg; exact Jad rfl rfl; exact rfl))
    refine Jcx rfl (fun hlt0 => ?_) (fun hge => ?_)
    · have hlt : k < l.length := by omega
      have hel : es.length = l.length := by
        have := congrArg List.length hes
        rw [List.length_map, List.length_append, List.length_mapIdx, List.length_take, List.length_drop] at this
        omega
      have hke : k < es.length := by omega
      obtain ⟨gN, cN, loN, hiN, hvN, hownN⟩ := hN10.open hke
      injection hvN with hv1 hv2 hv3
      subst hv1 hv3
      have hgN := hbk10 gN (List.mem_append.2 (.inl (List.mem_singleton.2 rfl)))
      obtain ⟨x, hx⟩ : ∃ x, x = es[k] := ⟨_, rfl⟩
      have hok2 := hN10.ok es[k] (List.getElem_mem hke)
      have hbx := bkd_in (v := .slice (some ⟨gN, 0, none⟩) es0.length cn) hke
      rw [← hx] at hok2 hbx
      have hxl : NdP x = l[k] := by
        have h1 := upd_get (crashP cuts) l k hlt
        rw [← hes, List.getElem?_map, List.getElem?_eq_getElem hke, ← hx] at h1
        injection h1
      obtain ⟨id, body, safe, vb, vs⟩ := x
      obtain ⟨hokB, hokS⟩ := hok2
      simp only at hokB hokS
      obtain ⟨Ab, cb, lob, hib, rfl, hownB⟩ := hokB.sl
      obtain ⟨As, cs, los, his, rfl, hownS⟩ := hokS.sl
      have hbl : body.length ≤ 1048576 ∧ safe.length ≤ 1048576 := by
        have h1 : (id, body, safe) ∈ d.nodes := by
          have h2 : l[k] ∈ l := List.getElem_mem hlt
          rw [← hxl, hlq] at h2
          exact onlyP_mem h2
        have h3 := totNd_mem h1
        have h4 := (totD_parts hl).1
        unfold NdW at h3
        simp only at h3
        omega
      have hcb : w10.cell? ((⟨gN, 0, none⟩ : Addr).add (k * 3) |>.add 1) = some (.slice Ab body.length cb) := by
        rw [add_lit3, hownN.row.cellAt (k * 3 + 1) (by omega), cellsL_at NdC_len es k 1 hke (by omega), ← hx]; rfl
      have hcs : w10.cell? ((⟨gN, 0, none⟩ : Addr).add (k * 3) |>.add 2) = some (.slice As safe.length cs) := by
        rw [add_lit3, hownN.row.cellAt (k * 3 + 2) (by omega), cellsL_at NdC_len es k 2 hke (by omega), ← hx]; rfl
      repeat' (first | apply Jbr | apply Jbz)
      apply Jbs
      repeat' (apply Jby)
      apply Jbs
      repeat' (first | apply Jbq | apply Jbr | apply Jbt | (apply Jcg; (first | exact Jaa rfl | exact Jab rfl); exact rfl))
      apply Jbs
      repeat' (first | apply Jbq | apply Jbr | apply Jbt | (apply Jcg; exact Jab rfl; exact rfl))
      refine TC_join (ι := Unit) (fun _ => [(2, .slice Ac cuts.length cc), (6, .pointer (some ⟨g2, 0, none⟩)), (8, .pointer (some ⟨g5, 0, none⟩)), (11, I k), (12, I (cutAt cuts k)), (41, I es0.length), (42, I k)]) (fun _ w' => w10 = w') ?_ ?_
      · repeat' (first | apply Jbq | apply Jbr | apply Jbs | apply Jbt | (apply Jcg; (first | exact Jaa rfl | exact Jac Us.h rfl | exact Jam rfl rfl); exact rfl))
        refine Jcx rfl (fun hp => ?_) (fun hp => ?_)
        · have hne : cuts.length ≠ 0 := by omega
          have hmod : ((k : Int) % (cuts.length : Int)) = ((k % cuts.length : Nat) : Int) := by omega
          have hmlt : k % cuts.length < cuts.length := Nat.mod_lt _ (by omega)
          obtain ⟨ad, rfl, hcell⟩ := (hrc.ext E10).get hmlt
          have hcv : (i64s cuts).getD (k % cuts.length) undef = I (cutAt cuts k) := by
            unfold cutAt i64s
            rw [if_neg hne]
            simp [List.getD_eq_getElem?_getD, List.getElem?_eq_getElem hmlt]
          rw [hcv] at hcell
          repeat' (first | apply Jbq | apply Jbt | (apply Jcg; (first | exact Jaa rfl | exact Jab rfl | exact Jac Us.h rfl | exact Jag Us.h Sz.h rfl rfl (by omega) | exact Jbj rfl rfl (by omega)); exact rfl) | refine Jcg (Pu_load Fl.h rfl (fun _ e => by rw [e, hmod, Int.toNat_natCast]; exact hcell)) rfl ?_)
          exact TN_join () (subEnv_cons rfl (subEnv_cons rfl (subEnv_cons rfl (subEnv_cons rfl (subEnv_cons rfl (subEnv_cons rfl (subEnv_cons rfl (subEnv_nil _)))))))) rfl
        · have hz0 : cuts.length = 0 := by omega
          repeat' (apply Jbz)
          refine TN_join () (subEnv_cons rfl (subEnv_cons rfl (subEnv_cons rfl (subEnv_cons rfl (subEnv_cons (congrArg (fun z => some (I z)) (by unfold cutAt; rw [if_pos hz0])) (subEnv_cons rfl (subEnv_cons rfl (subEnv_nil _)))))))) rfl
      rintro _ _ rfl
      repeat' (first | apply Jbq | apply Jbr | apply Jbs | apply Jbt | (apply Jcg; (first | exact Jaa rfl | exact Jab rfl | exact Jar Us.h Sz.h rfl rfl (by omega) | (apply Jbl; exact Us.h; exact rfl; exact Sz.h; exact rfl)); exact rfl) | refine Jcg (Pu_load Fl.h rfl (fun _ e => by rw [e]; exact hb510.ld rfl)) rfl ?_)
      refine TC_any mixed rfl ?_
      intro w11 hE hz11
      (refine Jco 0 rfl (by kernel_rfl) (by kernel_rfl) (by kernel_rfl) (fun _ _ _ h => h) hE (by exact Jaa rfl) rfl ?_; refine Jco 1 rfl (by kernel_rfl) (by kernel_rfl) (by kernel_rfl) (fun _ _ _ h => h) hE (by exact Jba rfl) rfl ?_; refine Jco 2 rfl (by kernel_rfl) (by kernel_rfl) (by kernel_rfl) (fun _ _ _ h => h) hE (by (apply Jbl; exact Us.h; exact rfl; exact Sz.h; exact rfl)) rfl ?_; refine Jco 3 rfl (by kernel_rfl) (by kernel_rfl) (by kernel_rfl) (fun _ _ _ h => h) hE (by exact Pu_load Fl.h rfl (fun _ e => Ext.cell e hcs)) rfl ?_; refine Jco 4 rfl (by kernel_rfl) (by kernel_rfl) (by kernel_rfl) (fun _ _ _ h => h) hE (by exact Jaa rfl) rfl ?_; refine Jco 5 rfl (by kernel_rfl) (by kernel_rfl) (by kernel_rfl) (fun _ _ _ h => h) hE (by exact Jba rfl) rfl ?_; refine Jco 6 rfl (by kernel_rfl) (by kernel_rfl) (by kernel_rfl) (fun _ _ _ h => h) hE (by (apply Jbl; exact Us.h; exact rfl; exact Sz.h; exact rfl)) rfl ?_; refine Jco 7 rfl (by kernel_rfl) (by kernel_rfl) (by kernel_rfl) (fun _ _ _ h => h) hE (by exact Pu_load Fl.h rfl (fun _ e => Ext.cell e hcb)) rfl ?_; refine Jco 8 rfl (by kernel_rfl) (by kernel_rfl) (by kernel_rfl) (fun _ _ _ h => h) hE (by exact Jaa rfl) rfl ?_)
      refine TA_one 9 (by kernel_rfl) rfl ?_
      refine TL_call rfl en70 (implTear_c (hownS.ext hE).rd (hownB.ext hE).rd (by omega) (by omega) (hownS.ext hE).cap.1 (hownB.ext hE).cap.1) rfl rfl ?_
      rintro _ w12 ⟨A2, c2, rfl, e12, ho2⟩
      have hs11 := hE.size
      have e1012 := hE.ext e12
      clear hE
      have hE := e1012
      refine Jbq (TN_any hE ?_)
      (refine Jco 10 rfl (by kernel_rfl) (by kernel_rfl) (by kernel_rfl) (fun _ _ _ h => h) hE (by exact Jab rfl) rfl ?_)
      refine TA_done (by kernel_rfl) ?_
      obtain ⟨b, hbq⟩ : ∃ b, b = tear safe body (cutAt cuts k) := ⟨_, rfl⟩
      have hb8 : b.length ≤ 1048576 := by
        have h1 := tear_le safe body (cutAt cuts k)
        rw [← hbq] at h1
        omega
      rw [← hbq] at ho2 ⊢
      repeat' (first | apply Jbr | apply Jbt | (apply Jcg; exact Jaa rfl; exact rfl))
      refine TL_call rfl en71 (copyBytes_c ho2.rd (by omega)) rfl rfl ?_
      rintro _ w13 ⟨A3, c3, rfl, e13, ho3⟩
      have hs12 := e12.size
      have hs13 := e13.size
      have e1013 := e1012.ext e13
      replace ho2 := ho2.ext e13
      repeat' ((apply Jcg; (first | exact Jba rfl | (apply Jbl; exact Us.h; exact rfl; exact Sz.h; exact rfl)); exact rfl))
      refine TL_storeOwn rfl (add_lit3 gN (k * 3) 1) rfl Sz.h rfl (hownN.ext e1013) (by omega) ?_
      intro w14 c14 hz14 hown14
      repeat' ((apply Jcg; (first | exact Jba rfl | (apply Jbl; exact Us.h; exact rfl; exact Sz.h; exact rfl)); exact rfl))
      refine TL_storeOwn rfl (add_lit3 gN (k * 3) 2) rfl Sz.h rfl hown14 (by omega) ?_
      intro w15 c15 hz15 hown15
      have hx' : es[k] = ⟨id, body, safe, .slice Ab body.length cb, .slice As safe.length cs⟩ := hx.symm
      rw [cells_body (s := b) hke hx', cells_safe (s := b) (k := k) (by rw [List.length_set]; exact hke) (List.getElem_set_self ..), List.set_set] at hown15
      have hlset : (es.set k ⟨id, b, b, .slice A2 b.length c2, .slice A3 b.length c3⟩).length = es0.length := by rw [List.length_set]; omega
      have hbn2 : ∀ x ∈ blk (.slice A2 b.length c2), w11.heap.size ≤ x ∧ x < w12.heap.size := OB.bin ⟨A2, c2, rfl, ho2⟩
      have hbn3 : ∀ x ∈ blk (.slice A3 b.length c3), w12.heap.size ≤ x ∧ x < w13.heap.size := OB.bin ⟨A3, c3, rfl, ho3⟩
      have hN15 := ONx.set (x' := ⟨id, b, b, .slice A2 b.length c2, .slice A3 b.length c3⟩) hke (hN10.ext e1013) (c14.then c15) ⟨_, _, by rw [hlset], by rw [hlset, ← hel.trans hlen0.symm]; exact hown15⟩ ⟨OB.x ⟨A2, c2, rfl, ho2⟩, OB.x ⟨A3, c3, rfl, ho3⟩⟩
        (by
          show (blk _ ++ blk _).Nodup
          rw [List.nodup_append]
          exact ⟨blk_nodup _, blk_nodup _, fun x hx y hy e => by
            have h1 := hbn2 x hx
            have h2 := hbn3 y hy
            omega⟩)
        (fun x hx => by
          right
          intro h
          have h1 := hbk10 x h
          rcases List.mem_append.1 hx with hx | hx
          · have h2 := hbn2 x hx; omega
          · have h2 := hbn3 x hx; omega)
      have hbk15 := bks_set (R := fun b => w3.heap.size ≤ b ∧ b < w15.heap.size ∧ (b < w7.heap.size ∨ w8.heap.size ≤ b) ∧ b ≠ g5) (v := .slice (some ⟨gN, 0, none⟩) es0.length cn) (es := es) (k := k) (x' := ⟨id, b, b, .slice A2 b.length c2, .slice A3 b.length c3⟩) (fun b hb => by have := hbk10 b hb; exact ⟨this.1, by omega, this.2.2⟩)
        (fun x hx => by
          rcases List.mem_append.1 hx with hx | hx
          · have h2 := hbn2 x hx
            exact ⟨by omega, by omega, by omega, by omega⟩
          · have h2 := hbn3 x hx
            exact ⟨by omega, by omega, by omega, by omega⟩)
      have hb515 := ((hb510.ext e1013).ch c14 (by simp only [Iv]; omega)).ch c15 (by simp only [Iv]; omega)
      have hb215 := ((hb210.ext e1013).ch c14 (by simp only [Iv]; omega)).ch c15 (by simp only [Iv]; omega)
      have hok15 := ((hok10.ext e1013).ch c14 (by intro j h1 h2; simp only [Iv]; omega)).ch c15 (by intro j h1 h2; simp only [Iv]; omega)
      repeat' (first | apply Jbq | apply Jbr | apply Jbt | apply Jbx | (apply Jcg; (first | exact Jaa rfl | exact Jaf rfl rfl (by omega)); exact rfl))
      exact TN_round (k + 1) (subEnv_cons rfl (subEnv_cons rfl (subEnv_cons rfl (subEnv_cons rfl (subEnv_cons rfl (subEnv_nil _)))))) ⟨hlt, Ext.then_iv (Ext.then_iv (E10.ext e1013) c14 (by omega)) c15 (by omega), by omega, hb515, hok15, hb215, es.set k ⟨id, b, b, .slice A2 b.length c2, .slice A3 b.length c3⟩, by rw [← upd_step _ _ _ hlt, ← hes, List.map_set, ← hxl, hbq]; rfl, hN15, hbk15⟩ (by omega)
    · obtain rfl : k = l.length := by omega
      rw [upd_all, hlq] at hes
      repeat' (first | apply Jbr | apply Jbs | apply Jbt | apply Jca | apply Jcb | apply Jcc | (apply Jcg; (apply Jbl; exact Us.h; exact rfl; exact Sz.h; exact rfl); exact rfl))
      refine TL_store rfl rfl Sz.h rfl hb510 rfl ?_
      intro w10' c10' hz10' hb511
      replace hb511 : Blk w10' g5 33 (dskC (crashD d t cuts) (.slice An es0.length cn) vk (.slice none 0 0)) := hb511
      replace E10 : Ext w w10' := Ext.then_iv E10 c10' (by have := E4.size; omega)
      replace hb210 := hb210.ch c10' (by simp only [Iv]; omega)
      replace hok10 := hok10.ch c10' (by intro k _ _; simp only [Iv]; omega)
      replace hN10 := hN10.ch c10' (fun b hb => by have := hbk10 b hb; simp only [Iv]; omega)
      repeat' (first | apply Jbq | apply Jbr | apply Jbs | apply Jbt | refine Jcg (Pu_loadAgg (cs := dskC (crashD d t cuts) (.slice An es0.length cn) vk (.slice none 0 0)) Us.h rfl Sz.h rfl (fun _ e j u hu => by rw [e, add0, hb511.cell]; exact hu)) rfl ?_)
      refine TL_storeAgg rfl rfl Sz.h (by show ((dskC (crashD d t cuts) (.slice An es0.length cn) vk (.slice none 0 0)).all (·.oneCell')) = true; simp only [dskC, List.all_cons, List.all_nil, hok10.rd.one]; rfl) hb210 rfl ?_
      intro w11 c11 hz11 hb11
      repeat' (first | apply Jbq | apply Jbr | apply Jbu | (apply Jcg; exact Jab rfl; exact rfl))
      exact TR_of (resA1 rfl rfl rfl hb11 Us.h rfl Sz.h) ⟨.slice An es0.length cn, vk, .slice none 0 0, rfl, Ext.then_iv E10 c11 (by omega), ODk.mk2 (d := crashD d t cuts) (Nat.le_refl _) (by rw [hes]; unfold crashD; rw [hLm]) (hN10.ch c11 (fun b hb => by have := hbk10 b hb; simp only [Iv]; omega)) (by rw [show (crashD d t cuts).kept = L from hLm]; exact hok10.ch c11 (by intro j _ _; simp only [Iv]; omega)) rfl (fun b hb => by have := hbk10 b hb; exact ⟨by omega, by omega, fun h => by have := hokb b h; omega⟩) (by omega) (by omega)⟩
end Go.Proofs.YtggaghghclomkaaGreat

/- A disk stays right whatever is done to it, and behind a loss of power: the plain law. No condition. -/
namespace Go.Proofs.YtggaghghclomkaaGreat
open Go.RowKit
/-! ### nodes and links, all at once -/
def NAll (l : List NodeP) (n : Int) : Prop := (∀ p ∈ l, 1 ≤ p.1 ∧ p.1 < n) ∧ l.Pairwise (fun a b => a.1 < b.1)
theorem nall_iff (d : DiskP) : (∀ i, nStep d i) ↔ NAll d.nodes d.next := by
  constructor
  · intro h
    refine ⟨fun p hp => ?_, ?_⟩
    · obtain ⟨i, hi, rfl⟩ := List.mem_iff_getElem.1 hp
      exact ⟨(h i hi).1, (h i hi).2.1⟩
    · rw [List.pairwise_iff_getElem]
      intro i j hi hj hij
      exact nodes_rise h j i hij hj
  · intro h i hi
    refine ⟨(h.1 _ (List.getElem_mem hi)).1, (h.1 _ (List.getElem_mem hi)).2, fun h0 => ?_⟩
    exact List.pairwise_iff_getElem.1 h.2 (i - 1) i (by omega) hi (by omega)
def KAll (l : List LkD) : Prop := (∀ x ∈ l, pName x.name = true) ∧ Asc l
theorem kall_iff (d : DiskP) : (∀ i, kStep d i) ↔ KAll d.kept := by
  constructor
  · intro h
    refine ⟨fun p hp => ?_, kept_asc h⟩
    obtain ⟨i, hi, rfl⟩ := List.mem_iff_getElem.1 hp
    exact (h i hi).1
  · intro h i hi
    refine ⟨h.1 _ (List.getElem_mem hi), fun h0 => ?_⟩
    exact List.pairwise_iff_getElem.1 h.2 (i - 1) i (by omega) hi (by omega)
/-! ### the Ids of a directory -/
theorem dIns_perm (x : LkD) : ∀ L : List LkD, (dIns x L).Perm (x :: L)
  | [] => List.Perm.refl _
  | y :: r => by
    unfold dIns
    split
    · exact List.Perm.refl _
    · exact ((dIns_perm x r).cons y).trans (List.Perm.swap x y r)
theorem id_inj : ∀ {L : List LkD}, (L.map (·.id)).Nodup → ∀ x ∈ L, ∀ y ∈ L, x.id = y.id → x = y
  | [], _, x, hx, _, _, _ => by cases hx
  | z :: r, h, x, hx, y, hy, e => by
    rw [List.map_cons, List.nodup_cons] at h
    rcases List.mem_cons.1 hx with rfl | hx
    · rcases List.mem_cons.1 hy with rfl | hy
      · rfl
      · exact absurd (show x.id ∈ r.map (·.id) from List.mem_map.2 ⟨y, hy, e.symm⟩) h.1
    · rcases List.mem_cons.1 hy with rfl | hy
      · exact absurd (show y.id ∈ r.map (·.id) from List.mem_map.2 ⟨x, by assumption, e⟩) h.1
      · exact id_inj h.2 x hx y hy e
theorem dLess_sub (L : List LkD) (s : List UInt8) : (dLess L s).Sublist L := List.filter_sublist
theorem turn_ids {L : List LkD} {t : TnD} {S : List Int} (h : (L.map (·.id) ++ ((if t.kind = 1 then [t.id] else []) ++ S)).Nodup) (ha : aOk L t) : ((pTurn L t).map (·.id) ++ S).Nodup := by
  unfold pTurn
  rcases ha with ⟨h1, _⟩ | ⟨h5, hh, _⟩ | ⟨h6, _⟩
  · rw [if_pos h1] at h ⊢
    have hp1 : ((dIns ⟨t.name, t.id⟩ L).map (·.id) ++ S).Perm (t.id :: (L.map (·.id) ++ S)) := ((dIns_perm ⟨t.name, t.id⟩ L).map (fun x : LkD => x.id)).append_right S
    have hp : ((dIns ⟨t.name, t.id⟩ L).map (·.id) ++ S).Perm (L.map (·.id) ++ ([t.id] ++ S)) :=
      hp1.trans (List.perm_middle (a := t.id) (l₁ := L.map (fun x : LkD => x.id)) (l₂ := S)).symm
    exact hp.nodup_iff.2 h
  · have h1 : ¬ t.kind = 1 := by omega
    rw [if_neg h1] at h ⊢
    rw [if_pos h5]
    rw [List.nil_append] at h
    obtain ⟨x, hx, hn, hi⟩ := dFind_mem hh
    have hs : ((dLess (dLess L t.name) t.to).map (·.id)).Sublist (L.map (·.id)) := List.Sublist.map _ ((dLess_sub _ _).trans (dLess_sub _ _))
    have hp : ((dIns ⟨t.to, dFind L t.name⟩ (dLess (dLess L t.name) t.to)).map (·.id) ++ S).Perm (dFind L t.name :: ((dLess (dLess L t.name) t.to).map (·.id) ++ S)) :=
      ((dIns_perm _ _).map (fun x : LkD => x.id)).append_right S
    refine hp.nodup_iff.2 (List.nodup_cons.2 ⟨fun hm => ?_, h.sublist (hs.append_right S)⟩)
    rw [List.nodup_append] at h
    rw [← hi] at hm
    rcases List.mem_append.1 hm with hm | hm
    · obtain ⟨y, hy, he⟩ := List.mem_map.1 hm
      have hy1 := mem_dLess hy
      have := id_inj h.1 y (mem_dLess hy1) x hx he
      subst this
      exact dHas_none (dHas_dLess L t.name) y hy1 hn
    · exact h.2.2 x.id (List.mem_map.2 ⟨x, hx, rfl⟩) x.id hm rfl
  · have h1 : ¬ t.kind = 1 := by omega
    rw [if_neg h1] at h ⊢
    rw [if_neg (by omega)]
    rw [List.nil_append] at h
    exact h.sublist ((List.Sublist.map _ (dLess_sub _ _)).append_right S)
theorem crs_drop {ts : List TnD} {k : Nat} (h : k < ts.length) : ((ts.drop k).filter (fun t => decide (t.kind = 1))).map (·.id) = (if ts[k].kind = 1 then [ts[k].id] else []) ++ ((ts.drop (k + 1)).filter (fun t => decide (t.kind = 1))).map (·.id) := by
  rw [List.drop_eq_getElem_cons h, List.filter_cons]
  split
  · rename_i h1; rw [if_pos (by simpa using h1)]; rfl
  · rename_i h1; rw [if_neg (by simpa using h1)]; rfl
theorem DOk.dirNd {d : DiskP} (h : DOk d) (k : Nat) (hk : k ≤ d.turns.length) : ((runT d.kept (d.turns.take k)).map (·.id) ++ ((d.turns.drop k).filter (fun t => decide (t.kind = 1))).map (·.id)).Nodup := by
  have h2 := (dok_iff d).1 h
  induction k with
  | zero => simpa [runT, pIds] using h2.nodup
  | succ k ih =>
    have hlt : k < d.turns.length := by omega
    have h3 := ih (by omega)
    rw [crs_drop hlt] at h3
    rw [runT_take hlt]
    exact turn_ids h3 (h2.turn k hlt)
theorem DOk.dirNodup {d : DiskP} (h : DOk d) (k : Nat) (hk : k ≤ d.turns.length) : ((runT d.kept (d.turns.take k)).map (·.id)).Nodup := ((List.nodup_append.1 (h.dirNd k hk)).1)
theorem nIds_only (l : List NodeP) (s : List Int) : nIds (onlyP l s) = (nIds l).filter (fun i => decide (i ∈ s)) := by
  unfold nIds onlyP
  rw [List.filter_map]
  rfl
theorem mapIdx_ids (f : Nat → NodeP → NodeP) (hf : ∀ i p, (f i p).1 = p.1) (l : List NodeP) : nIds (l.mapIdx f) = nIds l := by
  unfold nIds
  apply List.ext_getElem
  · simp
  · intro i h1 h2
    simp [hf]
theorem pUsed_mapIdx : ∀ (l : List NodeP) (f : Nat → NodeP → NodeP), (∀ i p, NdM (f i p) ≤ NdM p) → pUsed (l.mapIdx f) ≤ pUsed l
  | [], _, _ => by simp [pUsed]
  | p :: r, f, h => by
    have h1 := pUsed_mapIdx r (fun i => f (i + 1)) (fun i p => h (i + 1) p)
    have h2 := h 0 p
    rw [List.mapIdx_cons]
    simp only [pUsed, List.map_cons, List.sum_cons] at *
    omega
theorem NAll_of {l l' : List NodeP} {n n' : Int} (h : NAll l n) (hs : (nIds l').Sublist (nIds l)) (hn : n ≤ n') : NAll l' n' := by
  have h1 : (nIds l).Pairwise (· < ·) := by unfold nIds; rw [List.pairwise_map]; exact h.2
  have h2 : (nIds l').Pairwise (· < ·) := h1.sublist hs
  refine ⟨fun p hp => ?_, ?_⟩
  · obtain ⟨q, hq, he⟩ := List.mem_map.1 (hs.subset (List.mem_map.2 ⟨p, hp, rfl⟩))
    have := h.1 q hq
    omega
  · unfold nIds at h2; rw [List.pairwise_map] at h2; exact h2
/-- A disk whose turns were settled, the first m of them. -/
theorem DOk.turned {d : DiskP} (h : DOk d) {m : Nat} (hm : m ≤ d.turns.length) {f : Nat → NodeP → NodeP} (h1 : ∀ i p, (f i p).1 = p.1) (h2 : ∀ i p, NdM (f i p) ≤ NdM p) {L : List LkD} (hL : L = runT d.kept (d.turns.take m)) {fu : Int} (hfu : -1 ≤ fu ∧ fu ≤ 1000) :
    DOk { d with fuse := fu, nodes := (onlyP d.nodes (L.map (·.id))).mapIdx f, kept := L, turns := [] } := by
  subst hL
  have hI := (dok_iff d).1 h
  have hB := h.base
  unfold dBase at hB
  have hlen := h.dirLe m hm
  have hids := h.dirIds m hm
  have hnd := h.dirNodup m hm
  obtain ⟨L, hL⟩ : ∃ L, L = runT d.kept (d.turns.take m) := ⟨_, rfl⟩
  have hname := h.dirName m hm
  have hasc := h.asc m hm
  rw [← hL] at hlen hids hnd hname hasc ⊢
  have hon := onlyP_length d.nodes (L.map (·.id))
  have hnn := nIds_nodup h.node
  have hidl : nIds ((onlyP d.nodes (L.map (·.id))).mapIdx f) = (nIds d.nodes).filter (fun i => decide (i ∈ L.map (·.id))) := by rw [mapIdx_ids f h1, nIds_only]
  have hN := (nall_iff d).1 h.node
  rw [dok_iff]
  refine ⟨?_, (nall_iff _).2 ?_, (kall_iff _).2 ⟨hname, hasc⟩, fun j hj => absurd hj (by simp), fun j hj => absurd hj (by simp), ?_, ?_, ?_, ?_⟩
  · unfold dBase
    simp only [List.length_mapIdx, List.length_nil]
    omega
  · exact NAll_of hN (by rw [hidl]; exact List.filter_sublist) (Int.le_refl _)
  · unfold pIds
    simpa using hnd
  · have e1 : (L.map (·.id)).length ≤ ((nIds d.nodes).filter (fun i => decide (i ∈ L.map (·.id)))).length := nodup_sub_length hnd (fun x hx => List.mem_filter.2 ⟨by obtain ⟨y, hy, rfl⟩ := List.mem_map.1 hx; exact hids y hy, by simpa using hx⟩)
    have e2 : ((nIds d.nodes).filter (fun i => decide (i ∈ L.map (·.id)))).length ≤ (L.map (·.id)).length := nodup_sub_length (List.Pairwise.filter _ hnn) (fun x hx => by simpa using (List.mem_filter.1 hx).2)
    have e3 := congrArg List.length hidl
    unfold nIds at e3
    unfold pIds
    simp only [List.length_map, List.filter_nil, List.map_nil, List.append_nil] at e1 e2 e3 ⊢
    unfold nIds at e1 e2
    omega
  · intro p hp
    have : p.1 ∈ nIds ((onlyP d.nodes (L.map (·.id))).mapIdx f) := List.mem_map.2 ⟨p, hp, rfl⟩
    rw [hidl] at this
    unfold pIds
    simpa using (List.mem_filter.1 this).2
  · have := pUsed_mapIdx (onlyP d.nodes (L.map (·.id))) f h2
    have := pUsed_only (L.map (·.id)) d.nodes
    have := h.used
    simp only
    omega
theorem crashP_le (cuts : List Int) (i : Nat) (p : NodeP) : NdM (crashP cuts i p) ≤ NdM p := by
  have := tear_le p.2.2 p.2.1 (cutAt cuts i)
  unfold crashP NdM; simp only; omega
theorem DOk.crash {d : DiskP} (h : DOk d) (t : Int) (cuts : List Int) : DOk (crashD d t cuts) :=
  h.turned (f := crashP cuts) (fu := -1) (tnN_le d t) (fun _ _ => rfl) (crashP_le cuts) rfl (by omega)
/-! ### one node put -/
theorem ids_set {l : List NodeP} {i : Nat} {p : NodeP} (hi : i < l.length) (h : p.1 = l[i].1) : nIds (l.set i p) = nIds l := by
  unfold nIds
  rw [List.map_set, h]
  apply List.ext_getElem
  · simp
  · intro j h1 h2
    rw [List.getElem_set]
    split
    · rename_i e; subst e; simp
    · rfl
theorem pUsed_set : ∀ {l : List NodeP} {i : Nat} {p : NodeP} (hi : i < l.length), pUsed (l.set i p) = pUsed l - NdM l[i] + NdM p
  | [], i, p, hi => absurd hi (by simp)
  | q :: r, 0, p, hi => by simp only [List.set_cons_zero, pUsed, List.map_cons, List.sum_cons, List.getElem_cons_zero]; omega
  | q :: r, i + 1, p, hi => by
    have := pUsed_set (l := r) (i := i) (p := p) (by simpa using hi)
    simp only [List.set_cons_succ, pUsed, List.map_cons, List.sum_cons, List.getElem_cons_succ] at *
    omega
theorem DOk.put {d : DiskP} (h : DOk d) {i : Nat} (hi : i < d.nodes.length) {p : NodeP} (h1 : p.1 = d.nodes[i].1) (h2 : NdM p + pUsed d.nodes ≤ d.room + NdM d.nodes[i]) {fu : Int} (hfu : -1 ≤ fu ∧ fu ≤ 1000) : DOk { d with fuse := fu, nodes := d.nodes.set i p } := by
  have hI := (dok_iff d).1 h
  have hB := h.base
  unfold dBase at hB
  have he := ids_set hi h1
  rw [dok_iff]
  refine ⟨?_, (nall_iff _).2 (NAll_of ((nall_iff d).1 h.node) (by simp only; rw [he]; exact List.Sublist.refl _) (Int.le_refl _)), (kall_iff _).2 ((kall_iff d).1 hI.link), hI.turn0, hI.turn, hI.nodup, by simp only [List.length_set]; exact hI.len, ?_, ?_⟩
  · unfold dBase; simp only [List.length_set]; omega
  · intro q hq
    have : q.1 ∈ nIds (d.nodes.set i p) := List.mem_map.2 ⟨q, hq, rfl⟩
    rw [he] at this
    obtain ⟨r, hr, e⟩ := List.mem_map.1 this
    have := hI.ids r hr
    rw [e] at this
    exact this
  · simp only; rw [pUsed_set hi]; omega
theorem DOk.turnOn {d : DiskP} (h : DOk d) {t : TnD} (h0 : tOk0 t) (ha : aOk (pDir d) t) (hk : t.kind ≠ 1) (hl : d.turns.length < 40) {fu : Int} (hfu : -1 ≤ fu ∧ fu ≤ 1000) : DOk { d with fuse := fu, turns := d.turns ++ [t] } := by
  have hI := (dok_iff d).1 h
  have hB := h.base
  unfold dBase at hB
  have hp : pIds { d with fuse := fu, turns := d.turns ++ [t] } = pIds d := by unfold pIds; simp only [List.filter_append]; simp [hk]
  rw [dok_iff]
  refine ⟨?_, (nall_iff _).2 ((nall_iff d).1 h.node), (kall_iff _).2 ((kall_iff d).1 hI.link), ?_, ?_, by rw [hp]; exact hI.nodup, by rw [hp]; exact hI.len, by rw [hp]; exact hI.ids, hI.used⟩
  · unfold dBase; simp only [List.length_append, List.length_cons, List.length_nil]; omega
  · intro j hj
    simp only [List.length_append, List.length_cons, List.length_nil] at hj
    by_cases e : j < d.turns.length
    · simp only [List.getElem_append_left e]; exact hI.turn0 j e
    · simp only [List.getElem_append_right (Nat.le_of_not_lt e)]; simpa using h0
  · intro j hj
    simp only [List.length_append, List.length_cons, List.length_nil] at hj
    by_cases e : j < d.turns.length
    · simp only [List.getElem_append_left e, List.take_append_of_le_length (Nat.le_of_lt e)]; exact hI.turn j e
    · obtain rfl : j = d.turns.length := by omega
      simp only [List.getElem_append_right (Nat.le_refl _), List.take_append_of_le_length (Nat.le_refl _), List.take_length, Nat.sub_self, List.getElem_cons_zero]
      exact ha
theorem DOk.make {d : DiskP} (h : DOk d) {s : List UInt8} (hs : pName s = true) (hh : dHas (pDir d) s = false) (h8 : d.nodes.length < 8) (hn : d.next < 1000000) (hl : d.turns.length < 40) {fu : Int} (hfu : -1 ≤ fu ∧ fu ≤ 1000) :
    DOk { d with fuse := fu, next := d.next + 1, nodes := d.nodes ++ [(d.next, [], [])], turns := d.turns ++ [⟨1, s, [], d.next⟩] } := by
  have hI := (dok_iff d).1 h
  have hB := h.base
  unfold dBase at hB
  have hN := (nall_iff d).1 h.node
  have hp : (pIds { d with fuse := fu, next := d.next + 1, nodes := d.nodes ++ [(d.next, [], [])], turns := d.turns ++ [⟨1, s, [], d.next⟩] }) = pIds d ++ [d.next] := by
    unfold pIds; simp only [List.filter_append, List.map_append, List.append_assoc]; rfl
  have hlt : ∀ x ∈ pIds d, x < d.next := fun x hx => by
    obtain ⟨j, hj, rfl⟩ := List.mem_iff_getElem.1 hx
    obtain ⟨p, hp, e⟩ := List.mem_map.1 (h.ids j hj).2
    have := hN.1 p hp
    omega
  rw [dok_iff]
  refine ⟨?_, (nall_iff _).2 ⟨fun p hp => ?_, ?_⟩, (kall_iff _).2 ((kall_iff d).1 hI.link), ?_, ?_, ?_, ?_, ?_, ?_⟩
  · unfold dBase; simp only [List.length_append, List.length_cons, List.length_nil]; omega
  · rcases List.mem_append.1 hp with hp | hp
    · have := hN.1 p hp; simp only; omega
    · obtain rfl := List.mem_singleton.1 hp; simp only; omega
  · refine List.pairwise_append.2 ⟨hN.2, List.pairwise_singleton _ _, fun a ha b hb => ?_⟩
    obtain rfl := List.mem_singleton.1 hb
    exact (hN.1 a ha).2
  · intro j hj
    simp only [List.length_append, List.length_cons, List.length_nil] at hj
    by_cases e : j < d.turns.length
    · simp only [List.getElem_append_left e]; exact hI.turn0 j e
    · simp only [List.getElem_append_right (Nat.le_of_not_lt e)]
      obtain rfl : j = d.turns.length := by omega
      simp only [Nat.sub_self, List.getElem_cons_zero]
      exact ⟨hs, .inl ⟨rfl, rfl⟩⟩
  · intro j hj
    simp only [List.length_append, List.length_cons, List.length_nil] at hj
    by_cases e : j < d.turns.length
    · simp only [List.getElem_append_left e, List.take_append_of_le_length (Nat.le_of_lt e)]; exact hI.turn j e
    · obtain rfl : j = d.turns.length := by omega
      simp only [List.getElem_append_right (Nat.le_refl _), List.take_append_of_le_length (Nat.le_refl _), List.take_length, Nat.sub_self, List.getElem_cons_zero]
      exact .inl ⟨rfl, hh⟩
  · rw [hp]
    refine List.nodup_append.2 ⟨hI.nodup, List.nodup_cons.2 ⟨by simp, List.nodup_nil⟩, fun a ha b hb e => ?_⟩
    obtain rfl := List.mem_singleton.1 hb
    have := hlt a ha
    omega
  · rw [hp]; have := hI.len; simp only [List.length_append, List.length_cons, List.length_nil] at *; omega
  · intro p hp'
    rw [hp]
    rcases List.mem_append.1 hp' with hp' | hp'
    · exact List.mem_append.2 (.inl (hI.ids p hp'))
    · obtain rfl := List.mem_singleton.1 hp'; exact List.mem_append.2 (.inr (List.mem_singleton.2 rfl))
  · have := hI.used
    unfold pUsed at *
    simp only [List.map_append, List.sum_append, List.map_cons, List.map_nil, List.sum_cons, List.sum_nil, NdM, List.length_nil]
    omega
theorem fuseOf_in {d : DiskP} (h : DOk d) : -1 ≤ fuseOf d ∧ fuseOf d ≤ 1000 := by
  have hB := h.base
  unfold dBase at hB
  unfold fuseOf
  split <;> omega
theorem fuseOf_step {d : DiskP} (_h : DOk d) (_h0 : d.fuse ≠ 0) : (0 < d.fuse → fuseOf d = d.fuse - 1) ∧ (d.fuse = -1 → fuseOf d = -1) := by
  unfold fuseOf
  constructor
  · intro h; rw [if_pos h]
  · intro h; rw [if_neg (by omega)]; exact h
/-- A right disk stays right. -/
theorem DOk.do_ {d : DiskP} (h : DOk d) {o : OpD} (ho : pOp o = true) (hc : pCode d o = 0) : DOk (doD d o) := by
  obtain ⟨p1, p2, p3, p4, p5, p6, p7, p8, p9⟩ := pOp_parts ho
  obtain ⟨_, hch, hc1, hct, hc4, hc5⟩ := pCode_has hc
  have hfu := fuseOf_in h
  have hB := h.base
  unfold dBase at hB
  have hk : o.kind = 1 ∨ o.kind = 2 ∨ o.kind = 3 ∨ o.kind = 4 ∨ o.kind = 5 ∨ o.kind = 6 ∨ o.kind = 7 := by omega
  have hnode : o.kind ≠ 1 → o.kind ≠ 7 → ∃ i, ∃ hi : i < d.nodes.length, opAt d o = (i : Int) ∧ ndAt d o = d.nodes[i] := fun h1 h7 => h.opNode (by rw [hch h7]; simp [h1])
  unfold doD
  rcases hk with e | e | e | e | e | e | e
  · rw [if_pos e]
    exact h.make (p3 (by omega)) (by have := hch (by omega); rw [this]; simp [e]) (hc1 e).1 (hc1 e).2 (hct (.inl e)) hfu
  · rw [if_neg (by omega), if_pos e]
    obtain ⟨i, hi, h1, h2⟩ := hnode (by omega) (by omega)
    unfold ndPut
    rw [h1, Int.toNat_natCast]
    refine h.put hi (by rw [h2]) ?_ hfu
    have hu := h.used
    have hf : fitsN d o ≤ NdM (ndAt d o) + d.room - pUsed d.nodes - (ndAt d o).2.1.length := by unfold fitsN; omega
    have hl : ((o.data.take (fitsN d o).toNat).length : Int) ≤ max 0 (fitsN d o) := by rw [List.length_take]; omega
    rw [h2] at hf ⊢
    unfold NdM at *
    simp only [List.length_append]
    omega
  · rw [if_neg (by omega), if_neg (by omega), if_pos e]
    obtain ⟨i, hi, h1, h2⟩ := hnode (by omega) (by omega)
    unfold ndPut
    rw [h1, Int.toNat_natCast]
    refine h.put hi (by rw [h2]) ?_ hfu
    have hu := h.used
    rw [h2]
    unfold NdM
    simp only
    omega
  · rw [if_neg (by omega), if_neg (by omega), if_neg (by omega), if_pos e]
    obtain ⟨i, hi, h1, h2⟩ := hnode (by omega) (by omega)
    unfold ndPut
    rw [h1, Int.toNat_natCast]
    refine h.put hi (by rw [h2]) ?_ hfu
    have hu := h.used
    rw [h2]
    unfold NdM
    simp only [List.length_take]
    omega
  · rw [if_neg (by omega), if_neg (by omega), if_neg (by omega), if_neg (by omega), if_neg (by omega)]
    exact h.turnOn ⟨p3 (by omega), .inr (.inl ⟨e, p4 e, rfl⟩)⟩ (.inr (.inl ⟨e, by rw [hch (by omega)]; simp [e], hc5 e⟩)) (by simp only; omega) (hct (by omega)) hfu
  · rw [if_neg (by omega), if_neg (by omega), if_neg (by omega), if_neg (by omega), if_neg (by omega)]
    exact h.turnOn ⟨p3 (by omega), .inr (.inr ⟨e, p5 (by omega), rfl⟩)⟩ (.inr (.inr ⟨e, by rw [hch (by omega)]; simp [e]⟩)) (by simp only; omega) (hct (by omega)) hfu
  · rw [if_neg (by omega), if_neg (by omega), if_neg (by omega), if_neg (by omega), if_pos e]
    have h1 := h.turned (m := d.turns.length) (Nat.le_refl _) (f := fun _ p => p) (fun _ _ => rfl) (fun _ p => Int.le_refl _) (L := pDir d) (by rw [List.take_length]; rfl) hfu
    have h2 : (onlyP d.nodes ((pDir d).map (·.id))).mapIdx (fun _ p => p) = onlyP d.nodes ((pDir d).map (·.id)) := by
      apply List.ext_getElem
      · simp
      · intro i h1 h2; simp
    rw [h2] at h1
    exact h1
theorem DOk.pDo {d : DiskP} (h : DOk d) {o : OpD} (ho : pOp o = true) : DOk (pDo d o).1 := by
  by_cases hc : pCode d o = 0
  · rw [pDo_yes h ho hc]; exact h.do_ ho hc
  · rw [pDo_code h ho hc]; exact h
/-! ### a right disk is small -/
theorem DOk.fitsD {d : DiskP} (h : DOk d) : d.fits := by
  have hI := (dok_iff d).1 h
  have hB := h.base
  have hN := (nall_iff d).1 h.node
  have hK := (kall_iff d).1 h.link
  have hu := h.used
  unfold dBase at hB
  have hb : ∀ x ∈ pIds d, 1 ≤ x ∧ x < 1000000 := fun x hx => by
    obtain ⟨j, hj, rfl⟩ := List.mem_iff_getElem.1 hx
    obtain ⟨p, hp, e⟩ := List.mem_map.1 (h.ids j hj).2
    have := hN.1 p hp
    omega
  refine ⟨by omega, by omega, by omega, ⟨by omega, fun p hp => ?_⟩, ⟨by omega, fun x hx => ?_⟩, by omega, fun t ht => ?_⟩
  · have h1 : NdM p ≤ pUsed d.nodes := by
      clear hB hN hu hI hb
      generalize d.nodes = l at hp
      induction l with
      | nil => cases hp
      | cons a r ih =>
        have h0 := (pUsed_le r).1
        have h0' : 0 ≤ NdM a := by unfold NdM; omega
        simp only [pUsed, List.map_cons, List.sum_cons] at *
        rcases List.mem_cons.1 hp with rfl | hp
        · omega
        · have := ih hp; omega
    unfold NdM at h1
    unfold NdFit
    omega
  · have h1 := pName_len (hK.1 x hx)
    have h2 := hb _ (kept_mem hx)
    unfold LkFit
    omega
  · obtain ⟨j, hj, rfl⟩ := List.mem_iff_getElem.1 ht
    have h1 := hI.turn0 j hj
    have h2 := pName_len h1.1
    unfold TnFit
    rcases h1.2 with ⟨a, b⟩ | ⟨a, b, c⟩ | ⟨a, b, c⟩
    · have h3 := hb _ (creates_mem (List.getElem_mem hj) a)
      rw [b]; simp only [List.length_nil]; omega
    · have := pName_len b; omega
    · rw [b]; simp only [List.length_nil]; omega
theorem totNd_used : ∀ l : List NodeP, totNd l ≤ 2 * pUsed l
  | [] => by simp [totNd, pUsed]
  | p :: r => by
    have := totNd_used r
    simp only [totNd, pUsed, List.map_cons, List.sum_cons, NdW, NdM] at *
    omega
theorem totTn_le : ∀ {l : List TnD}, (∀ t ∈ l, TnW t ≤ 24) → totTn l ≤ 24 * l.length
  | [], _ => by simp [totTn]
  | x :: r, h => by
    have h1 := totTn_le (l := r) (fun y hy => h y (by simp [hy]))
    have h2 := h x (by simp)
    unfold totTn at *
    simp only [List.map_cons, List.sum_cons, List.length_cons] at *
    omega
theorem DOk.totD {d : DiskP} (h : DOk d) : totD d ≤ 200000 := by
  have hI := (dok_iff d).1 h
  have hB := h.base
  have hK := (kall_iff d).1 h.link
  have hu := h.used
  unfold dBase at hB
  have h1 := totNd_used d.nodes
  have h2 := totLk_names hK.1
  have h3 : totTn d.turns ≤ 24 * d.turns.length := totTn_le (fun t ht => by
    obtain ⟨j, hj, rfl⟩ := List.mem_iff_getElem.1 ht
    have h1 := hI.turn0 j hj
    have h2 := pName_len h1.1
    unfold TnW
    rcases h1.2 with ⟨a, b⟩ | ⟨a, b, c⟩ | ⟨a, b, c⟩
    · rw [b]; simp only [List.length_nil]; omega
    · have := pName_len b; omega
    · rw [b]; simp only [List.length_nil]; omega)
  unfold Go.Proofs.YtggaghghclomkaaGreat.totD
  omega
end Go.Proofs.YtggaghghclomkaaGreat

/- The steps between two contents: what the law asks of them. No condition. -/
namespace Go.Proofs.YtggaghghclomkaaGreat
open Go.RowKit

theorem share_self : ∀ s : List UInt8, share s s = s.length
  | [] => rfl
  | a :: x => by simp [share, share_self x]
theorem tear_self (s : List UInt8) (k : Int) : tear s s k = s := by
  have h : tearK s s k = 0 := by unfold tearK tearSteps; rw [share_self]; omega
  unfold tear
  rw [h, if_pos (by omega)]
  simp
end Go.Proofs.YtggaghghclomkaaGreat

/- What a name reads as on a disk, before and behind an operation and a loss of power: the plain law. No condition. -/
namespace Go.Proofs.YtggaghghclomkaaGreat
open Go.RowKit
theorem node_inj {d : DiskP} (h : DOk d) {p q : NodeP} (hp : p ∈ d.nodes) (hq : q ∈ d.nodes) (e : p.1 = q.1) : p = q := by
  obtain ⟨i, hi, rfl⟩ := List.mem_iff_getElem.1 hp
  obtain ⟨j, hj, rfl⟩ := List.mem_iff_getElem.1 hq
  have h1 := ((nall_iff d).1 h.node).2
  rw [List.pairwise_iff_getElem] at h1
  rcases Nat.lt_trichotomy i j with h2 | h2 | h2
  · have := h1 i j hi hj h2; omega
  · subst h2; rfl
  · have := h1 j i hj hi h2; omega
/-- A name is linked to a node, in a directory. -/
structure HasL (L : List LkD) (l : List NodeP) (s : List UInt8) (p : NodeP) : Prop where
  there : dHas L s = true
  mem : p ∈ l
  id : p.1 = dFind L s
abbrev Has (d : DiskP) (s : List UInt8) (p : NodeP) : Prop := HasL (pDir d) d.nodes s p
section
variable {d : DiskP} {s t : List UInt8} {p q p' : NodeP} {fu : Int}
theorem DOk.has (h : DOk d) (hh : dHas (pDir d) s = true) : ∃ p, Has d s p := by
  obtain ⟨i, hi, _, h2⟩ := h.dirAt hh
  exact ⟨d.nodes[i], hh, List.getElem_mem hi, h2⟩
theorem Has.at_ (h : DOk d) (H : Has d s p) : ∃ i, ∃ hi : i < d.nodes.length, nAt d.nodes (dFind (pDir d) s) = (i : Int) ∧ d.nodes[i] = p := by
  obtain ⟨i, hi, h1, h2⟩ := h.dirAt H.there
  exact ⟨i, hi, h1, node_inj h (List.getElem_mem hi) H.mem (h2.trans H.id.symm)⟩
theorem Has.read (h : DOk d) (H : Has d s p) : pRead d s = (p.2.1, true) := by
  obtain ⟨i, hi, h1, h2⟩ := H.at_ h
  rw [pRead_yes h H.there, h1, bodyAt_nat hi, h2]
theorem read_none (hh : dHas (pDir d) s = false) : pRead d s = ([], false) := pRead_no (fun h => by rw [hh] at h; exact absurd h.2 (by decide))
theorem read_iff (h : DOk d) : (pRead d s).2 = dHas (pDir d) s := by
  cases hh : dHas (pDir d) s with
  | true => obtain ⟨p, hp⟩ := h.has hh; rw [hp.read h]
  | false => rw [read_none hh]
/-- One node is put. -/
def putN (d : DiskP) (s : List UInt8) (p' : NodeP) : DiskP := { d with fuse := fuseOf d, nodes := d.nodes.set (nAt d.nodes (dFind (pDir d) s)).toNat p' }
theorem Has.put (h : DOk d) (H : Has d s p) (e : p'.1 = p.1) : Has (putN d s p') s p' := by
  obtain ⟨i, hi, h1, h2⟩ := H.at_ h
  refine ⟨H.there, ?_, e.trans H.id⟩
  unfold putN
  simp only
  rw [h1, Int.toNat_natCast]
  exact List.mem_set hi p'
theorem Has.put_other (h : DOk d) (H : Has d s p) {L : List LkD} (K : HasL L d.nodes t q) (hne : q.1 ≠ p.1) : HasL L (putN d s p').nodes t q := by
  obtain ⟨i, hi, h1, h2⟩ := H.at_ h
  refine ⟨K.there, ?_, K.id⟩
  unfold putN
  simp only
  rw [h1, Int.toNat_natCast]
  obtain ⟨j, hj, hq⟩ := List.mem_iff_getElem.1 K.mem
  have hij : i ≠ j := fun e => by subst e; rw [h2] at hq; exact hne (by rw [hq])
  exact List.mem_iff_getElem.2 ⟨j, by rw [List.length_set]; exact hj, by rw [List.getElem_set, if_neg hij]; exact hq⟩
/-! ### the operations -/
abbrev oMk (s : List UInt8) : OpD := ⟨1, s, [], 0, []⟩
abbrev oApp (s b : List UInt8) : OpD := ⟨2, s, [], 0, b⟩
abbrev oSync (s : List UInt8) : OpD := ⟨3, s, [], 0, []⟩
abbrev oCut (s : List UInt8) (n : Int) : OpD := ⟨4, s, [], n, []⟩
abbrev oRen (s t : List UInt8) : OpD := ⟨5, s, t, 0, []⟩
abbrev oRm (s : List UInt8) : OpD := ⟨6, s, [], 0, []⟩
abbrev oDir : OpD := ⟨7, [], [], 0, []⟩
def newD (d : DiskP) (s : List UInt8) : DiskP := { d with fuse := fuseOf d, next := d.next + 1, nodes := d.nodes ++ [(d.next, [], [])], turns := d.turns ++ [⟨1, s, [], d.next⟩] }
def turnD (d : DiskP) (t : TnD) : DiskP := { d with fuse := fuseOf d, turns := d.turns ++ [t] }
def dirD (d : DiskP) : DiskP := { d with fuse := fuseOf d, nodes := onlyP d.nodes ((pDir d).map (·.id)), kept := pDir d, turns := [] }
/-- How many bytes of b still fit behind a node. -/
def roomN (d : DiskP) (p : NodeP) (b : List UInt8) : Int := min (NdM p + d.room - pUsed d.nodes - p.2.1.length) b.length
theorem pDo_fuse (h : DOk d) {o : OpD} (ho : pOp o = true) (h0 : d.fuse = 0) : pDo d o = (d, 2) := by
  have : pCode d o = 2 := by unfold pCode; rw [if_pos h0]
  rw [pDo_code h ho (by rw [this]; decide), this]
theorem op_at (h : DOk d) (H : Has d s p) {o : OpD} (e : o.name = s) : ndAt d o = p := by
  subst e
  obtain ⟨i, hi, h1, h2⟩ := H.at_ h
  unfold ndAt opAt
  rw [h1, Int.toNat_natCast, List.getD_eq_getElem?_getD, List.getElem?_eq_getElem hi, h2]
  rfl
theorem pDo_app (h : DOk d) (h0 : d.fuse ≠ 0) (H : Has d s p) (hs : pName s = true) {b : List UInt8} (hb : b.length ≤ 60000) :
    pDo d (oApp s b) = (putN d s (p.1, p.2.1 ++ b.take (roomN d p b).toNat, p.2.2), if roomN d p b < b.length then 5 else 0) := by
  have ho : pOp (oApp s b) = true := by unfold pOp; simp [hs, hb]
  have hc : pCode d (oApp s b) = 0 := by unfold pCode; simp [h0, H.there]
  have hn := op_at h H (o := oApp s b) rfl
  rw [pDo_yes h ho hc]
  unfold doD doC fitsN ndPut
  rw [hn, if_neg (by simp), if_pos rfl]
  refine Prod.ext rfl ?_
  simp only [true_and]
  rfl
theorem pDo_sync (h : DOk d) (h0 : d.fuse ≠ 0) (H : Has d s p) (hs : pName s = true) : pDo d (oSync s) = (putN d s (p.1, p.2.1, p.2.1), 0) := by
  have ho : pOp (oSync s) = true := by unfold pOp; simp [hs]
  have hc : pCode d (oSync s) = 0 := by unfold pCode; simp [h0, H.there]
  have hn := op_at h H (o := oSync s) rfl
  rw [pDo_yes h ho hc]
  unfold doD doC ndPut
  rw [hn, if_neg (by simp), if_neg (by simp), if_pos rfl, if_neg (by simp)]
  rfl
theorem pDo_cut (h : DOk d) (h0 : d.fuse ≠ 0) (H : Has d s p) (hs : pName s = true) {n : Nat} (hn1 : n ≤ p.2.1.length) (hn2 : n ≤ 60000) : pDo d (oCut s n) = (putN d s (p.1, p.2.1.take n, p.2.2), 0) := by
  have ho : pOp (oCut s n) = true := by unfold pOp; simp [hs]; omega
  have hb : ((bodyAt d (opAt d (oCut s n))).length : Int) = p.2.1.length := by
    obtain ⟨i, hi, h1, h2⟩ := H.at_ h
    unfold opAt
    simp only
    rw [h1, bodyAt_nat hi, h2]
  have hc : pCode d (oCut s n) = 0 := by
    rw [pCode_4 rfl, if_neg h0, hb]
    simp only [H.there]
    rw [if_neg (by simp), if_neg (by omega)]
  have hn := op_at h H (o := oCut s n) rfl
  rw [pDo_yes h ho hc]
  unfold doD doC ndPut
  rw [hn, if_neg (by simp), if_neg (by simp), if_neg (by simp), if_pos rfl, if_neg (by simp)]
  simp only [Int.toNat_natCast]
  rfl
theorem pDo_rm (h : DOk d) (h0 : d.fuse ≠ 0) (H : Has d s p) (hs : pName s = true) (hl : d.turns.length < 40) : pDo d (oRm s) = (turnD d ⟨6, s, [], 0⟩, 0) := by
  have ho : pOp (oRm s) = true := by unfold pOp; simp [hs]
  have hc : pCode d (oRm s) = 0 := by rw [pCode_6 rfl, if_neg h0]; simp only [H.there]; rw [if_neg (by simp), if_neg (by omega)]
  rw [pDo_yes h ho hc]
  unfold doD doC
  rw [if_neg (by simp), if_neg (by simp), if_neg (by simp), if_neg (by simp), if_neg (by simp), if_neg (by simp)]
  rfl
theorem pDo_ren (h : DOk d) (h0 : d.fuse ≠ 0) (H : Has d s p) (hs : pName s = true) (ht : pName t = true) (hne : t ≠ s) (hl : d.turns.length < 40) : pDo d (oRen s t) = (turnD d ⟨5, s, t, 0⟩, 0) := by
  have ho : pOp (oRen s t) = true := by unfold pOp; simp [hs, ht]
  have hc : pCode d (oRen s t) = 0 := by rw [pCode_5 rfl, if_neg h0]; simp only [H.there]; rw [if_neg (by simp), if_neg (by omega), if_neg hne]
  rw [pDo_yes h ho hc]
  unfold doD doC
  rw [if_neg (by simp), if_neg (by simp), if_neg (by simp), if_neg (by simp), if_neg (by simp), if_neg (by simp)]
  rfl
theorem pDo_dir (h : DOk d) (h0 : d.fuse ≠ 0) : pDo d oDir = (dirD d, 0) := by
  have ho : pOp oDir = true := by unfold pOp; simp
  have hc : pCode d oDir = 0 := by rw [pCode_7 rfl, if_neg h0]
  rw [pDo_yes h ho hc]
  unfold doD doC
  rw [if_neg (by simp), if_neg (by simp), if_neg (by simp), if_neg (by simp), if_pos rfl, if_neg (by simp)]
  rfl
theorem pDo_mk (h : DOk d) (h0 : d.fuse ≠ 0) (hh : dHas (pDir d) s = false) (hs : pName s = true) (hl : d.turns.length < 40) :
    (8 ≤ d.nodes.length ∨ 1000000 ≤ d.next) ∧ pDo d (oMk s) = (d, 4) ∨ ¬ (8 ≤ d.nodes.length ∨ 1000000 ≤ d.next) ∧ pDo d (oMk s) = (newD d s, 0) := by
  have ho : pOp (oMk s) = true := by unfold pOp; simp [hs]
  by_cases hx : 8 ≤ d.nodes.length ∨ 1000000 ≤ d.next
  · left
    have hc : pCode d (oMk s) = 4 := by rw [pCode_1 rfl, if_neg h0]; simp only [hh]; rw [if_neg (by simp), if_pos (by omega)]
    rw [pDo_code h ho (by rw [hc]; decide), hc]
    exact ⟨hx, rfl⟩
  · right
    have hc : pCode d (oMk s) = 0 := by rw [pCode_1 rfl, if_neg h0]; simp only [hh]; rw [if_neg (by simp), if_neg (by omega)]
    rw [pDo_yes h ho hc]
    refine ⟨hx, ?_⟩
    unfold doD doC
    rw [if_pos rfl, if_neg (by simp)]
    rfl
/-! ### directories -/
theorem dHas_mem {L : List LkD} {x : LkD} (h : x ∈ L) : dHas L x.name = true := by unfold dHas; rw [List.any_eq_true]; exact ⟨x, h, by simp⟩
theorem dHas_iff {L : List LkD} {s : List UInt8} : dHas L s = true ↔ ∃ x ∈ L, x.name = s := by unfold dHas; rw [List.any_eq_true]; simp
theorem dFind_of {L : List LkD} (ha : Asc L) {x : LkD} (hx : x ∈ L) : dFind L x.name = x.id := by
  obtain ⟨y, hy, hn, hi⟩ := dFind_mem (dHas_mem hx)
  rw [← hi]
  have h1 := ha
  unfold Asc at h1
  rw [List.pairwise_iff_getElem] at h1
  obtain ⟨i, hi1, rfl⟩ := List.mem_iff_getElem.1 hx
  obtain ⟨j, hj1, rfl⟩ := List.mem_iff_getElem.1 hy
  rcases Nat.lt_trichotomy i j with h2 | h2 | h2
  · have := h1 i j hi1 hj1 h2; rw [hn, bb_irrefl] at this; cases this
  · subst h2; rfl
  · have := h1 j i hj1 hi1 h2; rw [hn, bb_irrefl] at this; cases this
theorem ins_has (x : LkD) (L : List LkD) (s : List UInt8) : dHas (dIns x L) s = (decide (x.name = s) || dHas L s) := by
  rw [Bool.eq_iff_iff]
  simp only [Bool.or_eq_true, decide_eq_true_eq, dHas_iff, mem_dIns]
  constructor
  · rintro ⟨y, rfl | hy, h⟩
    · exact .inl h
    · exact .inr ⟨y, hy, h⟩
  · rintro (h | ⟨y, hy, h⟩)
    · exact ⟨x, .inl rfl, h⟩
    · exact ⟨y, .inr hy, h⟩
theorem less_has (L : List LkD) (s t : List UInt8) : dHas (dLess L t) s = (!decide (s = t) && dHas L s) := by
  rw [Bool.eq_iff_iff]
  simp only [Bool.and_eq_true, Bool.not_eq_true', decide_eq_false_iff_not, dHas_iff, dLess, List.mem_filter]
  constructor
  · rintro ⟨y, ⟨hy, h1⟩, rfl⟩
    exact ⟨by simpa using h1, y, hy, rfl⟩
  · rintro ⟨h1, y, hy, rfl⟩
    exact ⟨y, ⟨hy, by simpa using h1⟩, rfl⟩
theorem ins_find {x : LkD} {L : List LkD} (ha : Asc L) (hx : dHas L x.name = false) (s : List UInt8) : dFind (dIns x L) s = if x.name = s then x.id else dFind L s := by
  have ha2 := asc_dIns ha hx
  split
  · rename_i e; subst e; exact dFind_of ha2 ((mem_dIns L).2 (.inl rfl))
  · rename_i e
    cases hh : dHas L s with
    | true =>
      obtain ⟨y, hy, rfl, hi⟩ := dFind_mem hh
      rw [dFind_of ha2 ((mem_dIns L).2 (.inr hy)), hi]
    | false =>
      rw [dFind_none hh, dFind_none (by rw [ins_has, hh]; simp [e])]
theorem less_find {L : List LkD} (ha : Asc L) {s t : List UInt8} (h : s ≠ t) : dFind (dLess L t) s = dFind L s := by
  have ha2 := asc_dLess ha t
  cases hh : dHas L s with
  | true =>
    obtain ⟨y, hy, rfl, hi⟩ := dFind_mem hh
    rw [← hi]
    exact dFind_of ha2 (List.mem_filter.2 ⟨hy, by simpa using h⟩)
  | false => rw [dFind_none hh, dFind_none (by rw [less_has, hh]; simp)]
theorem DOk.ascD (h : DOk d) : Asc (pDir d) := by have := h.asc d.turns.length (Nat.le_refl _); rw [List.take_length] at this; exact this
theorem runT_snoc (L : List LkD) (ts : List TnD) (t : TnD) : runT L (ts ++ [t]) = pTurn (runT L ts) t := by unfold runT; rw [List.foldl_append]; rfl
theorem turnD_dir (t : TnD) : pDir (turnD d t) = pTurn (pDir d) t := runT_snoc _ _ _
theorem newD_dir : pDir (newD d s) = dIns ⟨s, d.next⟩ (pDir d) := by unfold newD pDir; simp only; rw [runT_snoc]; unfold pTurn; rw [if_pos rfl]
theorem dirD_dir : pDir (dirD d) = pDir d := rfl
theorem rm_dir : pDir (turnD d ⟨6, s, [], 0⟩) = dLess (pDir d) s := by rw [turnD_dir]; unfold pTurn; rw [if_neg (by simp), if_neg (by simp)]
theorem ren_dir : pDir (turnD d ⟨5, s, t, 0⟩) = dIns ⟨t, dFind (pDir d) s⟩ (dLess (dLess (pDir d) s) t) := by rw [turnD_dir]; unfold pTurn; rw [if_neg (by simp), if_pos rfl]
theorem Has.dir (H : Has d s p) : Has (dirD d) s p := by
  refine ⟨H.there, List.mem_filter.2 ⟨H.mem, ?_⟩, H.id⟩
  obtain ⟨x, hx, _, hi⟩ := dFind_mem H.there
  rw [H.id, ← hi]
  simpa using ⟨x, hx, rfl⟩
theorem Has.rm (h : DOk d) (H : Has d s p) (hne : s ≠ t) : Has (turnD d ⟨6, t, [], 0⟩) s p := by
  refine ⟨?_, H.mem, ?_⟩
  · rw [rm_dir, less_has, H.there]; simp [hne]
  · rw [rm_dir, less_find h.ascD hne]; exact H.id
theorem Has.newOld (h : DOk d) (H : Has d s p) (hn : dHas (pDir d) t = false) : Has (newD d t) s p := by
  have hne : t ≠ s := fun e => by subst e; rw [H.there] at hn; cases hn
  refine ⟨?_, List.mem_append.2 (.inl H.mem), ?_⟩
  · rw [newD_dir, ins_has, H.there]; simp
  · rw [newD_dir, ins_find h.ascD hn]; simp only [hne, if_false]; exact H.id
theorem Has.newNew (h : DOk d) (hn : dHas (pDir d) t = false) : Has (newD d t) t (d.next, [], []) := by
  refine ⟨?_, List.mem_append.2 (.inr (List.mem_singleton.2 rfl)), ?_⟩
  · rw [newD_dir, ins_has]; simp
  · rw [newD_dir, ins_find h.ascD hn]; simp
theorem Has.ren (h : DOk d) (H : Has d s p) : Has (turnD d ⟨5, s, t, 0⟩) t p := by
  have ha : Asc (dLess (dLess (pDir d) s) t) := asc_dLess (asc_dLess h.ascD s) t
  refine ⟨?_, H.mem, ?_⟩
  · rw [ren_dir, ins_has]; simp
  · rw [ren_dir, ins_find ha (dHas_dLess _ _)]; simp only [if_true]; exact H.id
/-! ### behind a loss of power -/
theorem HasL.crash (_h : DOk d) {tn : Int} {cuts : List Int} (H : HasL (runT d.kept (d.turns.take (tnN d tn))) d.nodes s p) : ∃ i, Has (crashD d tn cuts) s (crashP cuts i p) := by
  have hin : p ∈ onlyP d.nodes ((runT d.kept (d.turns.take (tnN d tn))).map (·.id)) := by
    refine List.mem_filter.2 ⟨H.mem, ?_⟩
    obtain ⟨x, hx, _, hi⟩ := dFind_mem H.there
    rw [H.id, ← hi]
    simpa using ⟨x, hx, rfl⟩
  obtain ⟨i, hi, he⟩ := List.mem_iff_getElem.1 hin
  refine ⟨i, H.there, ?_, H.id⟩
  exact List.mem_iff_getElem.2 ⟨i, by unfold crashD; simpa using hi, by unfold crashD; simp [he]⟩
end
end Go.Proofs.YtggaghghclomkaaGreat

/- Operations one after another: the plain law. No condition. -/
namespace Go.Proofs.YtggaghghclomkaaGreat
open Go.RowKit
theorem pDo_tot (d : DiskP) (o : OpD) : totD (pDo d o).1 ≤ 1048576 := by
  by_cases hp : DOk d ∧ pOp o = true
  · have := (hp.1.pDo hp.2).totD; omega
  · rw [pDo_no hp, totD_no]; decide
theorem noDk_fits : noDk.fits := by unfold DiskP.fits noDk; simp
theorem pDo_fits (d : DiskP) (o : OpD) : (pDo d o).1.fits := by
  by_cases hp : DOk d ∧ pOp o = true
  · exact (hp.1.pDo hp.2).fitsD
  · rw [pDo_no hp]; exact noDk_fits
end Go.Proofs.YtggaghghclomkaaGreat

/- Rows of operations that are read. No condition. -/
namespace Go.Proofs.YtggaghghclomkaaGreat
open Go.RowKit
/-- An operation as it lies in a row. -/
structure Od where
  o : OpD
  v : Value
def OdC (x : Od) : List Value := opC x.o x.v
def ROp (w : World) (lo hi : Nat) (v : Value) (l : List OpD) : Prop := ∃ (es : List Od) (A : Option Addr) (c : Nat), es.map (·.o) = l ∧ v = .slice A es.length c ∧ es.length ≤ c ∧ Rd w lo hi 5 A es.length (cellsL OdC es) ∧ ∀ x ∈ es, RB w lo hi x.v x.o.data
theorem ROp.ch {w w' : World} {lo hi : Nat} {v : Value} {l : List OpD} {T : Nat → Prop} (h : ROp w lo hi v l) (c : Ch T w w') (hd : ∀ k, lo ≤ k → k < hi → ¬ T k) : ROp w' lo hi v l := by
  obtain ⟨es, A, cc, h1, h2, h3, h4, h5⟩ := h
  exact ⟨es, A, cc, h1, h2, h3, h4.ch c hd, fun x hx => (h5 x hx).ch c hd⟩
theorem ROp.ext {w w' : World} {lo hi : Nat} {v : Value} {l : List OpD} (h : ROp w lo hi v l) (c : Ext w w') : ROp w' lo hi v l := h.ch c (fun _ _ _ t => t)
theorem ROp.nil (w : World) : ROp w 0 w.heap.size (.slice none 0 0) [] := ⟨[], none, 0, rfl, rfl, Nat.le_refl _, ⟨by simp [cellsL], Nat.le_refl _, fun h => absurd h (by simp)⟩, fun x hx => by cases hx⟩
end Go.Proofs.YtggaghghclomkaaGreat

/- Draws of cuts and disks: right disks, few files made. -/
namespace Go.Proofs.YtggaghghclomkaaGreat
open Go.RowKit
def newDk (room : Int) : DiskP := ⟨room, -1, 1, [], [], []⟩
theorem newDk_ok {room : Int} (h : 0 ≤ room ∧ room ≤ 60000) : DOk (newDk room) :=
  ⟨by unfold dBase newDk; simp; omega, fun i hi => absurd hi (by simp [newDk]), fun i hi => absurd hi (by simp [newDk]), fun x hx => (by cases hx), rfl, fun j hj => absurd hj (by simp [newDk, pIds]), fun j hj => absurd hj (by simp [newDk]), by simp [newDk, pUsed]; omega⟩
theorem ODk.none {w : World} {lo hi : Nat} {d : DiskP} (h : hi ≤ w.heap.size) (h1 : d.nodes = []) (h2 : d.kept = []) (h3 : d.turns = []) : ODk w lo hi d (.slice none 0 0) (.slice none 0 0) (.slice none 0 0) :=
  ⟨h, [], by rw [h1]; rfl, ONx.empty w, by rw [h2]; exact (RowO.nil w 0 (Nat.zero_le _)).x, by rw [h3]; exact (RowO.nil w 0 (Nat.zero_le _)).x, by simp [bksN, blk], by simp [bksN, blk]⟩
theorem DOk.fused {d : DiskP} (h : DOk d) {f : Int} (hf : -1 ≤ f ∧ f ≤ 1000) : DOk { d with fuse := f } := by
  have hB := h.base
  unfold dBase at hB
  exact ⟨by unfold dBase; simp only; omega, h.node, h.link, h.pos, h.len, h.ids, h.turn, h.used⟩
attribute [local irreducible] TL TC TN TX TR TQ TA Pu Ret
set_option maxRecDepth 100000 in
set_option maxHeartbeats 4000000 in
theorem l04Cuts_c {w : World} {g : Nat} (hcur : Cur w g) :
    Ret Tryz.prog 116 #[pt g] w fun v w' => ∃ t : List Int, t.length ≤ 3 ∧ Ch (Iv g (g + 1)) w w' ∧ OI w' w.heap.size w'.heap.size v t ∧ Cur w' g := by
  refine Ret_enter Tryz.func116 rfl rfl rfl ?_
  have hg := hcur.lt
  repeat' (first | apply Jbq | apply Jbr | apply Jbs | apply Jbt | (apply Jcg; (first | exact Jaa rfl | exact Jab rfl); exact rfl) | (refine TL_buildSlice0 Us.h Sz.h rfl ?_; intro w1 g1 e1 hg1 hz1 hown1))
  refine TL_call rfl en115 (l01Below_c (hcur.ext e1) (by omega)) rfl rfl ?_
  rintro _ w2 ⟨n, rfl, hn0, hn1, _, c2, hcur2⟩
  have hn1 := hn1 (by omega)
  have hnew : OI w2 w.heap.size w2.heap.size (.slice (some ⟨g1, 0, none⟩) 0 0) [] := by
    have := (OI_new (s := []) rfl hown1 hg1 hz1).ch c2 (by intro k _ _; simp only [Iv]; omega)
    have hs2 := c2.size
    obtain ⟨A9, c9, h9, ho9⟩ := this
    exact ⟨A9, c9, h9, ho9.wide (Nat.le_refl _) hs2 (Nat.le_refl _)⟩
  obtain ⟨n, rfl⟩ := Int.eq_ofNat_of_zero_le hn0
  repeat' (first | apply Jbq | apply Jbr | apply Jby | (apply Jcg; exact Jab rfl; exact rfl))
  refine TC_loop (ι := Nat × List Int × Value) (fun x => [(0, pt g), (3, x.2.2), (4, I x.1)]) (fun x w' => x.2.1.length + x.1 = n ∧ Ch (Iv g (g + 1)) w w' ∧ OI w' w.heap.size w'.heap.size x.2.2 x.2.1 ∧ Cur w' g) (fun x => x.1) (n, [], _) (subEnv_cons rfl (subEnv_cons rfl (subEnv_cons rfl (subEnv_nil _))))
    ⟨by simp, (Ch.refl _ _).ext e1 |>.then c2, hnew, hcur2⟩ ?_
  rintro ⟨m, t, va⟩ w3 ⟨hs, c3, ho3, hcur3⟩
  simp only at hs ho3
  repeat' (first | apply Jbq | apply Jbr | apply Jbs | apply Jbt | (apply Jcg; (first | exact Jaa rfl | exact Jam rfl rfl); exact rfl))
  refine Jcx rfl (fun hb => ?_) (fun hb => ?_)
  · repeat' (first | apply Jbr | apply Jbs | apply Jbt | apply Jby | apply Jbz | (apply Jcg; exact Jaa rfl; exact rfl))
    refine TL_call rfl en162 (l01Raw_c hcur3) rfl rfl ?_
    rintro _ w4 ⟨r, rfl, hr, c4, hcur4⟩
    repeat' ((apply Jcg; exact Jaa rfl; exact rfl))
    refine TL_call rfl en115 (l01Below_c hcur4 (by omega)) rfl rfl ?_
    rintro _ w5 ⟨y, rfl, hy0, hy1, _, c5, hcur5⟩
    have hs3 := c3.size
    have hs4 := c4.size
    have hs5 := c5.size
    skip
    refine TL_buildSlice (us := i64s [0, 1, 2, 3, 5, 8, 13, 1000, r, y]) Us.h Zi.h rfl rfl rfl rfl (by kernel_rfl) rfl rfl ?_
    intro w6 g6 e6 hg6 hz6 hown6
    repeat' ((apply Jcg; exact Jaa rfl; exact rfl))
    refine TL_call rfl en115 (l01Below_c (hcur5.ext e6) (by omega)) rfl rfl ?_
    rintro _ w7 ⟨x, rfl, hx0, hx1, _, c7, hcur7⟩
    have hx1 := hx1 (by omega)
    obtain ⟨x, rfl⟩ := Int.eq_ofNat_of_zero_le hx0
    have hx : x < 10 := by omega
    have hs7 := c7.size
    obtain ⟨ad, had, hcell⟩ := (hown6.rd.ch c7 (by intro j _ _; simp only [Iv]; omega)).get (show x < 10 by omega)
    injection had with had
    subst had
    rw [i64s_get [0, 1, 2, 3, 5, 8, 13, 1000, r, y] (by simpa using hx)] at hcell
    obtain ⟨z, hz⟩ : ∃ z, z = [0, 1, 2, 3, 5, 8, 13, 1000, r, y].getD x 0 := ⟨_, rfl⟩
    rw [← hz] at hcell
    repeat' (first | (apply Jcg; exact Jag Us.h Sz.h rfl rfl (by omega); exact rfl) | refine Jcg (Pu_load Fl.h rfl (fun _ e => by rw [e]; exact hcell)) rfl ?_)
    refine TL_buildSlice (us := i64s [z]) Us.h Zi.h rfl rfl rfl rfl (filli1 _) rfl rfl ?_
    intro w8 g8 e8 hg8 hz8 hown8
    have hs8 := e8.size
    have ho8 := ((((ho3.ch c4 (by intro k _ _; simp only [Iv]; omega)).ch c5 (by intro k _ _; simp only [Iv]; omega)).ext e6).ch c7 (by intro k _ _; simp only [Iv]; omega)).ext e8
    have hs6 := e6.size
    refine TL_appendI Us.h rfl rfl ho8 (OI_new (s := [_]) rfl hown8 hg8 hz8).rd (by omega) (by simp only [List.length_cons, List.length_nil]; omega) rfl ?_
    intro w9 v9 c9 ho9
    repeat' (first | apply Jbq | apply Jbr | apply Jbt | apply Jbx | (apply Jcg; (first | exact Jaa rfl | exact Jab rfl | exact Jap rfl rfl (by omega)); exact rfl))
    exact TN_round (m - 1, t ++ [z], v9) (subEnv_cons rfl (subEnv_cons rfl (subEnv_cons (congrArg (fun z => some (I z)) (by simp only; omega)) (subEnv_nil _)))) ⟨by simp only [List.length_append, List.length_cons, List.length_nil]; omega, Own.step (((((c3.then c4).then c5).ext e6).then c7).ext e8) c9 (Nat.le_refl _), ho9, (hcur7.ext e8).ch c9 (by intro k _; simp only [Iv]; omega)⟩ (by simp only; omega)
  · repeat' (first | apply Jbq | apply Jbr | apply Jbs | apply Jbt | apply Jbu | apply Jca | apply Jcb | apply Jcc | (apply Jcg; (first | exact Jaa rfl | exact Jab rfl); exact rfl))
    exact TR_of (res1 rfl rfl) ⟨t, by omega, c3, ho3, hcur3⟩
set_option maxHeartbeats 2000000 in
theorem MakeCut_c {w : World} {lo hi : Nat} {v : Value} {s : List UInt8} (hR : RB w lo hi v s) (hl : s.length ≤ 1048576) :
    Ret Tryz.prog 41 #[v] w fun v' w' => ∃ (x : Int) (t : List Int) (vc : Value), v' = .tuple #[I x, vc] ∧ (0 ≤ x ∧ x < 5) ∧ t.length ≤ 3 ∧ Ext w w' ∧ RI w' w.heap.size w'.heap.size vc t := by
  refine Ret_enter Tryz.func41 rfl rfl rfl ?_
  repeat' (first | apply Jbq | apply Jbr | apply Jbs | apply Jbt | (apply Jcg; (first | exact Jaa rfl | exact Jab rfl); exact rfl))
  refine TL_call rfl en99 (l01New_c hR hl) rfl rfl ?_
  rintro _ w1 ⟨g, rfl, e1, hg, hz1, hcur⟩
  obtain ⟨A, c, lo2, s2, i, h, hb, hr, hi2, hl2⟩ := hcur
  repeat' (first | apply Jbq | apply Jbr | apply Jbs | apply Jbt | (apply Jcg; (first | exact Jaa rfl | exact Jab rfl | exact Jba rfl | (apply Jbl; exact Us.h; exact rfl; exact Sz.h; exact rfl)); exact rfl) | refine Jcg (Pu_load Fl.h rfl (fun _ e => by rw [e]; exact hb.ld rfl)) rfl ?_ | refine Jcg (Pu_addw rfl rfl) rfl ?_)
  refine TL_store rfl rfl Sz.h rfl hb rfl ?_
  intro w2 c2 hz2 hb2
  have hcur2 : Cur w2 g := ⟨A, c, lo2, s2, i, _, hb2, hr.ch c2 (by intro k _ _; simp only [Iv]; omega), hi2, hl2⟩
  repeat' (first | apply Jbq | apply Jbr | apply Jbs | apply Jbt | (apply Jcg; exact Jaa rfl; exact rfl))
  refine TL_call rfl en115 (l01Below_c hcur2 (by omega)) rfl rfl ?_
  rintro _ w3 ⟨x, rfl, h0, h1, _, c3, hcur3⟩
  have h1 := h1 (by omega)
  repeat' ((apply Jcg; exact Jaa rfl; exact rfl))
  refine TL_call rfl en116 (l04Cuts_c hcur3) rfl rfl ?_
  rintro vc w4 ⟨t, ht, c4, ho, _⟩
  have hs2 := c2.size
  have hs3 := c3.size
  repeat' (first | apply Jbq | apply Jbr | apply Jbu | (apply Jcg; exact Jab rfl; exact rfl))
  exact TR_of (res2 rfl rfl rfl) ⟨x, t, vc, rfl, ⟨h0, h1⟩, ht, Ext.then_iv (Ext.then_iv (Ext.then_iv e1 c2 hg) c3 hg) c4 hg, by obtain ⟨A', c', h1, h2, h3⟩ := ho.rd; exact ⟨A', c', h1, h2, h3.wide (by omega) (Nat.le_refl _) (Nat.le_refl _)⟩⟩
set_option maxHeartbeats 1000000 in
theorem specNew_c {room : Int} (w : World) (h : 0 ≤ room ∧ room ≤ 60000) : Ret Tryz.prog 113 #[I room] w fun v w' => v = .tuple #[.agg (dskC (newDk room) (.slice none 0 0) (.slice none 0 0) (.slice none 0 0)).toArray, .bool true] ∧ Ext w w' := by
  refine Ret_enter Tryz.func113 rfl rfl rfl ?_
  repeat' (first | apply Jbs | apply Jbt)
  refine TL_alloc Zs.h rfl rfl ?_
  intro w1 g E hg hz hbk
  repeat' (first | apply Jbq | apply Jbr | apply Jbs | apply Jbt | apply Jbu | apply Jbz | (apply Jcg; (first | exact Jaa rfl | exact Jab rfl | exact Jad rfl rfl | exact Jai rfl rfl | exact Jam rfl rfl); exact rfl) | refine Jch rfl rfl rfl ?_ | (refine Jcg (Pu_build (cs := dskC (newDk room) (.slice none 0 0) (.slice none 0 0) (.slice none 0 0)) rfl (by kernel_rfl)) rfl ?_) | (refine TL_storeAgg rfl rfl Sz.h rfl hbk rfl ?_; intro w2 c2 hz2 hb2) | (refine Jcs rfl rfl (fun hb => ?_) (fun hb => ?_) <;> (try (exfalso; omega))) | (refine Jcx rfl (fun hb => ?_) (fun hb => ?_) <;> (try (exfalso; omega))))
  all_goals exact TR_of (resA1 rfl rfl rfl hb2 Us.h rfl Sz.h) ⟨rfl, Ext.then_iv E c2 (by omega)⟩
end Go.Proofs.YtggaghghclomkaaGreat

/- Contracts of the laws' own helpers on lists of entries. -/
namespace Go.Proofs.YtggaghghclomkaaGreat
open Go.RowKit
attribute [local irreducible] TL TC TN TX TR TQ TA Pu Ret

abbrev Ent := Int × List UInt8
theorem entC_len (d : Ent) : (entC d).length = 2 := rfl
theorem entC_one (d : Ent) : ∀ u ∈ entC d, u.oneCell' = true := by
  intro u hu
  simp only [entC, List.mem_cons, List.not_mem_nil, or_false] at hu
  rcases hu with rfl | rfl <;> rfl
def ents (l : List Ent) : List Value := cellsL entC l
theorem ents_length (l : List Ent) : (ents l).length = l.length * 2 := cellsL_length entC_len l
def RE (w : World) (lo hi : Nat) (v : Value) (l : List Ent) : Prop := ∃ A c, v = .slice A l.length c ∧ l.length ≤ c ∧ Rd w lo hi 2 A l.length (ents l)
def OE (w : World) (lo hi : Nat) (v : Value) (l : List Ent) : Prop := ∃ A c, v = .slice A l.length c ∧ Own w lo hi 82 2 A l.length c (ents l)
section
variable {w w' : World} {lo hi : Nat} {v : Value} {l : List Ent} {k : Int} {T : Nat → Prop}
theorem RE.ch (h : RE w lo hi v l) (c : Ch T w w') (hd : ∀ k, lo ≤ k → k < hi → ¬ T k) : RE w' lo hi v l := by
  obtain ⟨A, cc, h1, h2, h3⟩ := h; exact ⟨A, cc, h1, h2, h3.ch c hd⟩
theorem RE.ext (h : RE w lo hi v l) (c : Ext w w') : RE w' lo hi v l := h.ch c (fun _ _ _ t => t)
theorem OE.ch (h : OE w lo hi v l) (c : Ch T w w') (hd : ∀ k, lo ≤ k → k < hi → ¬ T k) : OE w' lo hi v l := by
  obtain ⟨A, cc, h1, h3⟩ := h; exact ⟨A, cc, h1, h3.ch c hd⟩
theorem OE.ext (h : OE w lo hi v l) (c : Ext w w') : OE w' lo hi v l := h.ch c (fun _ _ _ t => t)
theorem OE.rd (h : OE w lo hi v l) : RE w lo hi v l := by obtain ⟨A, cc, h1, h3⟩ := h; exact ⟨A, cc, h1, h3.cap.1, h3.rd⟩
theorem OE.hi_le (h : OE w lo hi v l) : hi ≤ w.heap.size := by obtain ⟨A, cc, h1, h3⟩ := h; exact h3.hi_le
theorem OE.nil (w : World) (k : Nat) (_h : k ≤ w.heap.size) : OE w k w.heap.size (.slice none 0 0) [] := ⟨none, 0, rfl, Own.nil _ _ _ _ _ (Nat.le_refl _)⟩
end
/-- What the entries of a list count for. -/
def totE (l : List Ent) : Int := (l.map fun d => (d.2.length : Int)).sum
theorem totE_nn (l : List Ent) : 0 ≤ totE l := by
  induction l with
  | nil => simp [totE]
  | cons a l ih => simp only [totE, List.map_cons, List.sum_cons] at *; omega
theorem agg_at {w : World} {ad : Addr} {cs : List Value} (h : ∀ j u, cs[j]? = some u → w.cell? (ad.add j) = some u) : ∀ w', Ext w w' → ∀ j u, cs[j]? = some u → w'.cell? (ad.add j) = some u := fun _ e j u hu => Ext.cell e (h j u hu)
end Go.Proofs.YtggaghghclomkaaGreat

/- Contracts of the laws' own helpers on lists of entries: marks. -/
namespace Go.Proofs.YtggaghghclomkaaGreat
open Go.RowKit
attribute [local irreducible] TL TC TN TX TR TQ TA Pu Ret

/-- The marks of entries. -/
def mkE (k : Int) (n : Nat) : List Ent := (List.range n).map fun (i : Nat) => (k + 2 * (i : Int), markT (k + 2 * (i : Int) + 1).toNat)
@[simp] theorem mkE_length (k : Int) (n : Nat) : (mkE k n).length = n := by simp [mkE]
def ME (w : World) (lo hi : Nat) (v : Value) (k : Int) (l : List Ent) : Prop := OE w lo hi v (mkE k l.length)
theorem ME.ch {w w' : World} {lo hi : Nat} {v : Value} {l : List Ent} {k : Int} {T : Nat → Prop} (h : ME w lo hi v k l) (c : Ch T w w') (hd : ∀ k, lo ≤ k → k < hi → ¬ T k) : ME w' lo hi v k l := OE.ch h c hd
theorem ME.ext {w w' : World} {lo hi : Nat} {v : Value} {l : List Ent} {k : Int} (h : ME w lo hi v k l) (c : Ext w w') : ME w' lo hi v k l := OE.ext h c
end Go.Proofs.YtggaghghclomkaaGreat

/- Lists of entries: the plain law. No condition. -/
namespace Go.Proofs.YtggaghghclomkaaGreat
open Go.RowKit
theorem pEntry_iff {e : Int × List UInt8} : pEntry e.1 e.2 = true ↔ 1 ≤ e.1 ∧ e.1 ≤ 1000000000 ∧ 1 ≤ (e.2.length : Int) ∧ (e.2.length : Int) ≤ 1000 := by
  simp [pEntry]; omega
/-! entries -/
def entsOkTo (l : List (Int × List UInt8)) (k : Nat) : Prop := (∀ i, (h : i < l.length) → i < k → pEntry l[i].1 l[i].2 = true) ∧ ∀ i, (h : i + 1 < l.length) → i + 1 < k → l[i].1 + 1 = l[i + 1].1
noncomputable def pEntries (l : List (Int × List UInt8)) : Bool := by classical exact decide (entsOkTo l l.length)
theorem pEntries_iff {l : List (Int × List UInt8)} : pEntries l = true ↔ entsOkTo l l.length := by simp [pEntries]
theorem pEntries_not {l : List (Int × List UInt8)} (h : ¬ entsOkTo l l.length) : pEntries l = false := by simp [pEntries, h]
theorem entsOkTo_zero (l : List (Int × List UInt8)) : entsOkTo l 0 := ⟨fun i _ h => by omega, fun i _ h => by omega⟩
theorem entsOkTo_succ {l : List (Int × List UInt8)} {k : Nat} (h : entsOkTo l k) (hk : k < l.length) (h1 : pEntry l[k].1 l[k].2 = true) (h2 : ∀ (_ : 0 < k), l[k - 1].1 + 1 = l[k].1) : entsOkTo l (k + 1) := by
  refine ⟨fun i hi hik => ?_, fun i hi hik => ?_⟩
  · by_cases e : i = k
    · subst e; exact h1
    · exact h.1 i hi (by omega)
  · by_cases e : i + 1 = k
    · subst e; exact h2 (by omega)
    · exact h.2 i hi (by omega)
def pLast (l : List (Int × List UInt8)) (n : Int) : List (Int × List UInt8) := l.drop (l.length - (min n.toNat l.length))
end Go.Proofs.YtggaghghclomkaaGreat

/- Records: the plain law. No condition. -/
namespace Go.Proofs.YtggaghghclomkaaGreat
open Go.RowKit

def headF (e : Int × List UInt8) : List UInt8 := putR e.2.length 2 ++ putR e.1 4
theorem headF_length (e : Int × List UInt8) : (headF e).length = 6 := by simp [headF]
def frame (e : Int × List UInt8) : List UInt8 := headF e ++ putR (crc (headF e ++ e.2)) 4 ++ e.2
theorem frame_length (e : Int × List UInt8) : (frame e).length = 10 + e.2.length := by simp [frame, headF_length]; omega
def pFrame (e : Int × List UInt8) : List UInt8 × Bool := if pEntry e.1 e.2 = true then (frame e, true) else ([], false)
def noE : Int × List UInt8 := (0, [])
/-- The text of the record at a. -/
def textAt (b : List UInt8) (a n : Nat) : List UInt8 := (b.drop (a + 10)).take n
def pReadF (b : List UInt8) (i : Int) : (Int × List UInt8) × Int × Int :=
  if i < 0 ∨ b.length < i then (noE, 0, 1) else
  let a := i.toNat
  if b.length < a + 10 then (noE, 0, 2) else
  let n := getF b a 2
  if n < 1 ∨ 1000 < n then (noE, 0, 3) else
  if (b.length : Int) < a + 10 + n then (noE, 0, 4) else
  let num := getF b (a + 2) 4
  if num < 1 ∨ 1000000000 < num then (noE, 0, 5) else
  if getF b (a + 6) 4 ≠ crc ((b.drop a).take 6 ++ textAt b a n.toNat) then (noE, 0, 6) else
  ((num, textAt b a n.toNat), i + 10 + n, 0)
theorem cut3 (b : List UInt8) (a p q : Nat) : (b.drop a).take (p + q) = (b.drop a).take p ++ (b.drop (a + p)).take q := by
  rw [List.take_add, List.drop_drop]
/-- The bytes of the record read at a are the record's just if the sum is right. -/
theorem frame_is {b : List UInt8} {a n : Nat} (h : a + 10 + n ≤ b.length) (hn : getF b a 2 = n) :
    (frame (getF b (a + 2) 4, textAt b a n) = (b.drop a).take (10 + n)) ↔ getF b (a + 6) 4 = crc ((b.drop a).take 6 ++ textAt b a n) := by
  have ht : (textAt b a n).length = n := by unfold textAt; rw [List.length_take, List.length_drop]; omega
  have e1 : (b.drop a).take (10 + n) = (b.drop a).take 2 ++ (b.drop (a + 2)).take 4 ++ (b.drop (a + 6)).take 4 ++ textAt b a n := by
    rw [cut3, show 10 = 6 + 4 from rfl, cut3, show (6 : Nat) = 2 + 4 from rfl, cut3]; rfl
  have e2 : (b.drop a).take 6 = (b.drop a).take 2 ++ (b.drop (a + 2)).take 4 := cut3 b a 2 4
  have hh : headF (getF b (a + 2) 4, textAt b a n) = (b.drop a).take 6 := by
    unfold headF
    simp only [ht]
    rw [e2, ← hn, getF_putR (by omega), getF_putR (by omega)]
  have hf : frame (getF b (a + 2) 4, textAt b a n) = (b.drop a).take 6 ++ putR (crc ((b.drop a).take 6 ++ textAt b a n)) 4 ++ textAt b a n := by unfold frame; rw [hh]
  rw [hf, e1, ← e2]
  have hc := crc_lt ((b.drop a).take 6 ++ textAt b a n)
  constructor
  · intro h2
    have h3 := List.append_cancel_right h2
    have h4 := List.append_cancel_left h3
    rw [getF_val b _ 4 (by omega), ← h4, val_putR 4 (by omega) (by omega)]
  · intro h2
    rw [← h2, getF_putR (by omega)]
end Go.Proofs.YtggaghghclomkaaGreat

/- Contracts: checksums. -/
namespace Go.Proofs.YtggaghghclomkaaGreat
open Go.RowKit
attribute [local irreducible] TL TC TN TX TR TQ TA Pu Ret

theorem xorI (a b : Nat) (ha : a < 4294967296) (hb : b < 4294967296) : bitv .xor .i64 (a : Int) (b : Int) = ((a ^^^ b : Nat) : Int) := bit_xor64 a b (by omega) (by omega)
theorem crcBit_odd {r : Nat} (h : r % 2 = 1) : crcBit r = (r / 2) ^^^ 3988292384 := by unfold crcBit; rw [if_pos h]
theorem crcBit_even {r : Nat} (h : ¬ r % 2 = 1) : crcBit r = r / 2 := by unfold crcBit; rw [if_neg h]
set_option maxHeartbeats 2000000 in
theorem specCrc32_k {lo hi : Nat} {vb : Value} {b : List UInt8} {w : World} (hR : RB w lo hi vb b) (hl : b.length ≤ 1048576) :
    Ret Tryz.prog 167 #[vb] w fun v w' => v = I (crc b) ∧ Ext w w' := by
  obtain ⟨A, c, rfl, hc, hr⟩ := hR
  refine Ret_enter Tryz.func167 rfl rfl rfl ?_
  repeat' (first | apply Jbq | apply Jbr | apply Jbs | apply Jbt | apply Jby | (apply Jcg; exact Jab rfl; exact rfl))
  refine TC_loop (ι := Nat) (fun i => [(0, .slice A b.length c), (3, I (crcR 4294967295 (b.take i))), (4, I i)]) (fun i w' => i ≤ b.length ∧ w = w') (fun i => b.length - i) 0 (subEnv_cons rfl (subEnv_cons rfl (subEnv_cons rfl (subEnv_nil _)))) ⟨Nat.zero_le _, rfl⟩ ?_
  rintro i _ ⟨hi, rfl⟩
  repeat' (first | apply Jbq | apply Jbr | apply Jbs | apply Jbt | (apply Jcg; (first | exact Jaa rfl | exact Jac Us.h rfl | exact Jad rfl rfl); exact rfl))
  refine Jcx rfl (fun hb => ?_) (fun hb => ?_)
  · have hlt : i < b.length := by omega
    obtain ⟨ad, rfl, hcell⟩ := hr.get hlt
    rw [u8s_get b hlt] at hcell
    have hx := (b.getD i 0).toNat_lt
    have hR := crcR_lt (b.take i) (r := 4294967295) (by omega)
    repeat' (first | apply Jbq | apply Jbr | apply Jbs | apply Jbt | apply Jby | apply Jbz | (apply Jcg; (first | exact Jaa rfl | exact Jab rfl | exact Jag Us.h Sz.h rfl rfl (by omega) | exact Jax Us.h Us.h rfl (by omega)); exact rfl) | refine Jcg (Pu_load Fl.h rfl (fun _ e => by rw [e]; exact hcell)) rfl ?_ | refine Jcg (Pu_xor rfl rfl) rfl ?_)
    rw [xorI _ _ hR (by omega)]
    obtain ⟨x, hxx⟩ : ∃ x, x = crcR 4294967295 (b.take i) ^^^ (b.getD i 0).toNat := ⟨_, rfl⟩
    have hxl : x < 4294967296 := by rw [hxx]; exact xor8_lt hR _
    rw [← hxx]
    refine TC_loop (ι := Nat) (fun k => [(0, .slice (some ad) b.length c), (3, I (crcBits x k)), (4, I i), (5, I k)]) (fun k w' => k ≤ 8 ∧ w = w') (fun k => 8 - k) 0 (subEnv_cons rfl (subEnv_cons rfl (subEnv_cons rfl (subEnv_cons rfl (subEnv_nil _))))) ⟨Nat.zero_le _, rfl⟩ ?_
    rintro k _ ⟨hk, rfl⟩
    have hk2 := crcBits_lt hxl k
    repeat' (first | apply Jbq | apply Jbr | apply Jbs | apply Jbt | (apply Jcg; (first | exact Jaa rfl | exact Jad rfl rfl); exact rfl))
    refine Jcx rfl (fun hb => ?_) (fun hb => ?_)
    · repeat' (first | apply Jbq | apply Jbr | apply Jbs | apply Jbt | apply Jby | apply Jbz | (apply Jcg; (first | exact Jaa rfl | exact Jab rfl | exact Jak rfl rfl | exact Jbi rfl rfl (by omega) | exact Jbj rfl rfl (by omega)); exact rfl))
      refine Jcx rfl (fun ho => ?_) (fun ho => ?_)
      · repeat' (first | apply Jbq | apply Jbr | apply Jbt | apply Jbx | (apply Jcg; (first | exact Jaa rfl | exact Jab rfl | exact Jaf rfl rfl (by omega)); exact rfl) | refine Jcg (Pu_xor rfl rfl) rfl ?_)
        have e : bitv .xor .i64 ((crcBits x k : Int) / 2) 3988292384 = (crcBits x (k + 1) : Nat) := by
          have := xorI (crcBits x k / 2) 3988292384 (by omega) (by omega)
          rw [crcBits, crcBit_odd (by omega)]
          exact this
        rw [e]
        exact TN_round (k + 1) (subEnv_cons rfl (subEnv_cons rfl (subEnv_cons rfl (subEnv_cons rfl (subEnv_nil _))))) ⟨by omega, rfl⟩ (by omega)
      · repeat' (first | apply Jbq | apply Jbr | apply Jbt | apply Jbx | apply Jbz | (apply Jcg; (first | exact Jaa rfl | exact Jab rfl | exact Jaf rfl rfl (by omega)); exact rfl))
        have e : (crcBits x k : Int) / 2 = (crcBits x (k + 1) : Nat) := by
          rw [crcBits, crcBit_even (by omega)]; omega
        rw [e]
        exact TN_round (k + 1) (subEnv_cons rfl (subEnv_cons rfl (subEnv_cons rfl (subEnv_cons rfl (subEnv_nil _))))) ⟨by omega, rfl⟩ (by omega)
    · obtain rfl : k = 8 := by omega
      have e : crcBits x 8 = crcR 4294967295 (b.take (i + 1)) := by rw [crcR_take hlt, hxx]; rfl
      rw [e]
      repeat' (first | apply Jbq | apply Jbr | apply Jbt | apply Jbx | apply Jca | apply Jcb | apply Jcc | (apply Jcg; (first | exact Jaa rfl | exact Jab rfl | exact Jaf rfl rfl (by omega)); exact rfl))
      exact TN_round (i + 1) (subEnv_cons rfl (subEnv_cons rfl (subEnv_cons rfl (subEnv_nil _)))) ⟨by omega, rfl⟩ (by omega)
  · obtain rfl : i = b.length := by omega
    rw [List.take_length]
    repeat' (first | apply Jbq | apply Jbr | apply Jbs | apply Jbt | apply Jbu | apply Jca | apply Jcb | apply Jcc | (apply Jcg; (first | exact Jaa rfl | exact Jab rfl); exact rfl) | refine Jcg (Pu_xor rfl rfl) rfl ?_)
    exact TR_of (res1 rfl rfl) ⟨congrArg I (xorI _ 4294967295 (crcR_lt b (by omega)) (by omega)), Ch.refl _ _⟩
theorem xorU (a b : Nat) (ha : a < 4294967296) (hb : b < 4294967296) : bitv .xor .u32 (a : Int) (b : Int) = ((a ^^^ b : Nat) : Int) := bit_xor32 a b ha hb
theorem shr1 (a : Nat) : (a : Int).fdiv (2 ^ min (1 : Int).toNat IntKind.u32.bits) = ((a / 2 : Nat) : Int) := by
  rw [Int.fdiv_eq_ediv_of_nonneg _ (by exact Int.pow_nonneg (by omega)), show (2 : Int) ^ min (1 : Int).toNat IntKind.u32.bits = 2 from by decide]; omega
theorem wrapU (x : UInt8) : IntKind.u32.wrap (x.toNat : Int) = (x.toNat : Int) := by have := x.toNat_lt; rw [IntKind.wrap_u32]; omega
set_option maxHeartbeats 2000000 in
theorem implCrc32_k {lo hi : Nat} {vb : Value} {b : List UInt8} {w : World} (hR : RB w lo hi vb b) (hl : b.length ≤ 1048576) :
    Ret Tryz.prog 164 #[vb] w fun v w' => v = I (crc b) ∧ Ext w w' := by
  obtain ⟨A, c, rfl, hc, hr⟩ := hR
  refine Ret_enter Tryz.func164 rfl rfl rfl ?_
  repeat' (first | apply Jbq | apply Jbr | apply Jbs | apply Jbt | apply Jby | (apply Jcg; (first | exact Jaa rfl | exact Jab rfl | exact Jac Us.h rfl); exact rfl))
  refine TC_loop (ι := Nat) (fun i => [(3, .int .u32 (crcR 4294967295 (b.take i) : Nat)), (7, .slice A b.length c), (8, I b.length), (9, I i)]) (fun i w' => i ≤ b.length ∧ w = w') (fun i => b.length - i) 0 (subEnv_cons rfl (subEnv_cons rfl (subEnv_cons rfl (subEnv_cons rfl (subEnv_nil _))))) ⟨Nat.zero_le _, rfl⟩ ?_
  rintro i _ ⟨hi, rfl⟩
  repeat' (first | apply Jbq | apply Jbr | apply Jbs | apply Jbt | (apply Jcg; exact Jad rfl rfl; exact rfl))
  refine Jcx rfl (fun hb => ?_) (fun hb => ?_)
  · have hlt : i < b.length := by omega
    obtain ⟨ad, rfl, hcell⟩ := hr.get hlt
    rw [u8s_get b hlt] at hcell
    have hx := (b.getD i 0).toNat_lt
    have hR := crcR_lt (b.take i) (r := 4294967295) (by omega)
    repeat' (first | apply Jbq | apply Jbr | apply Jbs | apply Jbt | apply Jby | apply Jbz | (apply Jcg; (first | exact Jaa rfl | exact Jab rfl | exact Jag Us.h Sz.h rfl rfl (by omega)); exact rfl) | refine Jcg (Pu_load Fl.h rfl (fun _ e => by rw [e]; exact hcell)) rfl ?_ | refine Jcg (Pu_xor rfl rfl) rfl ?_ | refine Jcg (Pu_convw (k2 := .u32) Us.h Us.h rfl) rfl ?_)
    rw [wrapU, xorU _ _ hR (by omega)]
    obtain ⟨x, hxx⟩ : ∃ x, x = crcR 4294967295 (b.take i) ^^^ (b.getD i 0).toNat := ⟨_, rfl⟩
    have hxl : x < 4294967296 := by rw [hxx]; exact xor8_lt hR _
    rw [← hxx]
    refine TC_loop (ι := Nat) (fun k => [(3, .int .u32 (crcBits x k : Nat)), (7, .slice (some ad) b.length c), (8, I b.length), (9, I i), (17, I k)]) (fun k w' => k ≤ 8 ∧ w = w') (fun k => 8 - k) 0 (subEnv_cons rfl (subEnv_cons rfl (subEnv_cons rfl (subEnv_cons rfl (subEnv_cons rfl (subEnv_nil _)))))) ⟨Nat.zero_le _, rfl⟩ ?_
    rintro k _ ⟨hk, rfl⟩
    have hk2 := crcBits_lt hxl k
    repeat' (first | apply Jbq | apply Jbr | apply Jbs | apply Jbt | (apply Jcg; exact Jad rfl rfl; exact rfl))
    refine Jcx rfl (fun hb => ?_) (fun hb => ?_)
    · repeat' (first | apply Jbq | apply Jbr | apply Jbs | apply Jbt | apply Jby | apply Jbz | (apply Jcg; (first | exact Jaa rfl | exact Jab rfl | exact Jak rfl rfl); exact rfl) | refine Jcg (Pu_and rfl rfl) rfl ?_ | refine Jcg (Pu_shr rfl rfl (by omega)) rfl ?_)
      rw [and_one32 _ hk2, shr1]
      skip
      refine Jcx rfl (fun ho => ?_) (fun ho => ?_)
      · repeat' (first | apply Jbq | apply Jbr | apply Jbt | apply Jbx | (apply Jcg; (first | exact Jaa rfl | exact Jab rfl | exact Jaf rfl rfl (by omega)); exact rfl) | refine Jcg (Pu_xor rfl rfl) rfl ?_)
        have e : bitv .xor .u32 ((crcBits x k / 2 : Nat) : Int) 3988292384 = (crcBits x (k + 1) : Nat) := by
          have := xorU (crcBits x k / 2) 3988292384 (by omega) (by omega)
          rw [crcBits, crcBit_odd (by omega)]
          exact this
        rw [e]
        exact TN_round (k + 1) (subEnv_cons rfl (subEnv_cons rfl (subEnv_cons rfl (subEnv_cons rfl (subEnv_cons rfl (subEnv_nil _)))))) ⟨by omega, rfl⟩ (by omega)
      · repeat' (first | apply Jbq | apply Jbr | apply Jbt | apply Jbx | apply Jbz | (apply Jcg; (first | exact Jaa rfl | exact Jaf rfl rfl (by omega)); exact rfl))
        have e : ((crcBits x k / 2 : Nat) : Int) = (crcBits x (k + 1) : Nat) := by
          rw [crcBits, crcBit_even (by omega)]
        rw [e]
        exact TN_round (k + 1) (subEnv_cons rfl (subEnv_cons rfl (subEnv_cons rfl (subEnv_cons rfl (subEnv_cons rfl (subEnv_nil _)))))) ⟨by omega, rfl⟩ (by omega)
    · obtain rfl : k = 8 := by omega
      have e : crcBits x 8 = crcR 4294967295 (b.take (i + 1)) := by rw [crcR_take hlt, hxx]; rfl
      rw [e]
      repeat' (first | apply Jbq | apply Jbr | apply Jbt | apply Jbx | apply Jca | apply Jcb | apply Jcc | (apply Jcg; (first | exact Jaa rfl | exact Jaf rfl rfl (by omega)); exact rfl))
      exact TN_round (i + 1) (subEnv_cons rfl (subEnv_cons rfl (subEnv_cons rfl (subEnv_cons rfl (subEnv_nil _))))) ⟨by omega, rfl⟩ (by omega)
  · obtain rfl : i = b.length := by omega
    rw [List.take_length]
    have hR := crcR_lt b (r := 4294967295) (by omega)
    have hcl := crc_lt b
    repeat' (first | apply Jbr | apply Jbs | apply Jbt | apply Jca | apply Jcb | apply Jcc | (apply Jcg; exact Jaa rfl; exact rfl) | refine Jcg (Pu_com rfl) rfl ?_)
    have e : bitv .xor .u32 (if IntKind.u32.signed then -1 else IntKind.u32.max) (crcR 4294967295 b : Nat) = (crc b : Nat) := by
      have := xorU 4294967295 (crcR 4294967295 b) (by omega) hR
      rw [Nat.xor_comm] at this
      exact this
    rw [e]
    repeat' (first | apply Jbq | apply Jbr | apply Jbu | (apply Jcg; (first | exact Jab rfl | exact Jax Us.h Us.h rfl (by omega)); exact rfl))
    exact TR_of (res1 rfl rfl) ⟨rfl, Ch.refl _ _⟩
end Go.Proofs.YtggaghghclomkaaGreat

/- append of a text onto own bytes. No condition. -/
namespace Go.Proofs.YtggaghghclomkaaGreat
open Go.RowKit
theorem strCells_u8s (s : List UInt8) : Lib.strCells ⟨s.toArray⟩ = u8s s := by simp [Lib.strCells, u8s]
section
variable {P : Program} {L : List Oper} {Q : Exit → Act → World → Prop} {n d : Nat} {l : Env} {w : World} {rest : List Oper} {ty : TypeId} {pos : String} {af : Array Edge} {v v2 : Value} {x y : Operand} {t u : TypeId}
theorem TL_appendS {lo hi : Nat} {s s2 : List UInt8} (ht : Tryz.prog.underlying t = some (.slice 5)) (hu : Tryz.prog.underlying u = some .string) (hx : ev l x = some v) (hy : ev l y = some (S s2)) (ho : OB w lo hi v s)
    (hlo : lo ≤ w.heap.size) (hm : s.length + s2.length ≤ 17592186044416) (hn : Nat.blt d n = true)
    (h : ∀ w' v', Ch (Iv lo hi) w w' → OB w' lo w'.heap.size v' (s ++ s2) → TL Tryz.prog L Q rest n ((d, v') :: l) w') :
    TL Tryz.prog L Q (⟨some d, .call { callee := .builtin .append, args := #[x, y], argTypes := #[t, u] }, ty, pos, af, none⟩ :: rest) n l w := by
  obtain ⟨A, c, rfl, ho⟩ := ho
  have hi0 := inf5
  cases hq : Tryz.prog.info? 5 with
  | none => simp [hq] at hi0
  | some inf =>
    simp only [hq, Option.map_some, Option.some.injEq, Prod.mk.injEq] at hi0
    obtain ⟨e1, e2, e3⟩ := hi0
    have hsz : (ByteArray.mk s2.toArray).size = s2.length := by simp [ByteArray.size]
    obtain ⟨v', w', hrun, hown, hg, _⟩ := Lib.run_append_own_string (P := Tryz.prog) w lo t u ty 5 inf ht hu hq e1 e2 e3 (.slice A s.length c) s.length (u8s s) ho.row ⟨s2.toArray⟩ (by rw [hsz]; simp only [maxLen]; omega) (by rw [hsz]; omega) hlo
    rw [hsz, strCells_u8s] at hown
    have hch : Ch (Iv lo hi) w w' := Ch.of_grown hg (fun k hk => by
      rcases A with _ | a1
      · simp [Value.ownBlock] at hk
      · simp [Value.ownBlock] at hk
        subst hk
        exact ⟨ho.ge _ rfl, ho.lt _ rfl⟩)
    have hob : OB w' lo w'.heap.size v' (s ++ s2) := by
      have hl : (s ++ s2).length = s.length + s2.length := List.length_append
      have hu8 : u8s (s ++ s2) = u8s s ++ u8s s2 := by simp [u8s]
      rcases hown.2 with ⟨hv, h0⟩ | ⟨g, cap, cur, hv, hgl, hgg, hrest⟩
      · refine ⟨none, 0, by rw [hv, hl, h0], ⟨Nat.le_refl _, ?_, fun ad h => by cases h⟩⟩
        rw [hl, hu8, h0, ← hv]
        rw [h0] at hown
        exact hown
      · refine ⟨some ⟨g, 0, none⟩, cap, by rw [hv, hl], ⟨Nat.le_refl _, ?_, fun ad h => ?_⟩⟩
        · rw [hl, hu8, ← hv]; exact hown
        · injection h with h; subst h; exact (Array.getElem?_eq_some_iff.1 hgg).1
    refine TL_run (w' := w') rfl rfl hn (fun a hs => ?_) (h w' v' hch hob)
    simp only [execOp, resolve, invoke, builtin, Sem.run_bind, Sem.run_pure, Result.andThen_ok, List.map_toArray, List.map_cons, List.map_nil, hs.eval hx, hs.eval hy, hrun]
end
end Go.Proofs.YtggaghghclomkaaGreat

/- Contracts: a record's bytes. -/
namespace Go.Proofs.YtggaghghclomkaaGreat
open Go.RowKit
attribute [local irreducible] TL TC TN TX TR TQ TA Pu Ret

theorem pFrame_no {e : Int × List UInt8} (h : pEntry e.1 e.2 = false) : pFrame e = ([], false) := by unfold pFrame; rw [if_neg (by simp [h])]
theorem pFrame_yes {e : Int × List UInt8} (h : pEntry e.1 e.2 = true) : pFrame e = (frame e, true) := by unfold pFrame; rw [if_pos h]
set_option maxHeartbeats 2000000 in
theorem implFrameBytes_c (e : Int × List UInt8) (w : World) :
    Ret Tryz.prog 118 #[.agg #[I e.1, S e.2]] w fun v w' => ∃ v', v = .tuple #[v', .bool (pFrame e).2] ∧ Ext w w' ∧ OB w' w.heap.size w'.heap.size v' (pFrame e).1 := by
  obtain ⟨num, text⟩ := e
  refine Ret_enter Tryz.func118 rfl rfl rfl ?_
  repeat' (first | apply Jbs | apply Jbt)
  refine TL_box (cs := [I num, S text]) rfl rfl ?_
  intro w1 g E hg hz1 hbk
  have hgw : g < w1.heap.size := by omega
  clear hz1
  repeat' (first | apply Jbq | apply Jbr | apply Jbs | apply Jbt | (apply Jcg; exact Jab rfl; exact rfl) | refine Jcg (Pu_loadAgg (cs := [I num, S text]) Us.h rfl Sz.h rfl (fun _ e j u hu => by rw [e, add0, hbk.cell]; exact hu)) rfl ?_)
  refine TL_call rfl en155 (implEntryOk_c num text _) rfl rfl ?_
  rintro _ w2 ⟨rfl, e2⟩
  replace hbk := hbk.ext e2
  replace E := E.ext e2
  cases hp : pEntry num text
  · rw [pFrame_no hp]
    repeat' (first | apply Jbq | apply Jbr | apply Jbs | apply Jbt | apply Jbu | apply Jbv | (refine Jce rfl ?_) | (apply Jcg; (first | exact Jab rfl | exact Jaj rfl); exact rfl))
    exact TR_of (res2 rfl rfl rfl) ⟨_, rfl, E, OB.nil _ _ E.size⟩
  · have hb := (pEntry_iff (e := (num, text))).1 hp
    simp only at hb
    rw [pFrame_yes hp]
    have hs2 := e2.size
    repeat' (first | apply Jbq | apply Jbr | apply Jbs | apply Jbz | (refine Jcf rfl ?_) | (apply Jcg; exact Jaj rfl; exact rfl))
    refine TC_any mixed rfl ?_
    intro w3 hE hz3
    (refine Jco 0 rfl (by kernel_rfl) (by kernel_rfl) (by kernel_rfl) (fun _ _ _ h => h) hE (by (apply Jbl; exact Us.h; exact rfl; exact Sz.h; exact rfl)) rfl ?_; refine Jco 1 rfl (by kernel_rfl) (by kernel_rfl) (by kernel_rfl) (fun _ _ _ h => h) hE (by exact Pu_load Fl.h rfl (fun _ e => Ext.cell e (hbk.ld rfl))) rfl ?_; refine Jco 2 rfl (by kernel_rfl) (by kernel_rfl) (by kernel_rfl) (fun _ _ _ h => h) hE (by exact Jaq Us.h rfl) rfl ?_; refine Jco 4 rfl (by kernel_rfl) (by kernel_rfl) (by kernel_rfl) (fun _ _ _ h => h) hE (by (apply Jbl; exact Us.h; exact rfl; exact Sz.h; exact rfl)) rfl ?_; refine Jco 5 rfl (by kernel_rfl) (by kernel_rfl) (by kernel_rfl) (fun _ _ _ h => h) hE (by exact Pu_load Fl.h rfl (fun _ e => Ext.cell e (hbk.ld rfl))) rfl ?_)
    refine TA_one 3 (by kernel_rfl) rfl ?_
    refine TL_call rfl en163 (putNum_c (lo := w3.heap.size) (k := 2) (OB.nil w3 _ (Nat.le_refl _)) (Nat.le_refl _) (by simp) (by omega)) rfl rfl ?_
    intro v4 w4 ⟨c4, ho4⟩
    have hE4 : Ext w2 w4 := Ext.then_iv hE c4 hE.size
    refine Jbq (TN_any hE4 ?_)
    refine TA_one 6 (by kernel_rfl) rfl ?_
    refine TL_call rfl en163 (putNum_c (lo := w3.heap.size) (k := 4) ho4 c4.size (by simp) (by omega)) rfl rfl ?_
    intro v5 w5 ⟨c5, ho5⟩
    have hE5 : Ext w2 w5 := Ext.then_iv hE4 c5 hE.size
    refine Jbq (TN_any hE5 ?_)
    have hs3 := hE.size
    clear hE
    have hE := hE5
    (refine Jco 7 rfl (by kernel_rfl) (by kernel_rfl) (by kernel_rfl) (fun _ _ _ h => h) hE (by exact Jab rfl) rfl ?_)
    refine TA_done (by kernel_rfl) ?_
    have hhead : ([] ++ putR (text.length : Int) 2 ++ putR num 4) = headF (num, text) := by simp [headF]
    rw [hhead] at ho5
    have hs5 := hE5.size
    have hs4 := c4.size
    have hs45 := c5.size
    replace hbk := hbk.ext hE5
    replace E := E.ext hE5
    clear c4 c5 ho4 hE hE4 hE5
    repeat' (first | apply Jbr | apply Jbs)
    refine TC_any mixed rfl ?_
    intro w6 hE hz6
    (refine Jco 0 rfl (by kernel_rfl) (by kernel_rfl) (by kernel_rfl) (fun _ _ _ h => h) hE (by exact Jaa rfl) rfl ?_; refine Jco 2 rfl (by kernel_rfl) (by kernel_rfl) (by kernel_rfl) (fun _ _ _ h => h) hE (by (apply Jbl; exact Us.h; exact rfl; exact Sz.h; exact rfl)) rfl ?_; refine Jco 3 rfl (by kernel_rfl) (by kernel_rfl) (by kernel_rfl) (fun _ _ _ h => h) hE (by exact Pu_load Fl.h rfl (fun _ e => Ext.cell e (hbk.ld rfl))) rfl ?_)
    refine TA_one 1 (by kernel_rfl) rfl ?_
    obtain ⟨A5, k5, hv5, hr5⟩ : ∃ A c, v5 = .slice A (headF (num, text)).length c ∧ Rd w5 w3.heap.size w5.heap.size 1 A (headF (num, text)).length (u8s (headF (num, text))) := by obtain ⟨A, c, h, _, hr⟩ := ho5.rd; exact ⟨A, c, h, hr⟩
    have hhl := headF_length (num, text)
    rw [hv5]
    refine TL_call rfl en71 (copyBytes_c (hr5.ext hE) (by omega)) rfl rfl ?_
    rintro _ w7 ⟨A7, k7, rfl, e7, ho7⟩
    have hE7 := hE.ext e7
    refine Jbq (TN_any hE7 ?_)
    refine TA_one 4 (by kernel_rfl) rfl ?_
    refine TL_appendS Us.h Us.h rfl rfl ⟨_, _, rfl, ho7⟩ e7.size (by omega) rfl ?_
    intro w8 v8 c8 ho8
    have hE8 : Ext w5 w8 := Ext.then_iv hE7 c8 hE.size
    refine Jbq (TN_any hE8 ?_)
    refine TA_one 5 (by kernel_rfl) rfl ?_
    refine TL_call rfl en164 (implCrc32_k ho8.rd (by simp only [List.length_append]; omega)) rfl rfl ?_
    rintro _ w9 ⟨rfl, e9⟩
    have hE9 := hE8.ext e9
    refine Jbq (TN_any hE9 ?_)
    clear hE
    have hE := hE9
    (refine Jco 6 rfl (by kernel_rfl) (by kernel_rfl) (by kernel_rfl) (fun _ _ _ h => h) hE (by exact Jab rfl) rfl ?_)
    refine TA_done (by kernel_rfl) ?_
    replace ho5 := ho5.ext hE9
    replace hbk := hbk.ext hE9
    replace E := E.ext hE9
    have hs9 := hE9.size
    rw [← hv5]
    clear hE hE7 hE8 hE9 ho7 ho8 c8 e7 e9 hr5 hv5
    repeat' (first | apply Jbr | apply Jbs)
    refine TC_anyS (Ch (Iv w3.heap.size w9.heap.size) w9) mixed rfl (Ch.refl _ _).drew ?_
    intro w10 hE0 hz10 hE
    have hld : ∀ w', Ch (Iv w3.heap.size w9.heap.size) w9 w' → w'.cell? ((⟨g, 0, none⟩ : Addr).add 1) = some (S text) := fun w' k => (hbk.ch k (by simp only [Iv]; omega)).ld rfl
    (refine Jco 0 rfl (by kernel_rfl) (by kernel_rfl) (by kernel_rfl) (fun _ _ _ h => h) hE (by exact Jaa rfl) rfl ?_; refine Jco 1 rfl (by kernel_rfl) (by kernel_rfl) (by kernel_rfl) (fun _ _ _ h => h) hE (by exact Jaa rfl) rfl ?_; refine Jco 3 rfl (by kernel_rfl) (by kernel_rfl) (by kernel_rfl) (fun _ _ _ h => h) hE (by (apply Jbl; exact Us.h; exact rfl; exact Sz.h; exact rfl)) rfl ?_; refine Jco 4 rfl (by kernel_rfl) (by kernel_rfl) (by kernel_rfl) (fun _ _ _ h => h) hE (by exact Pu_load Fl.h rfl hld) rfl ?_)
    refine TA_one 2 (by kernel_rfl) rfl ?_
    obtain ⟨A9, k9, hv9, ho9⟩ := ho5.ext hE0
    refine TL_call rfl en163 (putNum_c (lo := w3.heap.size) (k := 4) ⟨A9, k9, hv9, ho9.wide (Nat.le_refl _) (by omega) (Nat.le_refl _)⟩ (by omega) (by omega) (by omega)) rfl rfl ?_
    intro v11 w11 ⟨c11, ho11⟩
    have hE11 : Ch (Iv w3.heap.size w9.heap.size) w9 w11 := hE.trans c11 (fun _ _ t => t) (fun i hi t => ⟨t.1, hi⟩)
    refine Jbq (TN_any hE11 ?_)
    refine TA_one 5 (by kernel_rfl) rfl ?_
    have hs11 := hE11.size
    refine TL_appendS Us.h Us.h rfl rfl ho11 (by omega) (by simp only [List.length_append, putR_length]; omega) rfl ?_
    intro w12 v12 c12 ho12
    have hE12 : Ch (Iv w3.heap.size w9.heap.size) w9 w12 := hE11.trans c12 (fun _ _ t => t) (fun i hi t => ⟨t.1, hi⟩)
    refine Jbq (TN_any hE12 ?_)
    clear hE hE11
    have hE := hE12
    (refine Jco 6 rfl (by kernel_rfl) (by kernel_rfl) (by kernel_rfl) (fun _ _ _ h => h) hE (by exact Jab rfl) rfl ?_; refine Jco 7 rfl (by kernel_rfl) (by kernel_rfl) (by kernel_rfl) (fun _ _ _ h => h) hE (by exact Jab rfl) rfl ?_)
    refine TA_done (by kernel_rfl) ?_
    repeat' (first | apply Jbr | apply Jbu)
    obtain ⟨A, c, hv, hown⟩ := ho12
    exact TR_of (res2 rfl rfl rfl) ⟨_, rfl, Ext.then_iv E hE12 (by omega), A, c, hv, hown.wide (by omega) (Nat.le_refl _) (Nat.le_refl _)⟩
theorem pPut_in {b : List UInt8} {n size : Int} (h : 1 ≤ size ∧ size ≤ 4 ∧ 0 ≤ n ∧ n < 256 ^ size.toNat ∧ (b.length : Int) + size ≤ 65536) : (pPut b n size).1 = b ++ putR n size.toNat := by rw [pPut_yes h]
theorem RB.nil (w : World) : RB w 0 0 (.slice none 0 0) [] := ⟨none, 0, rfl, Nat.le_refl _, by simp [u8s], Nat.zero_le _, fun h => by simp at h⟩
set_option maxHeartbeats 2000000 in
theorem specFrameBytes_c (e : Int × List UInt8) (w : World) :
    Ret Tryz.prog 121 #[.agg #[I e.1, S e.2]] w fun v w' => ∃ v', v = .tuple #[v', .bool (pFrame e).2] ∧ Ext w w' ∧ OB w' w.heap.size w'.heap.size v' (pFrame e).1 := by
  obtain ⟨num, text⟩ := e
  refine Ret_enter Tryz.func121 rfl rfl rfl ?_
  repeat' (first | apply Jbs | apply Jbt)
  refine TL_box (cs := [I num, S text]) rfl rfl ?_
  intro w1 g E hg hz1 hbk
  have hgw : g < w1.heap.size := by omega
  clear hz1
  repeat' (first | apply Jbq | apply Jbr | apply Jbs | apply Jbt | (apply Jcg; exact Jab rfl; exact rfl) | refine Jcg (Pu_loadAgg (cs := [I num, S text]) Us.h rfl Sz.h rfl (fun _ e j u hu => by rw [e, add0, hbk.cell]; exact hu)) rfl ?_)
  refine TL_call rfl en165 (specEntryOk_c num text _) rfl rfl ?_
  rintro _ w2 ⟨rfl, e2⟩
  replace hbk := hbk.ext e2
  replace E := E.ext e2
  cases hp : pEntry num text
  · rw [pFrame_no hp]
    repeat' (first | apply Jbq | apply Jbr | apply Jbs | apply Jbt | apply Jbu | apply Jbv | (refine Jce rfl ?_) | (apply Jcg; (first | exact Jab rfl | exact Jaj rfl); exact rfl))
    exact TR_of (res2 rfl rfl rfl) ⟨_, rfl, E, OB.nil _ _ E.size⟩
  · have hb := (pEntry_iff (e := (num, text))).1 hp
    simp only at hb
    rw [pFrame_yes hp]
    have hs2 := e2.size
    clear e2
    repeat' (first | apply Jbq | apply Jbr | apply Jbs | apply Jbt | apply Jbz | (refine Jcf rfl ?_) | (apply Jcg; (first | exact Jaj rfl | exact Jaq Us.h rfl | (apply Jbl; exact Us.h; exact rfl; exact Sz.h; exact rfl)); exact rfl) | refine Jcg (Pu_load Fl.h rfl (fun _ e => by rw [e]; exact hbk.ld rfl)) rfl ?_)
    refine TL_call rfl en166 (specPutNum_k (RB.nil _) (by simp)) rfl rfl ?_
    rintro _ w3 ⟨v3, rfl, e3, ho3⟩
    rw [pPut_in (by simp; omega)] at ho3
    replace hbk := hbk.ext e3
    replace E := E.ext e3
    have hs3 := e3.size
    clear e3
    repeat' (first | apply Jbq | apply Jbr | apply Jbs | apply Jbt | (apply Jcg; (first | exact Jaa rfl | exact Jab rfl | exact Jae rfl rfl | (apply Jbl; exact Us.h; exact rfl; exact Sz.h; exact rfl)); exact rfl) | refine Jcg (Pu_load Fl.h rfl (fun _ e => by rw [e]; exact hbk.ld rfl)) rfl ?_)
    refine TL_call rfl en166 (specPutNum_k ho3.rd (by simp)) rfl rfl ?_
    rintro _ w4 ⟨v4, rfl, e4, ho4⟩
    rw [pPut_in (by simp; omega), show [] ++ putR (text.length : Int) (2 : Int).toNat ++ putR num (4 : Int).toNat = headF (num, text) from by simp [headF]] at ho4
    replace hbk := hbk.ext e4
    replace E := E.ext e4
    have hs4 := e4.size
    clear e4 ho3
    have hhl := headF_length (num, text)
    repeat' (first | apply Jbq | apply Jbr | apply Jbs | (apply Jcg; (first | exact Jaa rfl | exact Jab rfl | exact Jae rfl rfl); exact rfl))
    refine TC_any mixed rfl ?_
    intro w5 hE hz5
    (refine Jco 1 rfl (by kernel_rfl) (by kernel_rfl) (by kernel_rfl) (fun _ _ _ h => h) hE (by exact Jaa rfl) rfl ?_; refine Jco 3 rfl (by kernel_rfl) (by kernel_rfl) (by kernel_rfl) (fun _ _ _ h => h) hE (by (apply Jbl; exact Us.h; exact rfl; exact Sz.h; exact rfl)) rfl ?_; refine Jco 4 rfl (by kernel_rfl) (by kernel_rfl) (by kernel_rfl) (fun _ _ _ h => h) hE (by exact Pu_load Fl.h rfl (fun _ e => Ext.cell e (hbk.ld rfl))) rfl ?_)
    refine TA_one 0 (by kernel_rfl) rfl ?_
    refine TL_buildSlice0 Us.h Sz.h rfl ?_
    intro w6 g6 e6 hg6 hz6 hown6
    have hE6 := hE.ext e6
    refine Jbq (TN_any hE6 ?_)
    refine TA_one 2 (by kernel_rfl) rfl ?_
    refine TL_appendB Us.h rfl rfl (OB_new (s := []) rfl hown6 hg6 hz6) (ho4.ext hE6).rd e6.size (by simp only [List.length_nil]; omega) rfl ?_
    intro w7 v7 c7 ho7
    have hE7 : Ext w4 w7 := Ext.then_iv hE6 c7 hE.size
    refine Jbq (TN_any hE7 ?_)
    refine TA_one 5 (by kernel_rfl) rfl ?_
    refine TL_appendS Us.h Us.h rfl rfl ho7 (by have := e6.size; have := c7.size; omega) (by simp only [List.nil_append]; omega) rfl ?_
    intro w8 v8 c8 ho8
    have hE8 : Ext w4 w8 := Ext.then_iv hE7 c8 hE.size
    refine Jbq (TN_any hE8 ?_)
    refine TA_one 6 (by kernel_rfl) rfl ?_
    refine TL_call rfl en167 (specCrc32_k ho8.rd (by simp only [List.nil_append, List.length_append]; omega)) rfl rfl ?_
    rintro _ w9 ⟨rfl, e9⟩
    have hE9 := hE8.ext e9
    refine Jbq (TN_any hE9 ?_)
    clear hE
    have hE := hE9
    (refine Jco 7 rfl (by kernel_rfl) (by kernel_rfl) (by kernel_rfl) (fun _ _ _ h => h) hE (by exact Jab rfl) rfl ?_)
    refine TA_done (by kernel_rfl) ?_
    rw [List.nil_append]
    have hcl := crc_lt (headF (num, text) ++ text)
    replace ho4 := ho4.ext hE9
    replace hbk := hbk.ext hE9
    replace E := E.ext hE9
    have hs9 := hE9.size
    clear hE hE6 hE7 hE8 hE9 ho7 ho8 c7 c8 e6 e9
    repeat' (first | apply Jbr | apply Jbs | apply Jbt | (apply Jcg; exact Jaa rfl; exact rfl))
    refine TL_call rfl en166 (specPutNum_k ho4.rd (by omega)) rfl rfl ?_
    rintro _ w10 ⟨v10, rfl, e10, ho10⟩
    rw [pPut_in (by simp; omega)] at ho10
    replace hbk := hbk.ext e10
    replace E := E.ext e10
    have hs10 := e10.size
    repeat' (first | apply Jbq | apply Jbr | apply Jbs | apply Jbt | (apply Jcg; (first | exact Jaa rfl | exact Jab rfl | exact Jae rfl rfl | (apply Jbl; exact Us.h; exact rfl; exact Sz.h; exact rfl)); exact rfl) | refine Jcg (Pu_load Fl.h rfl (fun _ e => by rw [e]; exact hbk.ld rfl)) rfl ?_)
    refine TL_appendS Us.h Us.h rfl rfl ho10 (by omega) (by simp only [List.length_append, putR_length]; omega) rfl ?_
    intro w11 v11 c11 ho11
    repeat' (first | apply Jbq | apply Jbr | apply Jbu | (apply Jcg; exact Jab rfl; exact rfl))
    obtain ⟨A, c, hv, hown⟩ := ho11
    exact TR_of (res2 rfl rfl rfl) ⟨_, rfl, Ext.then_iv E c11 (by omega), A, c, hv, hown.wide (by omega) (Nat.le_refl _) (Nat.le_refl _)⟩
end Go.Proofs.YtggaghghclomkaaGreat
