/- Texts of this proof laid together, in the order in which they build; what each proves stands ahead of it. No condition but those told there. -/
import Derived.Test.YtggaghghclomkaaGreatQFEOFT25e

/- Contracts: directories and files of a disk. -/
namespace Go.Proofs.YtggaghghclomkaaGreat
open Go.RowKit
/-! ### the plain law -/
def nAtF (id : Int) : Nat → List NodeP → Int
  | _, [] => -1
  | k, p :: r => if p.1 = id then (k : Int) else nAtF id (k + 1) r
def nAt (l : List NodeP) (id : Int) : Int := nAtF id 0 l
theorem nAtF_hit (id : Int) : ∀ (l : List NodeP) (k : Nat), id ∈ nIds l → ∃ i, ∃ h : i < l.length, nAtF id k l = ((k + i : Nat) : Int) ∧ l[i].1 = id
  | [], k, h => by simp [nIds] at h
  | p :: r, k, h => by
    by_cases he : p.1 = id
    · exact ⟨0, by simp, by rw [nAtF, if_pos he]; rfl, he⟩
    · have : id ∈ nIds r := by
        unfold nIds at *
        rw [List.map_cons, List.mem_cons] at h
        exact h.resolve_left (fun e => he e.symm)
      obtain ⟨i, hi, h1, h2⟩ := nAtF_hit id r (k + 1) this
      exact ⟨i + 1, by simpa using hi, by rw [nAtF, if_neg he, h1]; omega, by simpa using h2⟩
theorem nAt_hit {l : List NodeP} {id : Int} (h : id ∈ nIds l) : ∃ i, ∃ h : i < l.length, nAt l id = (i : Int) ∧ l[i].1 = id := by
  obtain ⟨i, hi, h1, h2⟩ := nAtF_hit id l 0 h
  exact ⟨i, hi, by unfold nAt; rw [h1]; omega, h2⟩
theorem nAtF_none (id : Int) : ∀ (l : List NodeP) (k : Nat), id ∉ nIds l → nAtF id k l = -1
  | [], _, _ => rfl
  | p :: r, k, h => by
    unfold nIds at h
    rw [List.map_cons, List.mem_cons] at h
    rw [nAtF, if_neg (fun e => h (.inl e.symm)), nAtF_none id r (k + 1) (fun e => h (.inr e))]
theorem nAt_none {l : List NodeP} {id : Int} (h : id ∉ nIds l) : nAt l id = -1 := nAtF_none id l 0 h
def pDir (d : DiskP) : List LkD := runT d.kept d.turns
theorem pTurn_sub {d : DiskP} {L : List LkD} {t : TnD} (ht : t ∈ d.turns) (hk : t.kind = 5 → dHas L t.name = true) (_h1 : t.kind = 1 ∨ t.kind = 5 ∨ t.kind = 6) (hL : ∀ x ∈ L, x.id ∈ pIds d) : ∀ x ∈ pTurn L t, x.id ∈ pIds d := by
  intro x hx
  unfold pTurn at hx
  split at hx
  · rename_i h
    rcases (mem_dIns _).1 hx with rfl | hx
    · exact creates_mem ht h
    · exact hL x hx
  · split at hx
    · rename_i h
      rcases (mem_dIns _).1 hx with rfl | hx
      · obtain ⟨y, hy, _, he⟩ := dFind_mem (hk h)
        simp only
        rw [← he]; exact hL y hy
      · exact hL x (mem_dLess (mem_dLess hx))
    · exact hL x (mem_dLess hx)
theorem DOk.dirIds {d : DiskP} (h : DOk d) : ∀ k, k ≤ d.turns.length → ∀ x ∈ runT d.kept (d.turns.take k), x.id ∈ nIds d.nodes := by
  have h2 := (dok_iff d).1 h
  have key : ∀ k, k ≤ d.turns.length → ∀ x ∈ runT d.kept (d.turns.take k), x.id ∈ pIds d := by
    intro k
    induction k with
    | zero => intro _ x hx; exact kept_mem (by simpa [runT] using hx)
    | succ k ih =>
      intro hk
      rw [runT_take (by omega)]
      have ha := h2.turn k (by omega)
      refine pTurn_sub (List.getElem_mem _) (fun h5 => ?_) ?_ (ih (by omega))
      · rcases ha with ⟨a, _⟩ | ⟨_, b, _⟩ | ⟨a, _⟩
        · rw [a] at h5; exact absurd h5 (by decide)
        · exact b
        · rw [a] at h5; exact absurd h5 (by decide)
      · rcases ha with ⟨a, _⟩ | ⟨a, _⟩ | ⟨a, _⟩
        · exact .inl a
        · exact .inr (.inl a)
        · exact .inr (.inr a)
  intro k hk x hx
  obtain ⟨j, hj, he⟩ := List.mem_iff_getElem.1 (key k hk x hx)
  rw [← he]
  exact (h.ids j hj).2
theorem DOk.dirAt {d : DiskP} (h : DOk d) {s : List UInt8} (hh : dHas (pDir d) s = true) : ∃ i, ∃ hi : i < d.nodes.length, nAt d.nodes (dFind (pDir d) s) = (i : Int) ∧ d.nodes[i].1 = dFind (pDir d) s := by
  obtain ⟨x, hx, _, he⟩ := dFind_mem hh
  have := h.dirIds d.turns.length (Nat.le_refl _) x (by rw [List.take_length]; exact hx)
  rw [he] at this
  exact nAt_hit this
def bodyAt (d : DiskP) (i : Int) : List UInt8 := (d.nodes.getD i.toNat (0, [], [])).2.1
theorem bodyAt_nat {d : DiskP} {i : Nat} (h : i < d.nodes.length) : bodyAt d (i : Int) = d.nodes[i].2.1 := by unfold bodyAt; rw [Int.toNat_natCast, List.getD_eq_getElem?_getD, List.getElem?_eq_getElem h]; rfl
open Classical in
noncomputable def pRead (d : DiskP) (s : List UInt8) : List UInt8 × Bool := if DOk d ∧ dHas (pDir d) s = true then (bodyAt d (nAt d.nodes (dFind (pDir d) s)), true) else ([], false)
open Classical in
theorem pRead_yes {d : DiskP} {s : List UInt8} (h : DOk d) (hh : dHas (pDir d) s = true) : pRead d s = (bodyAt d (nAt d.nodes (dFind (pDir d) s)), true) := by unfold pRead; exact if_pos ⟨h, hh⟩
open Classical in
theorem pRead_no {d : DiskP} {s : List UInt8} (h : ¬ (DOk d ∧ dHas (pDir d) s = true)) : pRead d s = ([], false) := by unfold pRead; exact if_neg h
theorem pRead_len (d : DiskP) (s : List UInt8) (hl : totD d ≤ 1048576) : (pRead d s).1.length ≤ 1048576 := by
  by_cases h : DOk d ∧ dHas (pDir d) s = true
  · obtain ⟨i, hi, h1, _⟩ := h.1.dirAt h.2
    rw [pRead_yes h.1 h.2, h1]
    simp only
    rw [bodyAt_nat hi]
    have hm := totNd_mem (List.getElem_mem hi)
    have := (totD_parts hl).1
    unfold NdW at hm
    omega
  · rw [pRead_no h]; simp
theorem pFind_pos {d : DiskP} (h : DOk d) (s : List UInt8) : 1 ≤ dFind (pDir d) s ↔ dHas (pDir d) s = true := dFind_pos (by have := h.posT d.turns.length (Nat.le_refl _); rwa [List.take_length] at this) s
theorem fits_tk {d : DiskP} (hf : d.fits) : (∀ x ∈ d.kept, LkFit x) ∧ ∀ x ∈ d.turns, TnFit x := ⟨hf.2.2.2.2.1.2, hf.2.2.2.2.2.2⟩
attribute [local irreducible] TL TC TN TX TR TQ TA Pu Ret
set_option maxHeartbeats 2000000 in
theorem specl03At_c {w : World} {lo hi : Nat} {d : DiskP} {sn sk st : Value} {id : Int} (h : RDk w lo hi d sn sk st) (hl : d.nodes.length ≤ 1048576) :
    Ret Tryz.prog 84 #[.agg (dskC d sn sk st).toArray, I id] w fun v' w' => v' = I (nAt d.nodes id) ∧ Ext w w' := by
  obtain ⟨ds, A, c, hm, rfl, _, hr, hok⟩ := h.1
  have hln : d.nodes.length = ds.length := by rw [← hm, List.length_map]
  refine Ret_enter Tryz.func84 rfl rfl rfl ?_
  repeat' (first | apply Jbs | apply Jbt)
  refine TL_box (cs := dskC d (.slice A ds.length c) sk st) rfl rfl ?_
  intro w1 g E hg hz hbk
  clear hg hz
  repeat' (first | apply Jbq | apply Jbr | apply Jbs | apply Jbt | apply Jby | (apply Jcg; (first | exact Jaa rfl | exact Jab rfl | exact Jac Us.h rfl | (apply Jbl; exact Us.h; exact rfl; exact Sz.h; exact rfl)); exact rfl) | refine Jcg (Pu_load Fl.h rfl (fun _ e => by rw [e]; exact hbk.ld rfl)) rfl ?_)
  refine TC_loop (ι := Nat) (fun k => [(1, I id), (8, .slice A ds.length c), (9, I ds.length), (10, I k)]) (fun k w' => k ≤ ds.length ∧ nAt d.nodes id = nAtF id k (d.nodes.drop k) ∧ Ext w w') (fun k => ds.length - k) 0 (subEnv_cons rfl (subEnv_cons rfl (subEnv_cons rfl (subEnv_cons rfl (subEnv_nil _))))) ⟨Nat.zero_le _, rfl, E⟩ ?_
  intro k w2 ⟨hk, hat, e2⟩
  repeat' (first | apply Jbq | apply Jbr | apply Jbs | apply Jbt | (apply Jcg; exact Jad rfl rfl; exact rfl))
  refine Jcx rfl (fun hlt0 => ?_) (fun hge => ?_)
  · have hlt : k < ds.length := by omega
    obtain ⟨ad, rfl, hc⟩ := Rd.elem NdC_len (hr.ext e2) hlt
    have hnk : d.nodes[k]'(by omega) = NdP ds[k] := by simp only [← hm, List.getElem_map]
    have hid : (d.nodes[k]'(by omega)).1 = ds[k].id := by rw [hnk]; rfl
    have hdr : d.nodes.drop k = d.nodes[k]'(by omega) :: d.nodes.drop (k + 1) := List.drop_eq_getElem_cons (by omega)
    rw [hdr, nAtF, hid] at hat
    have hone := (hok _ (List.getElem_mem hlt)).one
    obtain ⟨x, hx⟩ : ∃ x, x = ds[k] := ⟨_, rfl⟩
    rw [← hx] at hc hone hat
    obtain ⟨id2, body, safe, vb, vs⟩ := x
    simp only at hat
    replace hc : ∀ j u, [I id2, vb, vs][j]? = some u → w2.cell? ((ad.add (k * 3)).add j) = some u := hc
    replace hone : [I id2, vb, vs].all (·.oneCell') = true := hone
    repeat' (first | apply Jbq | apply Jbr | apply Jbs | apply Jbt | apply Jby | apply Jbz | (apply Jcg; (first | exact Jaa rfl | exact Jab rfl | exact Jak rfl rfl | exact Jar Us.h Sz.h rfl rfl (by omega) | (apply Jbl; exact Us.h; exact rfl; exact Sz.h; exact rfl)); exact rfl) | refine Jcg (Pu_loadAgg (cs := [I id2, vb, vs]) Us.h rfl Sz.h rfl (fun _ e j u hu => by rw [e]; exact hc j u hu)) rfl ?_ | (refine TL_alloc Zs.h rfl rfl ?_; intro w3 g3 e3 hg3 hz3 hb3) | (refine TL_storeAgg rfl rfl Sz.h hone hb3 rfl ?_; intro w4 c4 hz4 hb4) | refine Jcg (Pu_load Fl.h rfl (fun _ e => by rw [e]; exact hb4.ld rfl)) rfl ?_)
    have E4 : Ext w w4 := Ext.then_iv (e2.ext e3) c4 (by have := e2.size; omega)
    refine Jcx rfl (fun he => ?_) (fun he => ?_)
    · rw [if_pos he] at hat
      repeat' (first | apply Jbq | apply Jbr | apply Jbs | apply Jbt | apply Jbu | apply Jbv | apply Jbw | (apply Jcg; (first | exact Jaa rfl | exact Jab rfl); exact rfl))
      exact TR_of (res1 rfl rfl) ⟨by rw [hat], E4⟩
    · rw [if_neg he] at hat
      repeat' (first | apply Jbq | apply Jbr | apply Jbt | apply Jbx | apply Jbz | (apply Jcg; (first | exact Jaa rfl | exact Jaf rfl rfl (by omega)); exact rfl))
      exact TN_round (k + 1) (subEnv_cons rfl (subEnv_cons rfl (subEnv_cons rfl (subEnv_cons rfl (subEnv_nil _))))) ⟨hlt, hat, E4⟩ (by omega)
  · obtain rfl : k = ds.length := by omega
    rw [List.drop_eq_nil_of_le (by omega)] at hat
    repeat' (first | apply Jbq | apply Jbr | apply Jbs | apply Jbt | apply Jbu | apply Jca | apply Jcb | apply Jcc | (apply Jcg; exact Jab rfl; exact rfl))
    exact TR_of (res1 rfl rfl) ⟨by rw [hat]; rfl, e2⟩
set_option maxHeartbeats 2000000 in
theorem implnodeAt_c {w : World} {lo hi : Nat} {d : DiskP} {sn sk st : Value} {id : Int} (h : RDk w lo hi d sn sk st) (hl : d.nodes.length ≤ 1048576) :
    Ret Tryz.prog 94 #[.agg (dskC d sn sk st).toArray, I id] w fun v' w' => v' = I (nAt d.nodes id) ∧ Ext w w' := by
  obtain ⟨ds, A, c, hm, rfl, _, hr, hok⟩ := h.1
  have hln : d.nodes.length = ds.length := by rw [← hm, List.length_map]
  refine Ret_enter Tryz.func94 rfl rfl rfl ?_
  repeat' (first | apply Jbs | apply Jbt)
  refine TL_box (cs := dskC d (.slice A ds.length c) sk st) rfl rfl ?_
  intro w1 g E hg hz hbk
  clear hg hz
  repeat' (first | apply Jbq | apply Jbr | apply Jbs | apply Jbt | apply Jby | (apply Jcg; (first | exact Jaa rfl | exact Jab rfl | exact Jac Us.h rfl | (apply Jbl; exact Us.h; exact rfl; exact Sz.h; exact rfl)); exact rfl) | refine Jcg (Pu_load Fl.h rfl (fun _ e => by rw [e]; exact hbk.ld rfl)) rfl ?_)
  refine TC_loop (ι := Nat) (fun k => [(1, I id), (8, .slice A ds.length c), (9, I ds.length), (10, I k)]) (fun k w' => k ≤ ds.length ∧ nAt d.nodes id = nAtF id k (d.nodes.drop k) ∧ Ext w w') (fun k => ds.length - k) 0 (subEnv_cons rfl (subEnv_cons rfl (subEnv_cons rfl (subEnv_cons rfl (subEnv_nil _))))) ⟨Nat.zero_le _, rfl, E⟩ ?_
  intro k w2 ⟨hk, hat, e2⟩
  repeat' (first | apply Jbq | apply Jbr | apply Jbs | apply Jbt | (apply Jcg; exact Jad rfl rfl; exact rfl))
  refine Jcx rfl (fun hlt0 => ?_) (fun hge => ?_)
  · have hlt : k < ds.length := by omega
    obtain ⟨ad, rfl, hc⟩ := Rd.elem NdC_len (hr.ext e2) hlt
    have hnk : d.nodes[k]'(by omega) = NdP ds[k] := by simp only [← hm, List.getElem_map]
    have hid : (d.nodes[k]'(by omega)).1 = ds[k].id := by rw [hnk]; rfl
    have hdr : d.nodes.drop k = d.nodes[k]'(by omega) :: d.nodes.drop (k + 1) := List.drop_eq_getElem_cons (by omega)
    rw [hdr, nAtF, hid] at hat
    have hone := (hok _ (List.getElem_mem hlt)).one
    obtain ⟨x, hx⟩ : ∃ x, x = ds[k] := ⟨_, rfl⟩
    rw [← hx] at hc hone hat
    obtain ⟨id2, body, safe, vb, vs⟩ := x
    simp only at hat
    replace hc : ∀ j u, [I id2, vb, vs][j]? = some u → w2.cell? ((ad.add (k * 3)).add j) = some u := hc
    replace hone : [I id2, vb, vs].all (·.oneCell') = true := hone
    repeat' (first | apply Jbq | apply Jbr | apply Jbs | apply Jbt | apply Jby | apply Jbz | (apply Jcg; (first | exact Jaa rfl | exact Jab rfl | exact Jak rfl rfl | exact Jar Us.h Sz.h rfl rfl (by omega) | (apply Jbl; exact Us.h; exact rfl; exact Sz.h; exact rfl)); exact rfl) | refine Jcg (Pu_loadAgg (cs := [I id2, vb, vs]) Us.h rfl Sz.h rfl (fun _ e j u hu => by rw [e]; exact hc j u hu)) rfl ?_ | (refine TL_alloc Zs.h rfl rfl ?_; intro w3 g3 e3 hg3 hz3 hb3) | (refine TL_storeAgg rfl rfl Sz.h hone hb3 rfl ?_; intro w4 c4 hz4 hb4) | refine Jcg (Pu_load Fl.h rfl (fun _ e => by rw [e]; exact hb4.ld rfl)) rfl ?_)
    have E4 : Ext w w4 := Ext.then_iv (e2.ext e3) c4 (by have := e2.size; omega)
    refine Jcx rfl (fun he => ?_) (fun he => ?_)
    · rw [if_pos he] at hat
      repeat' (first | apply Jbq | apply Jbr | apply Jbs | apply Jbt | apply Jbu | apply Jbv | apply Jbw | (apply Jcg; (first | exact Jaa rfl | exact Jab rfl); exact rfl))
      exact TR_of (res1 rfl rfl) ⟨by rw [hat], E4⟩
    · rw [if_neg he] at hat
      repeat' (first | apply Jbq | apply Jbr | apply Jbt | apply Jbx | apply Jbz | (apply Jcg; (first | exact Jaa rfl | exact Jaf rfl rfl (by omega)); exact rfl))
      exact TN_round (k + 1) (subEnv_cons rfl (subEnv_cons rfl (subEnv_cons rfl (subEnv_cons rfl (subEnv_nil _))))) ⟨hlt, hat, E4⟩ (by omega)
  · obtain rfl : k = ds.length := by omega
    rw [List.drop_eq_nil_of_le (by omega)] at hat
    repeat' (first | apply Jbq | apply Jbr | apply Jbs | apply Jbt | apply Jbu | apply Jca | apply Jcb | apply Jcc | (apply Jcg; exact Jab rfl; exact rfl))
    exact TR_of (res1 rfl rfl) ⟨by rw [hat]; rfl, e2⟩
set_option maxHeartbeats 2000000 in
theorem l03Dir_o {w : World} {lo hi : Nat} {d : DiskP} {sn sk st : Value} {n : Nat} (h : RDk w lo hi d sn sk st) (hk : d.kept.length ≤ 100) (ht : d.turns.length ≤ 100) (hn : n ≤ d.turns.length) :
    Ret Tryz.prog 59 #[.agg (dskC d sn sk st).toArray, I n] w fun v' w' => Ext w w' ∧ RowO LkC 162 2 w' w.heap.size w'.heap.size v' (runT d.kept (d.turns.take n)) := by
  obtain ⟨At, ct, rfl, hct, hrt⟩ := h.2.2.row
  refine Ret_enter Tryz.func59 rfl rfl rfl ?_
  repeat' (first | apply Jbs | apply Jbt)
  refine TL_box (cs := dskC d sn sk (.slice At d.turns.length ct)) rfl rfl ?_
  intro wb g E hg hz hb0
  clear hz
  have hzb := E.size
  repeat' (first | apply Jbq | apply Jbr | apply Jbs | apply Jbt | (apply Jcg; (first | exact Jab rfl | (apply Jbl; exact Us.h; exact rfl; exact Sz.h; exact rfl)); exact rfl) | (refine TL_buildSlice0 Us.h Sz.h rfl ?_; intro w1 g1 e1 hg1 hz1 hown1))
  have hb1 := hb0.ext e1
  repeat' (refine Jcg (Pu_load Fl.h rfl (fun _ e => by rw [e]; exact hb1.ld rfl)) rfl ?_)
  refine TL_appendRow Us.h Inf.h rfl rfl rfl LkC_one rfl rfl (RowO.new (l := []) rfl hown1 hg1 hz1) (h.2.1.row.ext (E.ext e1)) e1.size (by simp only [List.length_nil]; omega) rfl ?_
  intro w2 v2 c2 ho2
  rw [List.nil_append] at ho2
  have E2 : Ext wb w2 := Ext.then_iv e1 c2 (Nat.le_refl _)
  repeat' (first | apply Jbq | apply Jbr | apply Jbs | apply Jbt | apply Jby | (apply Jcg; exact Jab rfl; exact rfl))
  refine TC_loop (ι := Nat × Value) (fun x => [(1, I n), (2, .pointer (some ⟨g, 0, none⟩)), (5, x.2), (6, I x.1)]) (fun x w' => x.1 ≤ n ∧ Ext wb w' ∧ RowO LkC 162 2 w' w.heap.size w'.heap.size x.2 (runT d.kept (d.turns.take x.1))) (fun x => n - x.1) (0, v2) (subEnv_cons rfl (subEnv_cons rfl (subEnv_cons rfl (subEnv_cons rfl (subEnv_nil _))))) ⟨Nat.zero_le _, E2, ho2.wide hzb (Nat.le_refl _) (Nat.le_refl _)⟩ ?_
  rintro ⟨k, vd⟩ w3 ⟨hk3, e3, hr3⟩
  simp only at hk3 hr3
  show TC _ _ _ _ [(1, I n), (2, .pointer (some ⟨g, 0, none⟩)), (5, vd), (6, I (k : Int))] w3
  have hb3 := hb0.ext e3
  repeat' (first | apply Jbq | apply Jbr | apply Jbs | apply Jbt | (apply Jcg; (first | exact Jaa rfl | exact Jad rfl rfl); exact rfl))
  refine Jcx rfl (fun hlt0 => ?_) (fun hge => ?_)
  · have hlt : k < d.turns.length := by omega
    have hrl := runT_length d.kept (d.turns.take k)
    rw [List.length_take] at hrl
    obtain ⟨ad, rfl, hcell⟩ := Rd.elem TnC_len (hrt.ext (E.ext e3)) hlt
    repeat' (first | apply Jbr | apply Jbs | apply Jbt | apply Jby | apply Jbz | (apply Jcg; (first | exact Jaa rfl | exact Jar Us.h Sz.h rfl rfl (by omega) | (apply Jbl; exact Us.h; exact rfl; exact Sz.h; exact rfl)); exact rfl) | refine Jcg (Pu_load Fl.h rfl (fun _ e => by rw [e]; exact hb3.ld rfl)) rfl ?_ | refine Jcg (Pu_loadAgg (cs := TnC d.turns[k]) Us.h rfl Sz.h rfl (fun _ e j u hu => by rw [e]; exact hcell j u hu)) rfl ?_)
    refine TL_call rfl en133 (l03Turn_o hr3.rk (by omega)) rfl rfl ?_
    rintro v4 w4 ⟨e4, hr4⟩
    repeat' (first | apply Jbq | apply Jbr | apply Jbt | apply Jbx | (apply Jcg; (first | exact Jaa rfl | exact Jab rfl | exact Jaf rfl rfl (by omega)); exact rfl))
    refine TN_round (k + 1, v4) (subEnv_cons rfl (subEnv_cons rfl (subEnv_cons rfl (subEnv_cons rfl (subEnv_nil _))))) ⟨by simp only; omega, e3.ext e4, ?_⟩ (by simp only; omega)
    simp only
    rw [runT_take hlt]
    exact hr4.wide (by have := e3.size; omega) (Nat.le_refl _) (Nat.le_refl _)
  · obtain rfl : k = n := by omega
    repeat' (first | apply Jbq | apply Jbr | apply Jbs | apply Jbt | apply Jbu | apply Jca | apply Jcb | apply Jcc | (apply Jcg; (first | exact Jaa rfl | exact Jab rfl); exact rfl))
    exact TR_of (res1 rfl rfl) ⟨E.ext e3, hr3⟩
open Classical in
noncomputable def pDirs (d : DiskP) : List LkD := if DOk d then pDir d else []
open Classical in
theorem pDirs_yes {d : DiskP} (h : DOk d) : pDirs d = pDir d := by unfold pDirs; exact if_pos h
open Classical in
theorem pDirs_no {d : DiskP} (h : ¬ DOk d) : pDirs d = [] := by unfold pDirs; exact if_neg h
theorem RK.nil (w : World) : RK w 0 w.heap.size (.slice none 0 0) [] := RowR.rk ⟨none, 0, rfl, Nat.le_refl _, ⟨by simp [cellsL], Nat.le_refl _, fun h => absurd h (by simp)⟩⟩
set_option maxHeartbeats 2000000 in
theorem specDiskDir_o {w : World} {lo hi : Nat} {d : DiskP} {sn sk st : Value} (h : RDk w lo hi d sn sk st) (hf : d.fits) (hl : totD d ≤ 1048576) :
    Ret Tryz.prog 86 #[.agg (dskC d sn sk st).toArray] w fun v' w' => Ext w w' ∧ RowO LkC 162 2 w' w.heap.size w'.heap.size v' (pDirs d) := by
  have hh := h
  obtain ⟨At, ct, rfl, hct, hrt⟩ := h.2.2.row
  refine Ret_enter Tryz.func86 rfl rfl rfl ?_
  repeat' (first | apply Jbs | apply Jbt)
  refine TL_box (cs := dskC d sn sk (.slice At d.turns.length ct)) rfl rfl ?_
  intro wb g E hg hz hb0
  clear hz
  repeat' (first | apply Jbq | apply Jbr | apply Jbs | apply Jbt | (apply Jcg; exact Jab rfl; exact rfl) | refine Jcg (Pu_loadAgg (cs := dskC d sn sk (.slice At d.turns.length ct)) Us.h rfl Sz.h rfl (fun _ e j u hu => by rw [e, add0, hb0.cell]; exact hu)) rfl ?_)
  refine TL_call rfl en57 (specDiskOk_c (hh.ext E) hf hl) rfl rfl ?_
  rintro _ w1 ⟨rfl, e1⟩
  cases hp : pDOk d with
  | false =>
    repeat' (first | apply Jbq | apply Jbr | apply Jbs | apply Jbt | apply Jbu | apply Jbv | (refine Jce rfl ?_) | (apply Jcg; (first | exact Jab rfl | exact Jaj rfl); exact rfl))
    exact TR_of (res1 rfl rfl) ⟨E.ext e1, by rw [pDirs_no (fun h => by rw [pDOk_yes h] at hp; cases hp)]; exact RowO.nil _ _ (E.ext e1).size⟩
  | true =>
    have hD := pDOk_of hp
    have hB := hD.base
    unfold dBase at hB
    have hb1 := hb0.ext e1
    repeat' (first | apply Jbq | apply Jbr | apply Jbs | apply Jbt | apply Jbz | (refine Jcf rfl ?_) | (apply Jcg; (first | exact Jac Us.h rfl | exact Jaj rfl | (apply Jbl; exact Us.h; exact rfl; exact Sz.h; exact rfl)); exact rfl) | refine Jcg (Pu_load Fl.h rfl (fun _ e => by rw [e]; exact hb1.ld rfl)) rfl ?_ | refine Jcg (Pu_loadAgg (cs := dskC d sn sk (.slice At d.turns.length ct)) Us.h rfl Sz.h rfl (fun _ e j u hu => by rw [e, add0, hb1.cell]; exact hu)) rfl ?_)
    refine TL_call rfl en59 (l03Dir_o (hh.ext (E.ext e1)) (by omega) (by omega) (Nat.le_refl _)) rfl rfl ?_
    rintro v2 w2 ⟨e2, hr2⟩
    repeat' (first | apply Jbq | apply Jbr | apply Jbu | (apply Jcg; exact Jab rfl; exact rfl))
    refine TR_of (res1 rfl rfl) ⟨(E.ext e1).ext e2, ?_⟩
    rw [List.take_length] at hr2
    rw [pDirs_yes hD]
    exact hr2.wide (E.ext e1).size (Nat.le_refl _) (Nat.le_refl _)
theorem specDiskDir_c {w : World} {lo hi : Nat} {d : DiskP} {sn sk st : Value} (h : RDk w lo hi d sn sk st) (hf : d.fits) (hl : totD d ≤ 1048576) :
    Ret Tryz.prog 86 #[.agg (dskC d sn sk st).toArray] w fun v' w' => Ext w w' ∧ RK w' 0 w'.heap.size v' (pDirs d) := by
  refine (specDiskDir_o h hf hl).mono fun v w' ⟨e, ho⟩ => ⟨e, ho.rk⟩
end Go.Proofs.YtggaghghclomkaaGreat

/- Contracts: a file is read. -/
namespace Go.Proofs.YtggaghghclomkaaGreat
open Go.RowKit
theorem DOk.ids_ge {d : DiskP} (h : DOk d) (s : List UInt8) : dFind (pDir d) s = 0 ↔ dHas (pDir d) s = false := by
  have := pFind_pos h s
  constructor
  · intro h0
    cases hh : dHas (pDir d) s with
    | false => rfl
    | true => rw [hh, h0] at this; exact absurd (this.2 rfl) (by decide)
  · intro hh; exact dFind_none hh
theorem pDirs_length {d : DiskP} : (pDirs d).length ≤ 48 := by
  by_cases h : DOk d
  · rw [pDirs_yes h]
    have := runT_length d.kept d.turns
    have hB := h.base
    unfold dBase at hB
    unfold pDir
    omega
  · rw [pDirs_no h]; simp
attribute [local irreducible] TL TC TN TX TR TQ TA Pu Ret
set_option maxRecDepth 100000 in
set_option maxHeartbeats 4000000 in
theorem specDiskRead_c {w : World} {lo hi : Nat} {d : DiskP} {sn sk st : Value} {s : List UInt8} (h : RDk w lo hi d sn sk st) (hf : d.fits) (hl : totD d ≤ 1048576) :
    Ret Tryz.prog 106 #[.agg (dskC d sn sk st).toArray, S s] w fun v' w' => ∃ v2, v' = .tuple #[v2, .bool (pRead d s).2] ∧ Ext w w' ∧ RB w' 0 w'.heap.size v2 (pRead d s).1 := by
  have hh := h
  obtain ⟨ds, A, c, hm, rfl, hc, hr, hok⟩ := h.1
  have hln : d.nodes.length = ds.length := by rw [← hm, List.length_map]
  have hl1 := (totD_parts hl).1
  have hl0 := totNd_nn d.nodes
  refine Ret_enter Tryz.func106 rfl rfl rfl ?_
  repeat' (first | apply Jbs | apply Jbt)
  refine TL_box (cs := dskC d (.slice A ds.length c) sk st) rfl rfl ?_
  intro wb g E hg hz hb0
  clear hz
  repeat' (first | apply Jbq | apply Jbr | apply Jbs | apply Jbt | (apply Jcg; exact Jab rfl; exact rfl) | refine Jcg (Pu_loadAgg (cs := dskC d (.slice A ds.length c) sk st) Us.h rfl Sz.h rfl (fun _ e j u hu => by rw [e, add0, hb0.cell]; exact hu)) rfl ?_)
  refine TL_call rfl en86 (specDiskDir_c (hh.ext E) hf hl) rfl rfl ?_
  rintro v1 w1 ⟨e1, hr1⟩
  have hpl := pDirs_length (d := d)
  repeat' ((apply Jcg; exact Jaa rfl; exact rfl))
  refine TL_call rfl en85 (l03Find_c hr1 (by omega)) rfl rfl ?_
  rintro _ w2 ⟨rfl, e2⟩
  have E2 := (E.ext e1).ext e2
  have hb2 := (hb0.ext e1).ext e2
  repeat' (first | apply Jbq | apply Jbr | apply Jbs | apply Jbt | (apply Jcg; (first | exact Jaa rfl | exact Jab rfl | exact Jak rfl rfl); exact rfl))
  refine Jcx rfl (fun h0 => ?_) (fun h0 => ?_)
  · repeat' (first | apply Jbq | apply Jbr | apply Jbs | apply Jbt | apply Jbu | apply Jbv | (apply Jcg; exact Jab rfl; exact rfl))
    refine TR_of (res2 rfl rfl rfl) ⟨.slice none 0 0, ?_, E2, ?_⟩
    · have : pRead d s = ([], false) := pRead_no (fun h => by rw [pDirs_yes h.1, DOk.ids_ge h.1, h.2] at h0; cases h0)
      rw [this]
    · have : pRead d s = ([], false) := pRead_no (fun h => by rw [pDirs_yes h.1, DOk.ids_ge h.1, h.2] at h0; cases h0)
      rw [this]
      exact ⟨none, 0, rfl, Nat.le_refl _, ⟨rfl, Nat.le_refl _, fun h => absurd h (by simp)⟩⟩
  · have hD : DOk d := by
      by_cases h : DOk d
      · exact h
      · rw [pDirs_no h] at h0; exact absurd rfl h0
    rw [pDirs_yes hD] at h0 ⊢
    have hhas : dHas (pDir d) s = true := by
      cases hh : dHas (pDir d) s with
      | true => rfl
      | false => exact absurd ((DOk.ids_ge hD s).2 hh) h0
    obtain ⟨i, hi, hat, _⟩ := hD.dirAt hhas
    rw [pRead_yes hD hhas, hat]
    simp only
    rw [bodyAt_nat hi]
    obtain ⟨ad, rfl, hcell⟩ := Rd.elem NdC_len (hr.ext E2) (k := i) (by omega)
    have hni : d.nodes[i] = NdP ds[i] := by simp only [← hm, List.getElem_map]
    have hbody : d.nodes[i].2.1 = ds[i].body := by rw [hni]; rfl
    have hrb := (hok _ (List.getElem_mem (show i < ds.length by omega))).1
    have hwk := totNd_mem (List.getElem_mem hi)
    unfold NdW at hwk
    rw [hbody] at hwk ⊢
    have hcv : w2.cell? ((ad.add (i * 3)).add 1) = some (ds[i]'(by omega)).vb := hcell 1 _ rfl
    obtain ⟨x, hx⟩ : ∃ x, x = ds[i]'(by omega) := ⟨_, rfl⟩
    rw [← hx] at hcv hrb hwk ⊢
    obtain ⟨Ab, cb, hvb, hcb, hrdb⟩ := hrb
    rw [hvb] at hcv
    repeat' (first | apply Jbr | apply Jbs | apply Jbz)
    refine TC_any mixed rfl ?_
    intro w3 hE hz3
    (refine Jco 1 rfl (by kernel_rfl) (by kernel_rfl) (by kernel_rfl) (fun _ _ _ h => h) hE (by (apply Jbl; exact Us.h; exact rfl; exact Sz.h; exact rfl)) rfl ?_; refine Jco 2 rfl (by kernel_rfl) (by kernel_rfl) (by kernel_rfl) (fun _ _ _ h => h) hE (by exact Pu_load Fl.h rfl (fun _ e => Ext.cell e (hb2.ld rfl))) rfl ?_; refine Jco 3 rfl (by kernel_rfl) (by kernel_rfl) (by kernel_rfl) (fun _ _ _ h => h) hE (by exact Pu_loadAgg (cs := dskC d (.slice (some ad) ds.length c) sk st) Us.h rfl Sz.h rfl (fun _ e j u hu => Ext.cell e (by rw [add0, hb2.cell]; exact hu))) rfl ?_; refine Jco 4 rfl (by kernel_rfl) (by kernel_rfl) (by kernel_rfl) (fun _ _ _ h => h) hE (by exact Jaa rfl) rfl ?_)
    refine TA_two 0 5 (by kernel_rfl) rfl rfl ?_ ?_
    · refine TL_buildSlice0 Us.h Sz.h rfl ?_
      intro w4 g4 e4 hg4 hz4 hown4
      have hE4 := hE.ext e4
      refine Jbq (TN_any hE4 ?_)
      refine TA_one 5 (by kernel_rfl) rfl ?_
      refine TL_call rfl en84 (specl03At_c (hh.ext (E2.ext hE4)) (by omega)) rfl rfl ?_
      rintro _ w5 ⟨rfl, e5⟩
      rw [hat]
      have hE := hE4.ext e5
      refine Jbq (TN_any hE ?_)
      (refine Jco 6 rfl (by kernel_rfl) (by kernel_rfl) (by kernel_rfl) (fun _ _ _ h => h) hE (by exact Jar Us.h Sz.h rfl rfl (by omega)) rfl ?_; refine Jco 7 rfl (by kernel_rfl) (by kernel_rfl) (by kernel_rfl) (fun _ _ _ h => h) hE (by (apply Jbl; exact Us.h; exact rfl; exact Sz.h; exact rfl)) rfl ?_; refine Jco 8 rfl (by kernel_rfl) (by kernel_rfl) (by kernel_rfl) (fun _ _ _ h => h) hE (by exact Pu_load Fl.h rfl (fun _ e => Ext.cell e hcv)) rfl ?_)
      refine TA_one 9 (by kernel_rfl) rfl ?_
      have hnew : OB w5 w3.heap.size w4.heap.size _ [] := (OB_new (s := []) rfl hown4 hg4 hz4).ext e5
      refine TL_appendB Us.h rfl rfl hnew ⟨_, _, rfl, hcb, hrdb.ext (E2.ext hE)⟩ (by have := e4.size; have := e5.size; omega) (by simp only [List.length_nil]; omega) rfl ?_
      intro w6 v6 c6 ho6
      have hE6 : Ext w2 w6 := Ext.then_iv hE c6 (by omega)
      refine Jbq (TN_any hE6 ?_)
      clear hE
      have hE := hE6
      (refine Jco 10 rfl (by kernel_rfl) (by kernel_rfl) (by kernel_rfl) (fun _ _ _ h => h) hE (by exact Jab rfl) rfl ?_; refine Jco 11 rfl (by kernel_rfl) (by kernel_rfl) (by kernel_rfl) (fun _ _ _ h => h) hE (by exact Jab rfl) rfl ?_)
      refine TA_done (by kernel_rfl) ?_
      repeat' (first | apply Jbr | apply Jbu)
      exact TR_of (res2 rfl rfl rfl) ⟨v6, rfl, E2.ext hE, by obtain ⟨A', c', h1, h2, h3⟩ := ho6.rd; exact ⟨A', c', h1, h2, h3.wide (Nat.zero_le _) (Nat.le_refl _) (Nat.le_refl _)⟩⟩
    · refine TL_call rfl en84 (specl03At_c (hh.ext (E2.ext hE)) (by omega)) rfl rfl ?_
      rintro _ w4 ⟨rfl, e4⟩
      rw [hat]
      have hE4 := hE.ext e4
      clear hE
      have hE := hE4
      refine Jbq (TN_any hE ?_)
      (refine Jco 6 rfl (by kernel_rfl) (by kernel_rfl) (by kernel_rfl) (fun _ _ _ h => h) hE (by exact Jar Us.h Sz.h rfl rfl (by omega)) rfl ?_; refine Jco 7 rfl (by kernel_rfl) (by kernel_rfl) (by kernel_rfl) (fun _ _ _ h => h) hE (by (apply Jbl; exact Us.h; exact rfl; exact Sz.h; exact rfl)) rfl ?_; refine Jco 8 rfl (by kernel_rfl) (by kernel_rfl) (by kernel_rfl) (fun _ _ _ h => h) hE (by exact Pu_load Fl.h rfl (fun _ e => Ext.cell e hcv)) rfl ?_)
      refine TA_one 0 (by kernel_rfl) rfl ?_
      refine TL_buildSlice0 Us.h Sz.h rfl ?_
      intro w5 g5 e5 hg5 hz5 hown5
      have hE5 := hE.ext e5
      refine Jbq (TN_any hE5 ?_)
      refine TA_one 9 (by kernel_rfl) rfl ?_
      have hnew : OB w5 w4.heap.size w5.heap.size _ [] := OB_new (s := []) rfl hown5 hg5 hz5
      refine TL_appendB Us.h rfl rfl hnew ⟨_, _, rfl, hcb, hrdb.ext (E2.ext hE5)⟩ e5.size (by simp only [List.length_nil]; omega) rfl ?_
      intro w6 v6 c6 ho6
      have hE6 : Ext w2 w6 := Ext.then_iv hE5 c6 (by have := hE.size; omega)
      refine Jbq (TN_any hE6 ?_)
      clear hE
      have hE := hE6
      (refine Jco 10 rfl (by kernel_rfl) (by kernel_rfl) (by kernel_rfl) (fun _ _ _ h => h) hE (by exact Jab rfl) rfl ?_; refine Jco 11 rfl (by kernel_rfl) (by kernel_rfl) (by kernel_rfl) (fun _ _ _ h => h) hE (by exact Jab rfl) rfl ?_)
      refine TA_done (by kernel_rfl) ?_
      repeat' (first | apply Jbr | apply Jbu)
      exact TR_of (res2 rfl rfl rfl) ⟨v6, rfl, E2.ext hE, by obtain ⟨A', c', h1, h2, h3⟩ := ho6.rd; exact ⟨A', c', h1, h2, h3.wide (Nat.zero_le _) (Nat.le_refl _) (Nat.le_refl _)⟩⟩
set_option maxRecDepth 100000 in
set_option maxHeartbeats 4000000 in
theorem implDiskRead_c {w : World} {lo hi : Nat} {d : DiskP} {sn sk st : Value} {s : List UInt8} (h : RDk w lo hi d sn sk st) (hf : d.fits) (hl : totD d ≤ 1048576) (hs : s.length ≤ 9223372036854775807) :
    Ret Tryz.prog 37 #[.agg (dskC d sn sk st).toArray, S s] w fun v' w' => ∃ v2, v' = .tuple #[v2, .bool (pRead d s).2] ∧ Ext w w' ∧ OB w' w.heap.size w'.heap.size v2 (pRead d s).1 := by
  have hh := h
  obtain ⟨ds, A, c, hm, rfl, hc, hr, hok⟩ := h.1
  have hln : d.nodes.length = ds.length := by rw [← hm, List.length_map]
  have hl1 := (totD_parts hl).1
  have hl0 := totNd_nn d.nodes
  obtain ⟨ft1, ft2⟩ := fits_tk hf
  refine Ret_enter Tryz.func37 rfl rfl rfl ?_
  repeat' (first | apply Jbs | apply Jbt)
  refine TL_box (cs := dskC d (.slice A ds.length c) sk st) rfl rfl ?_
  intro wb g E hg hz hb0
  clear hz
  repeat' (first | apply Jbq | apply Jbr | apply Jbs | apply Jbt | (apply Jcg; exact Jab rfl; exact rfl) | refine Jcg (Pu_loadAgg (cs := dskC d (.slice A ds.length c) sk st) Us.h rfl Sz.h rfl (fun _ e j u hu => by rw [e, add0, hb0.cell]; exact hu)) rfl ?_)
  refine TL_call rfl en65 (implDiskOk_c (hh.ext E) hf hl) rfl rfl ?_
  rintro _ w1 ⟨rfl, e1⟩
  have E1 := E.ext e1
  have hb1 := hb0.ext e1
  cases hp : pDOk d with
  | false =>
    have hno : pRead d s = ([], false) := pRead_no (fun h => by rw [pDOk_yes h.1] at hp; cases hp)
    rw [hno]
    repeat' (first | apply Jbq | apply Jbr | apply Jbs | apply Jbt | apply Jbu | apply Jbv | (refine Jce rfl ?_) | (apply Jcg; (first | exact Jab rfl | exact Jaj rfl); exact rfl))
    exact TR_of (res2 rfl rfl rfl) ⟨.slice none 0 0, rfl, E1, OB.nil _ _ E1.size⟩
  | true =>
    have hD := pDOk_of hp
    have hB := hD.base
    unfold dBase at hB
    repeat' (first | apply Jbq | apply Jbr | apply Jbs | apply Jbt | apply Jbz | (refine Jcf rfl ?_) | (apply Jcg; (first | exact Jaj rfl | (apply Jbl; exact Us.h; exact rfl; exact Sz.h; exact rfl)); exact rfl) | refine Jcg (Pu_load Fl.h rfl (fun _ e => by rw [e]; exact hb1.ld rfl)) rfl ?_)
    refine TL_call rfl en67 (dirOf_c (hh.2.1.ext E1) (hh.2.2.ext E1) (kept_asc ((dok_iff d).1 hD).link) (by omega) (by omega) ft1 ft2) rfl rfl ?_
    rintro _ w2 ⟨e2, hq⟩
    have E2 := E1.ext e2
    have hb2 := hb1.ext e2
    rcases hq with ⟨_, b, kb, rfl, _, _, hM⟩ | ⟨hA, _⟩
    · cases hhas : dHas (pDir d) s with
      | false =>
        have hno : pRead d s = ([], false) := pRead_no (fun h => by rw [h.2] at hhas; cases hhas)
        rw [hno]
        repeat' (first | apply Jbq | apply Jbr | apply Jbs | apply Jbt | apply Jbu | apply Jbv | (refine Jce rfl ?_) | (apply Jcg; (first | exact Jaa rfl | exact Jab rfl | exact Jae rfl rfl | exact Jaj rfl); exact rfl) | refine Jcg (Pu_dirLookB rfl rfl hs hhas (fun w' e => ⟨kb, by rw [e]; exact hM⟩)) rfl ?_)
        exact TR_of (res2 rfl rfl rfl) ⟨.slice none 0 0, rfl, E2, OB.nil _ _ E2.size⟩
      | true =>
        obtain ⟨i, hi, hat, _⟩ := hD.dirAt hhas
        rw [pRead_yes hD hhas, hat]
        simp only
        rw [bodyAt_nat hi]
        obtain ⟨ad, rfl, hcell⟩ := Rd.elem NdC_len (hr.ext E2) (k := i) (by omega)
        have hni : d.nodes[i] = NdP ds[i] := by simp only [← hm, List.getElem_map]
        have hbody : d.nodes[i].2.1 = ds[i].body := by rw [hni]; rfl
        have hrb := (hok _ (List.getElem_mem (show i < ds.length by omega))).1
        have hwk := totNd_mem (List.getElem_mem hi)
        unfold NdW at hwk
        rw [hbody] at hwk ⊢
        have hcv : w2.cell? ((ad.add (i * 3)).add 1) = some (ds[i]'(by omega)).vb := hcell 1 _ rfl
        obtain ⟨x, hx⟩ : ∃ x, x = ds[i]'(by omega) := ⟨_, rfl⟩
        rw [← hx] at hcv hrb hwk ⊢
        obtain ⟨Ab, cb, hvb, hcb, hrdb⟩ := hrb
        rw [hvb] at hcv
        repeat' (first | apply Jbq | apply Jbr | apply Jbs | apply Jbt | apply Jbz | (refine Jcf rfl ?_) | (apply Jcg; (first | exact Jaa rfl | exact Jab rfl | exact Jae rfl rfl | exact Jaj rfl); exact rfl) | refine Jcg (Pu_dirLookB rfl rfl hs hhas (fun w' e => ⟨kb, by rw [e]; exact hM⟩)) rfl ?_)
        refine TC_any mixed rfl ?_
        intro w3 hE hz3
        (refine Jco 0 rfl (by kernel_rfl) (by kernel_rfl) (by kernel_rfl) (fun _ _ _ h => h) hE (by (apply Jbl; exact Us.h; exact rfl; exact Sz.h; exact rfl)) rfl ?_; refine Jco 1 rfl (by kernel_rfl) (by kernel_rfl) (by kernel_rfl) (fun _ _ _ h => h) hE (by exact Pu_load Fl.h rfl (fun _ e => Ext.cell e (hb2.ld rfl))) rfl ?_; refine Jco 2 rfl (by kernel_rfl) (by kernel_rfl) (by kernel_rfl) (fun _ _ _ h => h) hE (by exact Pu_loadAgg (cs := dskC d (.slice (some ad) ds.length c) sk st) Us.h rfl Sz.h rfl (fun _ e j u hu => Ext.cell e (by rw [add0, hb2.cell]; exact hu))) rfl ?_; refine Jco 3 rfl (by kernel_rfl) (by kernel_rfl) (by kernel_rfl) (fun _ _ _ h => h) hE (by exact Jaa rfl) rfl ?_)
        refine TA_one 4 (by kernel_rfl) rfl ?_
        refine TL_call rfl en94 (implnodeAt_c (hh.ext (E2.ext hE)) (by omega)) rfl rfl ?_
        rintro _ w4 ⟨rfl, e4⟩
        first | rw [hat] | rw [show nAt d.nodes (dFind (runT d.kept d.turns) s) = (i : Int) from hat]
        have hE4 := hE.ext e4
        clear hE
        have hE := hE4
        refine Jbq (TN_any hE ?_)
        (refine Jco 5 rfl (by kernel_rfl) (by kernel_rfl) (by kernel_rfl) (fun _ _ _ h => h) hE (by exact Jar Us.h Sz.h rfl rfl (by omega)) rfl ?_; refine Jco 6 rfl (by kernel_rfl) (by kernel_rfl) (by kernel_rfl) (fun _ _ _ h => h) hE (by (apply Jbl; exact Us.h; exact rfl; exact Sz.h; exact rfl)) rfl ?_; refine Jco 7 rfl (by kernel_rfl) (by kernel_rfl) (by kernel_rfl) (fun _ _ _ h => h) hE (by exact Pu_load Fl.h rfl (fun _ e => Ext.cell e hcv)) rfl ?_)
        refine TA_one 8 (by kernel_rfl) rfl ?_
        refine TL_call rfl en71 (copyBytes_c (hrdb.ext (E2.ext hE)) (by omega)) rfl rfl ?_
        rintro _ w5 ⟨A5, c5, rfl, e5, ho5⟩
        have hE5 := hE.ext e5
        clear hE4
        have hE0 := hE
        clear hE
        have hE := hE5
        refine Jbq (TN_any hE ?_)
        (refine Jco 9 rfl (by kernel_rfl) (by kernel_rfl) (by kernel_rfl) (fun _ _ _ h => h) hE (by exact Jab rfl) rfl ?_; refine Jco 10 rfl (by kernel_rfl) (by kernel_rfl) (by kernel_rfl) (fun _ _ _ h => h) hE (by exact Jab rfl) rfl ?_)
        refine TA_done (by kernel_rfl) ?_
        repeat' (first | apply Jbr | apply Jbu)
        exact TR_of (res2 rfl rfl rfl) ⟨_, rfl, E2.ext hE, A5, c5, rfl, ho5.wide (E2.ext hE0).size (Nat.le_refl _) (Nat.le_refl _)⟩
    · exact absurd ((dok_iff d).1 hD).turn hA
end Go.Proofs.YtggaghghclomkaaGreat

/- Contracts: the directory of a disk, by the program. -/
namespace Go.Proofs.YtggaghghclomkaaGreat
open Go.RowKit
/-! ### the plain law: how long a directory is, and its names -/
theorem pName_len {s : List UInt8} (h : pName s = true) : s.length ≤ 12 := by unfold pName at h; simp at h; omega
theorem dLess_lt {L : List LkD} {s : List UInt8} (h : dHas L s = true) : (dLess L s).length < L.length := by
  unfold dHas at h
  rw [List.any_eq_true] at h
  obtain ⟨x, hx, he⟩ := h
  unfold dLess
  exact List.length_filter_lt_length_iff_exists.2 ⟨x, hx, by rw [he]; simp⟩
theorem pTurn_len2 {L : List LkD} {t : TnD} (h : aOk L t) : (pTurn L t).length ≤ L.length + (if t.kind = 1 then 1 else 0) := by
  unfold pTurn
  rcases h with ⟨a, _⟩ | ⟨a, b, _⟩ | ⟨a, b⟩
  · rw [if_pos a, if_pos a, dIns_length]; exact Nat.le_refl _
  · rw [if_neg (by omega), if_pos a, dIns_length, if_neg (by omega)]
    have h1 := dLess_lt b
    have h2 := dLess_length (dLess L t.name) t.to
    omega
  · rw [if_neg (by omega), if_neg (by omega), if_neg (by omega)]
    have h1 := dLess_length L t.name
    omega
theorem DOk.dirLen {d : DiskP} (h : DOk d) (k : Nat) (hk : k ≤ d.turns.length) : (runT d.kept (d.turns.take k)).length ≤ d.kept.length + ((d.turns.take k).filter (fun t => decide (t.kind = 1))).length := by
  have h2 := (dok_iff d).1 h
  induction k with
  | zero => simp [runT]
  | succ k ih =>
    rw [runT_take (by omega), List.take_succ_eq_append_getElem (by omega), List.filter_append, List.length_append]
    have h3 := pTurn_len2 (h2.turn k (by omega))
    have h4 := ih (by omega)
    by_cases e : d.turns[k].kind = 1
    · rw [if_pos e] at h3
      rw [show [d.turns[k]].filter (fun t => decide (t.kind = 1)) = [d.turns[k]] by simp [e]]
      simp only [List.length_cons, List.length_nil]
      omega
    · rw [if_neg e] at h3
      omega
theorem DOk.dirLe {d : DiskP} (h : DOk d) (k : Nat) (hk : k ≤ d.turns.length) : (runT d.kept (d.turns.take k)).length ≤ 8 := by
  have h1 := h.dirLen k hk
  have h2 := h.len
  have hB := h.base
  unfold dBase at hB
  unfold pIds at h2
  rw [List.length_append, List.length_map, List.length_map] at h2
  have h3 : ((d.turns.take k).filter (fun t => decide (t.kind = 1))).length ≤ (d.turns.filter (fun t => decide (t.kind = 1))).length := (List.Sublist.filter _ (List.take_sublist _ _)).length_le
  omega
theorem pTurn_name {L : List LkD} {t : TnD} (ht : tOk0 t) (hL : ∀ x ∈ L, pName x.name = true) : ∀ x ∈ pTurn L t, pName x.name = true := by
  intro x hx
  unfold pTurn at hx
  rcases ht.2 with ⟨a, b⟩ | ⟨a, b, c⟩ | ⟨a, b, c⟩
  · rw [if_pos a] at hx
    rcases (mem_dIns _).1 hx with rfl | hx
    · exact ht.1
    · exact hL x hx
  · rw [if_neg (by omega), if_pos a] at hx
    rcases (mem_dIns _).1 hx with rfl | hx
    · exact b
    · exact hL x (mem_dLess (mem_dLess hx))
  · rw [if_neg (by omega), if_neg (by omega)] at hx
    exact hL x (mem_dLess hx)
theorem DOk.dirName {d : DiskP} (h : DOk d) (k : Nat) (hk : k ≤ d.turns.length) : ∀ x ∈ runT d.kept (d.turns.take k), pName x.name = true := by
  have h2 := (dok_iff d).1 h
  induction k with
  | zero =>
    intro x hx
    obtain ⟨i, hi, rfl⟩ := List.mem_iff_getElem.1 (show x ∈ d.kept by simpa [runT] using hx)
    exact (h.link i hi).1
  | succ k ih => rw [runT_take (by omega)]; exact pTurn_name (h2.turn0 k (by omega)) (ih (by omega))
theorem totLk_names : ∀ {L : List LkD}, (∀ x ∈ L, pName x.name = true) → totLk L ≤ 12 * L.length
  | [], _ => by simp [totLk]
  | x :: r, h => by
    have h1 := totLk_names (L := r) (fun y hy => h y (by simp [hy]))
    have h2 := pName_len (h x (by simp))
    unfold totLk LkW at *
    simp only [List.map_cons, List.sum_cons, List.length_cons] at *
    omega
attribute [local irreducible] TL TC TN TX TR TQ TA Pu Ret
set_option maxRecDepth 100000 in
set_option maxHeartbeats 4000000 in
theorem implDiskDir_c {w : World} {lo hi : Nat} {d : DiskP} {sn sk st : Value} (h : RDk w lo hi d sn sk st) (hf : d.fits) (hl : totD d ≤ 1048576) :
    Ret Tryz.prog 36 #[.agg (dskC d sn sk st).toArray] w fun v' w' => Ext w w' ∧ RowO LkC 162 2 w' w.heap.size w'.heap.size v' (pDirs d) := by
  have hh := h
  obtain ⟨ft1, ft2⟩ := fits_tk hf
  refine Ret_enter Tryz.func36 rfl rfl rfl ?_
  repeat' (first | apply Jbs | apply Jbt)
  refine TL_box (cs := dskC d sn sk st) rfl rfl ?_
  intro wb g E hg hz hb0
  clear hz
  repeat' (first | apply Jbq | apply Jbr | apply Jbs | apply Jbt | (apply Jcg; exact Jab rfl; exact rfl) | refine Jcg (Pu_loadAgg (cs := dskC d sn sk st) Us.h rfl Sz.h rfl (fun _ e j u hu => by rw [e, add0, hb0.cell]; exact hu)) rfl ?_)
  refine TL_call rfl en65 (implDiskOk_c (hh.ext E) hf hl) rfl rfl ?_
  rintro _ w1 ⟨rfl, e1⟩
  have E1 := E.ext e1
  have hb1 := hb0.ext e1
  cases hp : pDOk d with
  | false =>
    rw [pDirs_no (fun h => by rw [pDOk_yes h] at hp; cases hp)]
    repeat' (first | apply Jbq | apply Jbr | apply Jbs | apply Jbt | apply Jbu | apply Jbv | (refine Jce rfl ?_) | (apply Jcg; (first | exact Jab rfl | exact Jaj rfl); exact rfl))
    exact TR_of (res1 rfl rfl) ⟨E1, RowO.nil _ _ E1.size⟩
  | true =>
    have hD := pDOk_of hp
    have hB := hD.base
    unfold dBase at hB
    rw [pDirs_yes hD]
    repeat' (first | apply Jbq | apply Jbr | apply Jbs | apply Jbt | apply Jbz | (refine Jcf rfl ?_) | (apply Jcg; (first | exact Jaj rfl | (apply Jbl; exact Us.h; exact rfl; exact Sz.h; exact rfl)); exact rfl) | refine Jcg (Pu_load Fl.h rfl (fun _ e => by rw [e]; exact hb1.ld rfl)) rfl ?_)
    refine TL_call rfl en67 (dirOf_c (hh.2.1.ext E1) (hh.2.2.ext E1) (kept_asc ((dok_iff d).1 hD).link) (by omega) (by omega) ft1 ft2) rfl rfl ?_
    rintro _ w2 ⟨e2, hq⟩
    have E2 := E1.ext e2
    rcases hq with ⟨_, b, kb, rfl, _, _, hM⟩ | ⟨hA, _⟩
    · repeat' (first | apply Jbq | apply Jbr | apply Jbs | apply Jbt | (apply Jcg; (first | exact Jaa rfl | exact Jab rfl | exact Jae rfl rfl); exact rfl))
      refine TL_call rfl en69 (links_c hM (by have := hD.asc d.turns.length (Nat.le_refl _); rwa [List.take_length] at this) (by have := hD.dirLe d.turns.length (Nat.le_refl _); rw [List.take_length] at this; omega)) rfl rfl ?_
      rintro v3 w3 ⟨e3, ho3⟩
      repeat' (first | apply Jbq | apply Jbr | apply Jbu | (apply Jcg; exact Jab rfl; exact rfl))
      exact TR_of (res1 rfl rfl) ⟨E2.ext e3, ho3.wide E2.size (Nat.le_refl _) (Nat.le_refl _)⟩
    · exact absurd ((dok_iff d).1 hD).turn hA
end Go.Proofs.YtggaghghclomkaaGreat

/- The marks of texts. No condition. -/
namespace Go.Proofs.YtggaghghclomkaaGreat
open Go.RowKit
attribute [local irreducible] TL TC TN TX TR TQ TA Pu Ret

/-- The marks of texts. -/
def mtD (k : Nat) (acc : List UInt8) : List UInt8 := if k = 0 then acc else mtD (k / 10) (pb (48 + (k : Int) % 10) :: acc)
termination_by k
theorem mtD_zero (acc : List UInt8) : mtD 0 acc = acc := by rw [mtD, if_pos rfl]
theorem mtD_step {k : Nat} (h : k ≠ 0) (acc : List UInt8) : mtD k acc = mtD (k / 10) (pb (48 + (k : Int) % 10) :: acc) := by rw [mtD, if_neg h]
def markT (k : Nat) : List UInt8 := 109 :: mtD k []
set_option maxHeartbeats 1000000 in
theorem markText_c (k : Nat) (w : World) (h0 : 0 < k) (h1 : k ≤ 1099511627776000) : Ret Tryz.prog 98 #[I k] w fun v w' => v = S (markT k) ∧ Ext w w' := by
  refine Ret_enter Tryz.func98 rfl rfl rfl ?_
  repeat' (first | apply Jbq | apply Jbr | apply Jbs | apply Jbt | (apply Jcg; (first | exact Jaa rfl | exact Jab rfl | exact Jan rfl rfl); exact rfl))
  refine Jcx rfl (fun hb => by exfalso; omega) (fun hb => ?_)
  repeat' (first | apply Jbq | apply Jbr | apply Jbs | apply Jbt | apply Jby | apply Jbz | (apply Jcg; exact Jab rfl; exact rfl))
  refine TC_loop (ι := Nat × List UInt8) (fun x => [(0, I x.1), (3, S x.2)]) (fun x w' => x.1 ≤ k ∧ mtD k [] = mtD x.1 x.2 ∧ x.2.length + x.1 ≤ k ∧ Ext w w') (fun x => x.1) (k, []) (subEnv_cons rfl (subEnv_cons rfl (subEnv_nil _))) ⟨Nat.le_refl _, rfl, by simp, Ch.refl _ _⟩ ?_
  rintro ⟨m, acc⟩ w2 ⟨hm, heq, hlen, e2⟩
  simp only at hm heq hlen
  repeat' (first | apply Jbq | apply Jbr | apply Jbs | apply Jbt | (apply Jcg; (first | exact Jaa rfl | exact Jam rfl rfl); exact rfl))
  refine Jcx rfl (fun hb => ?_) (fun hb => ?_)
  · repeat' (first | apply Jbr | apply Jbs | apply Jbt | apply Jby | apply Jbz | (apply Jcg; (first | exact Jaa rfl | exact Jaf rfl rfl (by omega) | exact Jaw Us.h Us.h rfl | exact Jbj rfl rfl (by omega)); exact rfl))
    refine TL_buildSlice Us.h Zi.h rfl rfl rfl rfl (fillu1 _) rfl rfl ?_
    intro w3 g e3 hg hz hown
    repeat' (first | apply Jbq | apply Jbr | apply Jbt | apply Jbx | (apply Jcg; (first | exact Jaa rfl | exact Jab rfl | exact Jbi rfl rfl (by omega)); exact rfl) | refine Jcg (Pu_string Us.h Us.h Us.h rfl (fun w' e => by rw [e]; exact ⟨_, _, hown.rd⟩)) rfl ?_ | refine Jcg (Pu_adds rfl rfl (by simp only [List.length_cons, List.length_nil]; omega)) rfl ?_)
    refine TN_round (m / 10, pb (48 + (m : Int) % 10) :: acc) (subEnv_cons rfl (subEnv_cons rfl (subEnv_nil _))) ⟨by omega, ?_, ?_, e2.ext e3⟩ (by simp only; omega)
    · rw [heq, mtD_step (by omega)]
    · simp only [List.length_cons]; omega
  · obtain rfl : m = 0 := by omega
    rw [mtD_zero] at heq
    repeat' (first | apply Jbq | apply Jbr | apply Jbs | apply Jbt | apply Jbu | apply Jca | apply Jcb | apply Jcc | (apply Jcg; (first | exact Jaa rfl | exact Jab rfl); exact rfl) | refine Jcg (Pu_adds (s1 := [109]) rfl rfl (by simp only [List.length_cons, List.length_nil]; omega)) rfl ?_)
    exact TR_of (res1 rfl rfl) ⟨by unfold markT; rw [heq]; rfl, e2⟩
end Go.Proofs.YtggaghghclomkaaGreat

/- Contracts of the laws' own helpers on links, turns and nodes that a call owns: marks. -/
namespace Go.Proofs.YtggaghghclomkaaGreat
open Go.RowKit
attribute [local irreducible] TL TC TN TX TR TQ TA Pu Ret
theorem add_lit3 (g a b : Nat) : ((⟨g, 0, none⟩ : Addr).add a).add b = ⟨g, a + b, none⟩ := by rw [add_of_add, add0]
def mkK (k : Int) (n : Nat) : List LkD := (List.range n).map fun (i : Nat) => ⟨markT (k + 2 * (i : Int)).toNat, k + 2 * (i : Int) + 1⟩
@[simp] theorem mkK_length (k : Int) (n : Nat) : (mkK k n).length = n := by simp [mkK]
theorem mkK_get (k : Int) (n i : Nat) (h : i < (mkK k n).length) : (mkK k n)[i] = ⟨markT (k + 2 * (i : Int)).toNat, k + 2 * (i : Int) + 1⟩ := by simp [mkK]
def mkTu (k : Int) (n : Nat) : List TnD := (List.range n).map fun (i : Nat) => ⟨k + 4 * (i : Int), markT (k + 4 * (i : Int) + 1).toNat, markT (k + 4 * (i : Int) + 2).toNat, k + 4 * (i : Int) + 3⟩
@[simp] theorem mkTu_length (k : Int) (n : Nat) : (mkTu k n).length = n := by simp [mkTu]
theorem mkTu_get (k : Int) (n i : Nat) (h : i < (mkTu k n).length) : (mkTu k n)[i] = ⟨k + 4 * (i : Int), markT (k + 4 * (i : Int) + 1).toNat, markT (k + 4 * (i : Int) + 2).toNat, k + 4 * (i : Int) + 3⟩ := by simp [mkTu]
theorem nat_of {x : Int} (h : 0 ≤ x) : ∃ m : Nat, x = (m : Int) := ⟨x.toNat, by omega⟩
set_option maxHeartbeats 1000000 in
theorem markLinkS_c {lo hi n c : Nat} {A : Option Addr} {xs : List Value} {k : Int} {w : World} (ho : Own w lo hi 162 2 A n c xs) (hl : n ≤ 1099511627776) (hk0 : 0 < k) (hk1 : k ≤ 1099511627776) :
    Ret Tryz.prog 76 #[.slice A n c, I k] w fun v w' => v = I (k + 2 * n) ∧ Ch (fun j => Iv lo hi j) w w' ∧ w.heap.size ≤ w'.heap.size ∧ Own w' lo hi 162 2 A n c (cellsL LkC (mkK k n)) := by
  have hlen := ho.len
  have hel : (cellsL LkC (mkK k n)).length = n * 2 := by rw [cellsL_length LkC_len, mkK_length]
  have hhi := ho.hi_le
  refine Ret_enter Tryz.func76 rfl rfl rfl ?_
  repeat' (first | apply Jbq | apply Jbr | apply Jbs | apply Jbt | apply Jby | (apply Jcg; exact Jab rfl; exact rfl))
  refine TC_loop (ι := Nat) (fun i => [(0, .slice A n c), (1, I (k + 2 * (i : Int))), (5, I i)]) (fun i w' => i ≤ n ∧ Ch (fun j => Iv lo hi j) w w' ∧ Own w' lo hi 162 2 A n c (overTo (cellsL LkC (mkK k n)) xs (i * 2))) (fun i => n - i) 0
    (subEnv_cons rfl (subEnv_cons (congrArg (fun z => some (I z)) (by omega)) (subEnv_cons rfl (subEnv_nil _)))) ⟨Nat.zero_le _, Ch.refl _ _, by rw [Nat.zero_mul, overTo_zero]; exact ho⟩ ?_
  intro i w2 ⟨hi2, c2, ho2⟩
  repeat' (first | apply Jbq | apply Jbr | apply Jbs | apply Jbt | (apply Jcg; (first | exact Jaa rfl | exact Jac Us.h rfl | exact Jad rfl rfl); exact rfl))
  refine Jcx rfl (fun hlt => ?_) (fun hge => ?_)
  · have hlt : i < n := by omega
    rcases ho2.head with rfl | ⟨g, rfl, hg1, hg2⟩
    · obtain ⟨ad, h, _⟩ := ho2.rd.at_ (by omega)
      cases h
    · have hcell0 : (cellsL LkC (mkK k n))[i * 2 + 0]? = some (S (markT (k + 2 * (i : Int)).toNat)) := by rw [cellsL_at LkC_len (mkK k n) i 0 (by simpa using hlt) (by omega), mkK_get]; rfl
      have hcell1 : (cellsL LkC (mkK k n))[i * 2 + 1]? = some (I (k + 2 * (i : Int) + 1)) := by rw [cellsL_at LkC_len (mkK k n) i 1 (by simpa using hlt) (by omega), mkK_get]; rfl
      rw [Nat.add_zero] at hcell0
      obtain ⟨m, hm⟩ := nat_of (x := k + 2 * (i : Int)) (by omega)
      repeat' (first | apply Jbr | apply Jbs | apply Jbt | apply Jby | apply Jbz | (apply Jcg; exact Jaa rfl; exact rfl))
      rw [hm]
      refine TL_call rfl en98 (markText_c m _ (by omega) (by omega)) rfl rfl ?_
      rintro _ w4 ⟨rfl, e4⟩
      repeat' ((apply Jcg; (first | exact Jar Us.h Sz.h rfl rfl (by omega) | (apply Jbl; exact Us.h; exact rfl; exact Sz.h; exact rfl)); exact rfl))
      refine TL_storeOwn rfl (add_lit3 g (i * 2) 0) rfl Sz.h rfl (ho2.ext e4) (by omega) ?_
      intro w3 c3 hz3 ho3
      rw [Nat.add_zero, show S (markT m) = (cellsL LkC (mkK k n)).getD (i * 2) undef from by rw [List.getD_eq_getElem?_getD, hcell0, hm]; rfl, overTo_set _ _ _ (by omega) (by omega)] at ho3
      repeat' (first | apply Jbq | apply Jbr | apply Jbs | apply Jbt | (apply Jcg; (first | exact Jaa rfl | exact Jab rfl | exact Jaf rfl rfl (by omega) | exact Jar Us.h Sz.h rfl rfl (by omega) | (apply Jbl; exact Us.h; exact rfl; exact Sz.h; exact rfl)); exact rfl))
      refine TL_storeOwn rfl (add_lit3 g (i * 2) 1) rfl Sz.h rfl ho3 (by omega) ?_
      intro w5 c5 hz5 ho5
      rw [show I ((m : Int) + 1) = (cellsL LkC (mkK k n)).getD (i * 2 + 1) undef from by rw [List.getD_eq_getElem?_getD, hcell1, hm]; rfl, overTo_set _ _ _ (by omega) (by omega)] at ho5
      have c3' : Ch (fun j => Iv lo hi j) w4 w3 := c3.mono (fun j hj => by simp only [Iv] at *; omega)
      have c5' : Ch (fun j => Iv lo hi j) w3 w5 := c5.mono (fun j hj => by simp only [Iv] at *; omega)
      have e4' : Ch (fun j => Iv lo hi j) w2 w4 := e4.mono (fun j hj => by cases hj)
      repeat' (first | apply Jbq | apply Jbr | apply Jbt | apply Jbx | (apply Jcg; (first | exact Jaa rfl | exact Jab rfl | exact Jaf rfl rfl (by omega)); exact rfl))
      exact TN_round (i + 1) (subEnv_cons rfl (subEnv_cons (congrArg (fun z => some (I z)) (by omega)) (subEnv_cons rfl (subEnv_nil _)))) ⟨hlt, ((c2.then e4').then c3').then c5', by rw [Nat.succ_mul]; exact ho5⟩ (by omega)
  · obtain rfl : i = n := by omega
    rw [show i * 2 = xs.length from hlen.symm, overTo_all _ _ (by omega)] at ho2
    repeat' (first | apply Jbq | apply Jbr | apply Jbs | apply Jbt | apply Jbu | apply Jca | apply Jcb | apply Jcc | (apply Jcg; (first | exact Jaa rfl | exact Jab rfl); exact rfl))
    exact TR_of (res1 rfl rfl) ⟨rfl, c2, c2.size, ho2⟩
set_option maxHeartbeats 1000000 in
theorem heldLinkS_c {lo hi n c : Nat} {A : Option Addr} {k : Int} {w : World} (hr : Rd w lo hi 2 A n (cellsL LkC (mkK k n))) (hl : n ≤ 1099511627776) (hk0 : 0 < k) (hk1 : k ≤ 1099511627776) :
    Ret Tryz.prog 79 #[.slice A n c, I k] w fun v w' => v = I (k + 2 * n) ∧ Ext w w' := by
  refine Ret_enter Tryz.func79 rfl rfl rfl ?_
  repeat' (first | apply Jbq | apply Jbr | apply Jbs | apply Jbt | apply Jby | (apply Jcg; exact Jab rfl; exact rfl))
  refine TC_loop (ι := Nat) (fun i => [(0, .slice A n c), (1, I (k + 2 * (i : Int))), (5, I i)]) (fun i w' => i ≤ n ∧ Ext w w') (fun i => n - i) 0
    (subEnv_cons rfl (subEnv_cons (congrArg (fun z => some (I z)) (by omega)) (subEnv_cons rfl (subEnv_nil _)))) ⟨Nat.zero_le _, Ch.refl _ _⟩ ?_
  intro i w2 ⟨hi2, e2⟩
  repeat' (first | apply Jbq | apply Jbr | apply Jbs | apply Jbt | (apply Jcg; (first | exact Jaa rfl | exact Jac Us.h rfl | exact Jad rfl rfl); exact rfl))
  refine Jcx rfl (fun hlt => ?_) (fun hge => ?_)
  · have hlt : i < n := by omega
    have hr' : Rd w2 lo hi 2 A (mkK k n).length (cellsL LkC (mkK k n)) := by rw [mkK_length]; exact hr.ext e2
    obtain ⟨ad, rfl, hc⟩ := Rd.elem LkC_len hr' (k := i) (by simpa using hlt)
    rw [mkK_get] at hc
    have h0 := hc 0 _ rfl
    have h1 := hc 1 _ rfl
    obtain ⟨m, hm⟩ := nat_of (x := k + 2 * (i : Int)) (by omega)
    rw [hm, Int.toNat_natCast] at h0
    repeat' (first | apply Jbr | apply Jbs | apply Jby | apply Jbz)
    rw [hm]
    rw [hm] at h1
    refine TC_any mixed rfl ?_
    intro w3 hE hz3
    (refine Jco 0 rfl (by kernel_rfl) (by kernel_rfl) (by kernel_rfl) (fun _ _ _ h => h) hE (by exact Jaa rfl) rfl ?_; refine Jco 1 rfl (by kernel_rfl) (by kernel_rfl) (by kernel_rfl) (fun _ _ _ h => h) hE (by exact Jaa rfl) rfl ?_; refine Jco 2 rfl (by kernel_rfl) (by kernel_rfl) (by kernel_rfl) (fun _ _ _ h => h) hE (by exact Jar Us.h Sz.h rfl rfl (by omega)) rfl ?_; refine Jco 3 rfl (by kernel_rfl) (by kernel_rfl) (by kernel_rfl) (fun _ _ _ h => h) hE (by (apply Jbl; exact Us.h; exact rfl; exact Sz.h; exact rfl)) rfl ?_; refine Jco 4 rfl (by kernel_rfl) (by kernel_rfl) (by kernel_rfl) (fun _ _ _ h => h) hE (by exact Pu_load Fl.h rfl (fun _ e => Ext.cell e h0)) rfl ?_; refine Jco 5 rfl (by kernel_rfl) (by kernel_rfl) (by kernel_rfl) (fun _ _ _ h => h) hE (by exact Jaa rfl) rfl ?_)
    refine TA_one 6 (by kernel_rfl) rfl ?_
    refine TL_call rfl en98 (markText_c m _ (by omega) (by omega)) rfl rfl ?_
    rintro _ w4 ⟨rfl, e4⟩
    replace hE := hE.ext e4
    refine Jbq (TN_any hE ?_)
    refine Jco 7 rfl (by kernel_rfl) (by kernel_rfl) (by kernel_rfl) (fun _ _ _ h => h) hE (Jbo rfl rfl) rfl ?_
    refine TA_done (by kernel_rfl) ?_
    have h1' : w4.cell? ((ad.add (i * 2)).add 1) = some (I ((m : Int) + 1)) := Ext.cell hE h1
    repeat' (first | apply Jbq | apply Jbr | apply Jbs | apply Jbt | apply Jbz | (refine Jcf rfl ?_) | (apply Jcg; (first | exact Jaa rfl | exact Jab rfl | exact Jaf rfl rfl (by omega) | exact Jal rfl rfl | exact Jar Us.h Sz.h rfl rfl (by omega) | (apply Jbl; exact Us.h; exact rfl; exact Sz.h; exact rfl)); exact rfl) | refine Jcg (Pu_load Fl.h rfl (fun _ e => by rw [e]; exact h1')) rfl ?_)
    refine Jcf (by rw [show (!decide ((m : Int) + 1 = (m : Int) + 1)) = false from by simp]; rfl) ?_
    repeat' (first | apply Jbq | apply Jbr | apply Jbt | apply Jbx | apply Jbz | (apply Jcg; (first | exact Jaa rfl | exact Jab rfl | exact Jaf rfl rfl (by omega)); exact rfl))
    exact TN_round (i + 1) (subEnv_cons rfl (subEnv_cons (congrArg (fun z => some (I z)) (by omega)) (subEnv_cons rfl (subEnv_nil _)))) ⟨hlt, e2.ext hE⟩ (by omega)
  · obtain rfl : i = n := by omega
    repeat' (first | apply Jbq | apply Jbr | apply Jbs | apply Jbt | apply Jbu | apply Jca | apply Jcb | apply Jcc | (apply Jcg; (first | exact Jaa rfl | exact Jab rfl); exact rfl))
    exact TR_of (res1 rfl rfl) ⟨rfl, e2⟩
set_option maxHeartbeats 2000000 in
theorem markTurnS_c {lo hi n c : Nat} {A : Option Addr} {xs : List Value} {k : Int} {w : World} (ho : Own w lo hi 121 4 A n c xs) (hl : n ≤ 1099511627776) (hk0 : 0 < k) (hk1 : k ≤ 1099511627776) :
    Ret Tryz.prog 77 #[.slice A n c, I k] w fun v w' => v = I (k + 4 * n) ∧ Ch (fun j => Iv lo hi j) w w' ∧ w.heap.size ≤ w'.heap.size ∧ Own w' lo hi 121 4 A n c (cellsL TnC (mkTu k n)) := by
  have hlen := ho.len
  have hel : (cellsL TnC (mkTu k n)).length = n * 4 := by rw [cellsL_length TnC_len, mkTu_length]
  have hhi := ho.hi_le
  refine Ret_enter Tryz.func77 rfl rfl rfl ?_
  repeat' (first | apply Jbq | apply Jbr | apply Jbs | apply Jbt | apply Jby | (apply Jcg; exact Jab rfl; exact rfl))
  refine TC_loop (ι := Nat) (fun i => [(0, .slice A n c), (1, I (k + 4 * (i : Int))), (5, I i)]) (fun i w' => i ≤ n ∧ Ch (fun j => Iv lo hi j) w w' ∧ Own w' lo hi 121 4 A n c (overTo (cellsL TnC (mkTu k n)) xs (i * 4))) (fun i => n - i) 0
    (subEnv_cons rfl (subEnv_cons (congrArg (fun z => some (I z)) (by omega)) (subEnv_cons rfl (subEnv_nil _)))) ⟨Nat.zero_le _, Ch.refl _ _, by rw [Nat.zero_mul, overTo_zero]; exact ho⟩ ?_
  intro i w2 ⟨hi2, c2, ho2⟩
  repeat' (first | apply Jbq | apply Jbr | apply Jbs | apply Jbt | (apply Jcg; (first | exact Jaa rfl | exact Jac Us.h rfl | exact Jad rfl rfl); exact rfl))
  refine Jcx rfl (fun hlt => ?_) (fun hge => ?_)
  · have hlt : i < n := by omega
    rcases ho2.head with rfl | ⟨g, rfl, hg1, hg2⟩
    · obtain ⟨ad, h, _⟩ := ho2.rd.at_ (by omega)
      cases h
    · have hcell : ∀ j u, j < 4 → (TnC ⟨k + 4 * (i : Int), markT (k + 4 * (i : Int) + 1).toNat, markT (k + 4 * (i : Int) + 2).toNat, k + 4 * (i : Int) + 3⟩)[j]? = some u → (cellsL TnC (mkTu k n)).getD (i * 4 + j) undef = u := fun j u hj hu => by
        rw [List.getD_eq_getElem?_getD, cellsL_at TnC_len (mkTu k n) i j (by simpa using hlt) hj, mkTu_get, hu]; rfl
      obtain ⟨m, hm⟩ := nat_of (x := k + 4 * (i : Int)) (by omega)
      rw [hm, show ((m : Int) + 1).toNat = m + 1 by omega, show ((m : Int) + 2).toNat = m + 2 by omega] at hcell
      repeat' (first | apply Jbr | apply Jbs | apply Jbt | apply Jby | apply Jbz | (apply Jcg; (first | exact Jaa rfl | exact Jar Us.h Sz.h rfl rfl (by omega) | (apply Jbl; exact Us.h; exact rfl; exact Sz.h; exact rfl)); exact rfl))
      rw [hm]
      refine TL_storeOwn rfl (add_lit3 g (i * 4) 0) rfl Sz.h rfl ho2 (by omega) ?_
      intro w3 c3 hz3 ho3
      have hc0 := hcell 0 _ (by omega) rfl
      rw [Nat.add_zero] at hc0 ho3
      rw [← hc0, overTo_set _ _ _ (by omega) (by omega)] at ho3
      repeat' (first | apply Jbq | apply Jbr | apply Jbs | apply Jbt | (apply Jcg; (first | exact Jaa rfl | exact Jab rfl | exact Jaf rfl rfl (by omega)); exact rfl))
      refine TL_call rfl en98 (markText_c (m + 1) _ (by omega) (by omega)) rfl rfl ?_
      rintro _ w4 ⟨rfl, e4⟩
      repeat' ((apply Jcg; (first | exact Jar Us.h Sz.h rfl rfl (by omega) | (apply Jbl; exact Us.h; exact rfl; exact Sz.h; exact rfl)); exact rfl))
      refine TL_storeOwn rfl (add_lit3 g (i * 4) 1) rfl Sz.h rfl (ho3.ext e4) (by omega) ?_
      intro w5 c5 hz5 ho5
      rw [← hcell 1 _ (by omega) rfl, overTo_set _ _ _ (by omega) (by omega)] at ho5
      repeat' (first | apply Jbq | apply Jbr | apply Jbs | apply Jbt | (apply Jcg; (first | exact Jaa rfl | exact Jab rfl | exact Jaf rfl rfl (by omega)); exact rfl))
      refine TL_call rfl en98 (markText_c (m + 2) _ (by omega) (by omega)) rfl rfl ?_
      rintro _ w6 ⟨rfl, e6⟩
      repeat' ((apply Jcg; (first | exact Jar Us.h Sz.h rfl rfl (by omega) | (apply Jbl; exact Us.h; exact rfl; exact Sz.h; exact rfl)); exact rfl))
      refine TL_storeOwn rfl (add_lit3 g (i * 4) 2) rfl Sz.h rfl (ho5.ext e6) (by omega) ?_
      intro w7 c7 hz7 ho7
      rw [← hcell 2 _ (by omega) rfl, overTo_set _ _ _ (by omega) (by omega)] at ho7
      repeat' (first | apply Jbq | apply Jbr | apply Jbs | apply Jbt | (apply Jcg; (first | exact Jaa rfl | exact Jab rfl | exact Jaf rfl rfl (by omega) | exact Jar Us.h Sz.h rfl rfl (by omega) | (apply Jbl; exact Us.h; exact rfl; exact Sz.h; exact rfl)); exact rfl))
      refine TL_storeOwn rfl (add_lit3 g (i * 4) 3) rfl Sz.h rfl ho7 (by omega) ?_
      intro w8 c8 hz8 ho8
      rw [show I ((m : Int) + 1 + 1 + 1) = I ((m : Int) + 3) from congrArg I (by omega), ← hcell 3 _ (by omega) rfl, overTo_set _ _ _ (by omega) (by omega)] at ho8
      have c3' : Ch (fun j => Iv lo hi j) w2 w3 := c3.mono (fun j hj => by simp only [Iv] at *; omega)
      have c5' : Ch (fun j => Iv lo hi j) w4 w5 := c5.mono (fun j hj => by simp only [Iv] at *; omega)
      have c7' : Ch (fun j => Iv lo hi j) w6 w7 := c7.mono (fun j hj => by simp only [Iv] at *; omega)
      have c8' : Ch (fun j => Iv lo hi j) w7 w8 := c8.mono (fun j hj => by simp only [Iv] at *; omega)
      have e4' : Ch (fun j => Iv lo hi j) w3 w4 := e4.mono (fun j hj => by cases hj)
      have e6' : Ch (fun j => Iv lo hi j) w5 w6 := e6.mono (fun j hj => by cases hj)
      repeat' (first | apply Jbq | apply Jbr | apply Jbt | apply Jbx | (apply Jcg; (first | exact Jaa rfl | exact Jab rfl | exact Jaf rfl rfl (by omega)); exact rfl))
      exact TN_round (i + 1) (subEnv_cons rfl (subEnv_cons (congrArg (fun z => some (I z)) (by omega)) (subEnv_cons rfl (subEnv_nil _)))) ⟨hlt, (((((c2.then c3').then e4').then c5').then e6').then c7').then c8', by rw [Nat.succ_mul]; exact ho8⟩ (by omega)
  · obtain rfl : i = n := by omega
    rw [show i * 4 = xs.length from hlen.symm, overTo_all _ _ (by omega)] at ho2
    repeat' (first | apply Jbq | apply Jbr | apply Jbs | apply Jbt | apply Jbu | apply Jca | apply Jcb | apply Jcc | (apply Jcg; (first | exact Jaa rfl | exact Jab rfl); exact rfl))
    exact TR_of (res1 rfl rfl) ⟨rfl, c2, c2.size, ho2⟩
set_option maxHeartbeats 2000000 in
theorem heldTurnS_c {lo hi n c : Nat} {A : Option Addr} {k : Int} {w : World} (hr : Rd w lo hi 4 A n (cellsL TnC (mkTu k n))) (hl : n ≤ 1099511627776) (hk0 : 0 < k) (hk1 : k ≤ 1099511627776) :
    Ret Tryz.prog 80 #[.slice A n c, I k] w fun v w' => v = I (k + 4 * n) ∧ Ext w w' := by
  refine Ret_enter Tryz.func80 rfl rfl rfl ?_
  repeat' (first | apply Jbq | apply Jbr | apply Jbs | apply Jbt | apply Jby | (apply Jcg; exact Jab rfl; exact rfl))
  refine TC_loop (ι := Nat) (fun i => [(0, .slice A n c), (1, I (k + 4 * (i : Int))), (5, I i)]) (fun i w' => i ≤ n ∧ Ext w w') (fun i => n - i) 0
    (subEnv_cons rfl (subEnv_cons (congrArg (fun z => some (I z)) (by omega)) (subEnv_cons rfl (subEnv_nil _)))) ⟨Nat.zero_le _, Ch.refl _ _⟩ ?_
  intro i w2 ⟨hi2, e2⟩
  repeat' (first | apply Jbq | apply Jbr | apply Jbs | apply Jbt | (apply Jcg; (first | exact Jaa rfl | exact Jac Us.h rfl | exact Jad rfl rfl); exact rfl))
  refine Jcx rfl (fun hlt => ?_) (fun hge => ?_)
  · have hlt : i < n := by omega
    have hr' : Rd w2 lo hi 4 A (mkTu k n).length (cellsL TnC (mkTu k n)) := by rw [mkTu_length]; exact hr.ext e2
    obtain ⟨ad, rfl, hc⟩ := Rd.elem TnC_len hr' (k := i) (by simpa using hlt)
    rw [mkTu_get] at hc
    obtain ⟨m, hm⟩ := nat_of (x := k + 4 * (i : Int)) (by omega)
    rw [hm, show ((m : Int) + 1).toNat = m + 1 by omega, show ((m : Int) + 2).toNat = m + 2 by omega] at hc
    have h0 := hc 0 _ rfl
    have h1 := hc 1 _ rfl
    have h2 := hc 2 _ rfl
    have h3 := hc 3 _ rfl
    repeat' (first | apply Jbq | apply Jbr | apply Jbs | apply Jbt | apply Jby | apply Jbz | (apply Jcg; (first | exact Jaa rfl | exact Jal rfl rfl | exact Jar Us.h Sz.h rfl rfl (by omega) | (apply Jbl; exact Us.h; exact rfl; exact Sz.h; exact rfl)); exact rfl) | refine Jcg (Pu_load Fl.h rfl (fun _ e => by rw [e]; exact h0)) rfl ?_)
    rw [hm]
    refine Jcf (by rw [show (!decide ((m : Int) = (m : Int))) = false from by simp]; rfl) ?_
    repeat' (first | apply Jbq | apply Jbr | apply Jbs | apply Jbt | apply Jbz | (apply Jcg; (first | exact Jaa rfl | exact Jab rfl | exact Jaf rfl rfl (by omega)); exact rfl))
    refine TC_any mixed rfl ?_
    intro w3 hE hz3
    (refine Jco 0 rfl (by kernel_rfl) (by kernel_rfl) (by kernel_rfl) (fun _ _ _ h => h) hE (by exact Jaa rfl) rfl ?_; refine Jco 1 rfl (by kernel_rfl) (by kernel_rfl) (by kernel_rfl) (fun _ _ _ h => h) hE (by exact Jaa rfl) rfl ?_; refine Jco 2 rfl (by kernel_rfl) (by kernel_rfl) (by kernel_rfl) (fun _ _ _ h => h) hE (by exact Jar Us.h Sz.h rfl rfl (by omega)) rfl ?_; refine Jco 3 rfl (by kernel_rfl) (by kernel_rfl) (by kernel_rfl) (fun _ _ _ h => h) hE (by (apply Jbl; exact Us.h; exact rfl; exact Sz.h; exact rfl)) rfl ?_; refine Jco 4 rfl (by kernel_rfl) (by kernel_rfl) (by kernel_rfl) (fun _ _ _ h => h) hE (by exact Pu_load Fl.h rfl (fun _ e => Ext.cell e h1)) rfl ?_; refine Jco 5 rfl (by kernel_rfl) (by kernel_rfl) (by kernel_rfl) (fun _ _ _ h => h) hE (by exact Jaa rfl) rfl ?_)
    refine TA_one 6 (by kernel_rfl) rfl ?_
    refine TL_call rfl en98 (markText_c (m + 1) _ (by omega) (by omega)) rfl rfl ?_
    rintro _ w4 ⟨rfl, e4⟩
    replace hE := hE.ext e4
    refine Jbq (TN_any hE ?_)
    refine Jco 7 rfl (by kernel_rfl) (by kernel_rfl) (by kernel_rfl) (fun _ _ _ h => h) hE (Jbo rfl rfl) rfl ?_
    refine TA_done (by kernel_rfl) ?_
    have h2' := Ext.cell hE h2
    have h3' := Ext.cell hE h3
    have E4 := e2.ext hE
    repeat' (first | apply Jbq | apply Jbr | apply Jbs | apply Jbt | apply Jbz | (refine Jcf rfl ?_) | (apply Jcg; (first | exact Jaa rfl | exact Jab rfl | exact Jaf rfl rfl (by omega)); exact rfl))
    refine TC_any mixed rfl ?_
    clear hE
    intro w5 hE hz5
    (refine Jco 0 rfl (by kernel_rfl) (by kernel_rfl) (by kernel_rfl) (fun _ _ _ h => h) hE (by exact Jaa rfl) rfl ?_; refine Jco 1 rfl (by kernel_rfl) (by kernel_rfl) (by kernel_rfl) (fun _ _ _ h => h) hE (by exact Jaa rfl) rfl ?_; refine Jco 2 rfl (by kernel_rfl) (by kernel_rfl) (by kernel_rfl) (fun _ _ _ h => h) hE (by exact Jar Us.h Sz.h rfl rfl (by omega)) rfl ?_; refine Jco 3 rfl (by kernel_rfl) (by kernel_rfl) (by kernel_rfl) (fun _ _ _ h => h) hE (by (apply Jbl; exact Us.h; exact rfl; exact Sz.h; exact rfl)) rfl ?_; refine Jco 4 rfl (by kernel_rfl) (by kernel_rfl) (by kernel_rfl) (fun _ _ _ h => h) hE (by exact Pu_load Fl.h rfl (fun _ e => Ext.cell e h2')) rfl ?_; refine Jco 5 rfl (by kernel_rfl) (by kernel_rfl) (by kernel_rfl) (fun _ _ _ h => h) hE (by exact Jaa rfl) rfl ?_)
    refine TA_one 6 (by kernel_rfl) rfl ?_
    refine TL_call rfl en98 (markText_c (m + 2) _ (by omega) (by omega)) rfl rfl ?_
    rintro _ w6 ⟨rfl, e6⟩
    replace hE := hE.ext e6
    refine Jbq (TN_any hE ?_)
    refine Jco 7 rfl (by kernel_rfl) (by kernel_rfl) (by kernel_rfl) (fun _ _ _ h => h) hE (Jbo rfl rfl) rfl ?_
    refine TA_done (by kernel_rfl) ?_
    have h3'' : w6.cell? ((ad.add (i * 4)).add 3) = some (I ((m : Int) + 3)) := Ext.cell hE h3'
    repeat' (first | apply Jbq | apply Jbr | apply Jbs | apply Jbt | apply Jbz | (refine Jcf rfl ?_) | (apply Jcg; (first | exact Jaa rfl | exact Jab rfl | exact Jaf rfl rfl (by omega) | exact Jal rfl rfl | exact Jar Us.h Sz.h rfl rfl (by omega) | (apply Jbl; exact Us.h; exact rfl; exact Sz.h; exact rfl)); exact rfl) | refine Jcg (Pu_load Fl.h rfl (fun _ e => by rw [e]; exact h3'')) rfl ?_)
    refine Jcf (by rw [show (!decide ((m : Int) + 3 = (m : Int) + 1 + 1 + 1)) = false from by simp; omega]; rfl) ?_
    repeat' (first | apply Jbq | apply Jbr | apply Jbt | apply Jbx | apply Jbz | (apply Jcg; (first | exact Jaa rfl | exact Jab rfl | exact Jaf rfl rfl (by omega)); exact rfl))
    exact TN_round (i + 1) (subEnv_cons rfl (subEnv_cons (congrArg (fun z => some (I z)) (by omega)) (subEnv_cons rfl (subEnv_nil _)))) ⟨hlt, E4.ext hE⟩ (by omega)
  · obtain rfl : i = n := by omega
    repeat' (first | apply Jbq | apply Jbr | apply Jbs | apply Jbt | apply Jbu | apply Jca | apply Jcb | apply Jcc | (apply Jcg; (first | exact Jaa rfl | exact Jab rfl); exact rfl))
    exact TR_of (res1 rfl rfl) ⟨rfl, e2⟩
end Go.Proofs.YtggaghghclomkaaGreat

/- Nodes and disks that a call owns, block by block; their marks. -/
namespace Go.Proofs.YtggaghghclomkaaGreat
open Go.RowKit
def blk : Value → List Nat
  | .slice (some ad) _ _ => [ad.block]
  | _ => []
section
variable {w w' : World} {lo hi size n c : Nat} {e : TypeId} {A : Option Addr} {xs : List Value} {T : Nat → Prop}
theorem Own.bin (h : Own w lo hi e size A n c xs) : ∀ b ∈ blk (.slice A n c), lo ≤ b ∧ b < hi := by
  intro b hb
  rcases A with _ | ad
  · cases hb
  · rw [List.mem_singleton.1 hb]; exact ⟨h.ge _ rfl, h.lt _ rfl⟩
theorem Own.narrow (h : Own w lo hi e size A n c xs) : ∃ lo' hi', Own w lo' hi' e size A n c xs ∧ ∀ k, lo' ≤ k → k < hi' → k ∈ blk (.slice A n c) := by
  rcases h.row.2 with ⟨hv, h0⟩ | ⟨g, cap, cur, hv, h3, h4, h5⟩
  · have hA : A = none := by injection hv
    subst hA
    exact ⟨0, 0, ⟨Nat.zero_le _, ⟨h.len, .inl ⟨hv, h0⟩⟩, fun ad ha => by cases ha⟩, fun k _ hk => absurd hk (Nat.not_lt_zero _)⟩
  · have hA : A = some ⟨g, 0, none⟩ := by injection hv
    subst hA
    exact ⟨g, g + 1, ⟨(Array.getElem?_eq_some_iff.1 h4).1, ⟨h.len, .inr ⟨g, cap, cur, hv, Nat.le_refl _, h4, h5⟩⟩, fun ad ha => by injection ha with ha; subst ha; exact Nat.lt_succ_self _⟩, fun k h1 h2 => by
      obtain rfl : k = g := by omega
      exact List.mem_singleton.2 rfl⟩
/-- Owned: whatever does not touch its own block keeps it. -/
def OBx (w : World) (v : Value) (s : List UInt8) : Prop := ∃ lo hi, OB w lo hi v s ∧ ∀ k, lo ≤ k → k < hi → k ∈ blk v
theorem OB.x {v : Value} {s : List UInt8} (h : OB w lo hi v s) : OBx w v s := by
  obtain ⟨A, c, rfl, ho⟩ := h
  obtain ⟨lo', hi', h1, h2⟩ := ho.narrow
  exact ⟨lo', hi', ⟨A, c, rfl, h1⟩, h2⟩
theorem OB.bin {v : Value} {s : List UInt8} (h : OB w lo hi v s) : ∀ b ∈ blk v, lo ≤ b ∧ b < hi := by
  obtain ⟨A, c, rfl, ho⟩ := h
  exact ho.bin
theorem OB.wide {lo' hi' : Nat} {v : Value} {s : List UInt8} (h : OB w lo hi v s) (h1 : lo' ≤ lo) (h2 : hi ≤ hi') (h3 : hi' ≤ w.heap.size) : OB w lo' hi' v s := by
  obtain ⟨A, c, rfl, ho⟩ := h
  exact ⟨A, c, rfl, ho.wide h1 h2 h3⟩
theorem OBx.ch {v : Value} {s : List UInt8} (h : OBx w v s) (k : Ch T w w') (hd : ∀ b ∈ blk v, ¬ T b) : OBx w' v s := by
  obtain ⟨lo, hi, h1, h2⟩ := h
  exact ⟨lo, hi, h1.ch k (fun j a b => hd j (h2 j a b)), h2⟩
theorem OBx.ext {v : Value} {s : List UInt8} (h : OBx w v s) (k : Ext w w') : OBx w' v s := h.ch k (fun _ _ t => t)
/-- A region that holds the value's block bears its reading. -/
theorem OBx.at_ {v : Value} {s : List UInt8} (h : OBx w v s) (hb : ∀ b ∈ blk v, lo ≤ b ∧ b < hi) (hs : hi ≤ w.heap.size) : OB w lo hi v s := by
  obtain ⟨l1, h1, ⟨A, c, rfl, ho⟩, hin⟩ := h
  refine ⟨A, c, rfl, ⟨hs, ⟨ho.len, ?_⟩, fun ad ha => by subst ha; exact (hb _ (List.mem_singleton.2 rfl)).2⟩⟩
  rcases ho.row.2 with ⟨hv, h0⟩ | ⟨g, cap, cur, hv, h3, h4, h5⟩
  · exact .inl ⟨hv, h0⟩
  · have hA : A = some ⟨g, 0, none⟩ := by injection hv
    subst hA
    exact .inr ⟨g, cap, cur, hv, (hb _ (List.mem_singleton.2 rfl)).1, h4, h5⟩
end
section
variable {α : Type} {f : α → List Value} {e : TypeId} {s : Nat} {w w' : World} {lo hi : Nat} {v : Value} {l : List α} {T : Nat → Prop}
def RowOx (f : α → List Value) (e : TypeId) (s : Nat) (w : World) (v : Value) (l : List α) : Prop := ∃ lo hi, RowO f e s w lo hi v l ∧ ∀ k, lo ≤ k → k < hi → k ∈ blk v
theorem RowO.x (h : RowO f e s w lo hi v l) : RowOx f e s w v l := by
  obtain ⟨A, c, rfl, ho⟩ := h
  obtain ⟨lo', hi', h1, h2⟩ := ho.narrow
  exact ⟨lo', hi', ⟨A, c, rfl, h1⟩, h2⟩
theorem RowO.bin (h : RowO f e s w lo hi v l) : ∀ b ∈ blk v, lo ≤ b ∧ b < hi := by
  obtain ⟨A, c, rfl, ho⟩ := h
  exact ho.bin
theorem RowOx.ch (h : RowOx f e s w v l) (k : Ch T w w') (hd : ∀ b ∈ blk v, ¬ T b) : RowOx f e s w' v l := by
  obtain ⟨lo, hi, h1, h2⟩ := h
  exact ⟨lo, hi, h1.ch k (fun j a b => hd j (h2 j a b)), h2⟩
theorem RowOx.ext (h : RowOx f e s w v l) (k : Ext w w') : RowOx f e s w' v l := h.ch k (fun _ _ t => t)
theorem RowOx.at_ (h : RowOx f e s w v l) (hb : ∀ b ∈ blk v, lo ≤ b ∧ b < hi) (hs : hi ≤ w.heap.size) : RowO f e s w lo hi v l := by
  obtain ⟨l1, h1, ⟨A, c, rfl, ho⟩, hin⟩ := h
  refine ⟨A, c, rfl, ⟨hs, ⟨ho.len, ?_⟩, fun ad ha => by subst ha; exact (hb _ (List.mem_singleton.2 rfl)).2⟩⟩
  rcases ho.row.2 with ⟨hv, h0⟩ | ⟨g, cap, cur, hv, h3, h4, h5⟩
  · exact .inl ⟨hv, h0⟩
  · have hA : A = some ⟨g, 0, none⟩ := by injection hv
    subst hA
    exact .inr ⟨g, cap, cur, hv, (hb _ (List.mem_singleton.2 rfl)).1, h4, h5⟩
theorem RowOx.one (h : RowOx f e s w v l) : v.oneCell' = true := by obtain ⟨_, _, ⟨_, _, rfl, _⟩, _⟩ := h; rfl
end
def bkd (d : Nd) : List Nat := blk d.vb ++ blk d.vs
def bksN (v : Value) (ds : List Nd) : List Nat := blk v ++ ds.flatMap bkd
structure ONx (w : World) (v : Value) (ds : List Nd) : Prop where
  row : RowOx NdC 98 3 w v ds
  ok : ∀ d ∈ ds, OBx w d.vb d.body ∧ OBx w d.vs d.safe
  nd : (bksN v ds).Nodup
theorem ONx.ch {w w' : World} {v : Value} {ds : List Nd} {T : Nat → Prop} (h : ONx w v ds) (k : Ch T w w') (hd : ∀ b ∈ bksN v ds, ¬ T b) : ONx w' v ds :=
  ⟨h.row.ch k (fun b hb => hd b (List.mem_append.2 (.inl hb))), fun d hm => ⟨(h.ok d hm).1.ch k (fun b hb => hd b (List.mem_append.2 (.inr (List.mem_flatMap.2 ⟨d, hm, List.mem_append.2 (.inl hb)⟩)))), (h.ok d hm).2.ch k (fun b hb => hd b (List.mem_append.2 (.inr (List.mem_flatMap.2 ⟨d, hm, List.mem_append.2 (.inr hb)⟩))))⟩, h.nd⟩
theorem ONx.ext {w w' : World} {v : Value} {ds : List Nd} (h : ONx w v ds) (k : Ext w w') : ONx w' v ds := h.ch k (fun _ _ t => t)
/-! ### marks of nodes -/
def mk1 (k : Int) (d : Nd) : Nd := ⟨k, mk8 (k + 1) d.body.length, mk8 (k + 1 + d.body.length) d.safe.length, d.vb, d.vs⟩
def cnt1 (d : Nd) : Int := 1 + d.body.length + d.safe.length
def cntNd : List Nd → Int
  | [] => 0
  | d :: r => cnt1 d + cntNd r
def markNd (k : Int) : List Nd → List Nd
  | [] => []
  | d :: r => mk1 k d :: markNd (k + cnt1 d) r
theorem cntNd_append (l m : List Nd) : cntNd (l ++ m) = cntNd l + cntNd m := by
  induction l with
  | nil => simp [cntNd]
  | cons d r ih => simp only [List.cons_append, cntNd, ih]; omega
theorem cntNd_nn (l : List Nd) : 0 ≤ cntNd l := by
  induction l with
  | nil => simp [cntNd]
  | cons d r ih => simp only [cntNd, cnt1]; omega
theorem markNd_append (k : Int) (l m : List Nd) : markNd k (l ++ m) = markNd k l ++ markNd (k + cntNd l) m := by
  induction l generalizing k with
  | nil => simp [markNd, cntNd]
  | cons d r ih => simp only [List.cons_append, markNd, cntNd, ih]; rw [Int.add_assoc]
theorem markNd_length (k : Int) (l : List Nd) : (markNd k l).length = l.length := by
  induction l generalizing k with
  | nil => rfl
  | cons d r ih => simp only [markNd, List.length_cons, ih]
theorem markNd_bkd (k : Int) (l : List Nd) : (markNd k l).flatMap bkd = l.flatMap bkd := by
  induction l generalizing k with
  | nil => rfl
  | cons d r ih => simp only [markNd, List.flatMap_cons, ih]; rfl
theorem set_mid {α : Type} (A : List α) (u v : α) (r : List α) : (A ++ u :: r).set A.length v = A ++ v :: r := by
  rw [List.set_append_right _ _ (Nat.le_refl _), Nat.sub_self, List.set_cons_zero]
theorem cells_mid (M D : List Nd) (x : Nd) : cellsL NdC (M ++ x :: D) = cellsL NdC M ++ (I x.id :: x.vb :: x.vs :: cellsL NdC D) := by
  rw [cellsL_append]; simp [cellsL, NdC]
theorem mid_get {α : Type} (A r : List α) (k j : Nat) (h : A.length = k) : (A ++ r)[k + j]? = r[j]? := by
  subst h; rw [List.getElem?_append_right (by omega)]; congr 1; omega
theorem app3 {a b c : List Nat} (h : (a ++ (b ++ c)).Nodup) : (∀ x ∈ a, x ∉ b ∧ x ∉ c) ∧ ∀ x ∈ b, x ∉ c := by
  rw [List.nodup_append, List.nodup_append] at h
  obtain ⟨_, ⟨_, _, h2⟩, h1⟩ := h
  exact ⟨fun x hx => ⟨fun hb => h1 x hx x (List.mem_append.2 (.inl hb)) rfl, fun hc => h1 x hx x (List.mem_append.2 (.inr hc)) rfl⟩, fun x hx hc => h2 x hx x hc rfl⟩
/-- The blocks at one node, apart from all others. -/
theorem bks_apart {v : Value} {M D : List Nd} {x : Nd} (h : (bksN v (M ++ x :: D)).Nodup) :
    (∀ b ∈ blk v, b ∉ blk x.vb ∧ b ∉ blk x.vs ∧ ∀ d ∈ M ++ D, b ∉ bkd d) ∧ (∀ b ∈ blk x.vb, b ∉ blk v ∧ b ∉ blk x.vs ∧ ∀ d ∈ M ++ D, b ∉ bkd d) ∧ (∀ b ∈ blk x.vs, b ∉ blk v ∧ b ∉ blk x.vb ∧ ∀ d ∈ M ++ D, b ∉ bkd d) := by
  unfold bksN at h
  rw [List.flatMap_append, List.flatMap_cons] at h
  unfold bkd at h
  rw [List.nodup_append, List.nodup_append, List.nodup_append, List.nodup_append] at h
  obtain ⟨_, ⟨_, ⟨⟨_, _, hvs⟩, _, hxD⟩, hM⟩, hv⟩ := h
  have mem : ∀ d ∈ M ++ D, ∀ b ∈ bkd d, b ∈ M.flatMap (fun d => blk d.vb ++ blk d.vs) ∨ b ∈ D.flatMap (fun d => blk d.vb ++ blk d.vs) := fun d hd b hb => by
    rcases List.mem_append.1 hd with hd | hd
    · exact .inl (List.mem_flatMap.2 ⟨d, hd, hb⟩)
    · exact .inr (List.mem_flatMap.2 ⟨d, hd, hb⟩)
  have e1 : ∀ b, b ∈ blk v → b ∈ blk x.vb → False := fun b h1 h2 => hv b h1 b (List.mem_append.2 (.inr (List.mem_append.2 (.inl (List.mem_append.2 (.inl h2)))))) rfl
  have e2 : ∀ b, b ∈ blk v → b ∈ blk x.vs → False := fun b h1 h2 => hv b h1 b (List.mem_append.2 (.inr (List.mem_append.2 (.inl (List.mem_append.2 (.inr h2)))))) rfl
  have e3 : ∀ b, b ∈ blk x.vb → b ∈ blk x.vs → False := fun b h1 h2 => hvs b h1 b h2 rfl
  have e4 : ∀ b, b ∈ blk v → ∀ d ∈ M ++ D, b ∈ bkd d → False := fun b h1 d hd h2 => by
    rcases mem d hd b h2 with h3 | h3
    · exact hv b h1 b (List.mem_append.2 (.inl h3)) rfl
    · exact hv b h1 b (List.mem_append.2 (.inr (List.mem_append.2 (.inr h3)))) rfl
  have e5 : ∀ b, (b ∈ blk x.vb ∨ b ∈ blk x.vs) → ∀ d ∈ M ++ D, b ∈ bkd d → False := fun b h1 d hd h2 => by
    rcases mem d hd b h2 with h3 | h3
    · exact hM b h3 b (List.mem_append.2 (.inl (List.mem_append.2 h1))) rfl
    · exact hxD b (List.mem_append.2 h1) b h3 rfl
  exact ⟨fun b hb => ⟨fun h => e1 b hb h, fun h => e2 b hb h, fun d hd h => e4 b hb d hd h⟩, fun b hb => ⟨fun h => e1 b h hb, fun h => e3 b hb h, fun d hd h => e5 b (.inl hb) d hd h⟩, fun b hb => ⟨fun h => e2 b h hb, fun h => e3 b h hb, fun d hd h => e5 b (.inr hb) d hd h⟩⟩
attribute [local irreducible] TL TC TN TX TR TQ TA Pu Ret
set_option maxHeartbeats 4000000 in
theorem markNodeS_c {v : Value} {ds : List Nd} {k : Int} {w : World} (h : ONx w v ds) (hl : ds.length ≤ 1048576) (hc : cntNd ds ≤ 4194304) (hk0 : 0 < k) (hk1 : k ≤ 1000000000) :
    Ret Tryz.prog 75 #[v, I k] w fun v' w' => v' = I (k + cntNd ds) ∧ Ch (fun j => j ∈ bksN v ds) w w' ∧ ONx w' v (markNd k ds) := by
  obtain ⟨A, c, rfl⟩ : ∃ A c, v = .slice A ds.length c := by obtain ⟨_, _, ⟨A, c, h1, _⟩, _⟩ := h.row; exact ⟨A, c, h1⟩
  refine Ret_enter Tryz.func75 rfl rfl rfl ?_
  repeat' (first | apply Jbq | apply Jbr | apply Jbs | apply Jbt | apply Jby | (apply Jcg; exact Jab rfl; exact rfl))
  refine TC_loop (ι := Nat) (fun i => [(0, .slice A ds.length c), (1, I (k + cntNd (ds.take i))), (5, I i)]) (fun i w' => i ≤ ds.length ∧ Ch (fun j => j ∈ bksN (.slice A ds.length c) ds) w w' ∧ ONx w' (.slice A ds.length c) (markNd k (ds.take i) ++ ds.drop i)) (fun i => ds.length - i) 0
    (subEnv_cons rfl (subEnv_cons (congrArg (fun z => some (I z)) (by simp [cntNd])) (subEnv_cons rfl (subEnv_nil _)))) ⟨Nat.zero_le _, Ch.refl _ _, by simpa [markNd] using h⟩ ?_
  intro i w2 ⟨hi2, c2, h2⟩
  repeat' (first | apply Jbq | apply Jbr | apply Jbs | apply Jbt | (apply Jcg; (first | exact Jaa rfl | exact Jac Us.h rfl | exact Jad rfl rfl); exact rfl))
  refine Jcx rfl (fun hlt0 => ?_) (fun hge => ?_)
  · have hlt : i < ds.length := by omega
    have hdr : ds.drop i = ds[i] :: ds.drop (i + 1) := List.drop_eq_getElem_cons hlt
    have htk : ds.take (i + 1) = ds.take i ++ [ds[i]] := List.take_succ_eq_append_getElem hlt
    have hall : cntNd ds = cntNd (ds.take i) + (cnt1 ds[i] + cntNd (ds.drop (i + 1))) := by
      conv => lhs; rw [← List.take_append_drop i ds, hdr]
      rw [cntNd_append]; rfl
    have hn1 := cntNd_nn (ds.take i)
    have hn2 := cntNd_nn (ds.drop (i + 1))
    have hbk : bksN (.slice A ds.length c) (markNd k (ds.take i) ++ ds[i] :: ds.drop (i + 1)) = bksN (.slice A ds.length c) ds := by
      unfold bksN
      rw [List.flatMap_append, markNd_bkd, ← List.flatMap_append, ← hdr, List.take_append_drop]
    rw [hdr] at h2
    have hmk : markNd k (ds.take (i + 1)) = markNd k (ds.take i) ++ [mk1 (k + cntNd (ds.take i)) ds[i]] := by rw [htk, markNd_append]; rfl
    have hct : cntNd (ds.take (i + 1)) = cntNd (ds.take i) + cnt1 ds[i] := by rw [htk, cntNd_append]; simp [cntNd]
    have hml : (markNd k (ds.take i)).length = i := by rw [markNd_length, List.length_take]; omega
    obtain ⟨M, hM⟩ : ∃ M, M = markNd k (ds.take i) := ⟨_, rfl⟩
    obtain ⟨x, hx⟩ : ∃ x, x = ds[i] := ⟨_, rfl⟩
    obtain ⟨D, hD⟩ : ∃ D, D = ds.drop (i + 1) := ⟨_, rfl⟩
    obtain ⟨q, hq⟩ : ∃ q, q = k + cntNd (ds.take i) := ⟨_, rfl⟩
    rw [← hM, ← hx, ← hD] at h2 hbk
    rw [← hM, ← hx, ← hq] at hmk
    rw [← hM] at hml
    rw [← hx] at hct hall
    obtain ⟨id, body, safe, vb, vs⟩ := x
    simp only [cnt1] at hct hall
    have hqb : 0 < q ∧ q + 1 + body.length + safe.length ≤ 1099511627776 := by omega
    obtain ⟨ap1, ap2, ap3⟩ := bks_apart h2.nd
    simp only at ap1 ap2 ap3
    have inV : ∀ b ∈ blk (.slice A ds.length c), b ∈ bksN (.slice A ds.length c) ds := fun b hb => by rw [← hbk]; exact List.mem_append.2 (.inl hb)
    have inB : ∀ b ∈ blk vb, b ∈ bksN (.slice A ds.length c) ds := fun b hb => by
      rw [← hbk]; exact List.mem_append.2 (.inr (List.mem_flatMap.2 ⟨⟨id, body, safe, vb, vs⟩, by simp, List.mem_append.2 (.inl hb)⟩))
    have inS : ∀ b ∈ blk vs, b ∈ bksN (.slice A ds.length c) ds := fun b hb => by
      rw [← hbk]; exact List.mem_append.2 (.inr (List.mem_flatMap.2 ⟨⟨id, body, safe, vb, vs⟩, by simp, List.mem_append.2 (.inr hb)⟩))
    have hlen : (M ++ (⟨id, body, safe, vb, vs⟩ : Nd) :: D).length = ds.length := by
      rw [List.length_append, List.length_cons, hml, hD, List.length_drop]; omega
    obtain ⟨⟨l1, h1, ⟨A', c', hv', ho2⟩, hin⟩, hok, hnd⟩ := h2
    rw [hlen] at hv' ho2
    injection hv' with hA' _ hc'
    subst hA' hc'
    obtain ⟨okb, oks⟩ := hok ⟨id, body, safe, vb, vs⟩ (by simp)
    have oko : ∀ d ∈ M ++ D, OBx w2 d.vb d.body ∧ OBx w2 d.vs d.safe := fun d hd => hok d (by rcases List.mem_append.1 hd with h | h <;> simp [h])
    simp only at okb oks
    clear hok
    rw [cells_mid] at ho2
    have hcl : (cellsL NdC M).length = i * 3 := by rw [cellsL_length NdC_len, hml]
    simp only at ho2
    rw [← hq]
    rcases ho2.head with rfl | ⟨g, rfl, hg1, hg2⟩
    · obtain ⟨ad, h, _⟩ := ho2.rd.at_ (by omega)
      cases h
    have hgv : blk (.slice (some ⟨g, 0, none⟩) ds.length c) = [g] := rfl
    repeat' (first | apply Jbr | apply Jbs | apply Jbt | apply Jby | apply Jbz | (apply Jcg; (first | exact Jaa rfl | exact Jar Us.h Sz.h rfl rfl (by omega) | (apply Jbl; exact Us.h; exact rfl; exact Sz.h; exact rfl)); exact rfl))
    refine TL_storeOwn rfl (add_lit3 g (i * 3) 0) rfl Sz.h rfl ho2 (by omega) ?_
    intro w3 c3 hz3 ho3
    rw [Nat.add_zero, ← hcl, set_mid] at ho3
    have c3' : Ch (fun j => j ∈ [g]) w2 w3 := c3.mono (fun j hj => by simp only [Iv] at hj; simp; omega)
    rw [hgv] at ap1 ap2 ap3 inV hin
    replace okb := okb.ch c3' (fun b hb => (ap2 b hb).1)
    replace oks := oks.ch c3' (fun b hb => (ap3 b hb).1)
    replace oko := fun d hd => (⟨(oko d hd).1.ch c3' (fun b hb hg => (ap1 b hg).2.2 d hd (List.mem_append.2 (.inl hb))), (oko d hd).2.ch c3' (fun b hb hg => (ap1 b hg).2.2 d hd (List.mem_append.2 (.inr hb)))⟩ : OBx w3 d.vb d.body ∧ OBx w3 d.vs d.safe)
    have hcb : w3.cell? ((⟨g, 0, none⟩ : Addr).add (i * 3 + 1)) = some vb := by
      obtain ⟨ad, h, _, _, hc⟩ := ho3.rd.at_ (by omega)
      injection h with h; subst h
      exact hc _ _ (by rw [mid_get _ _ _ _ hcl]; rfl)
    rw [← add_of_add] at hcb
    repeat' (first | apply Jbq | apply Jbr | apply Jbs | apply Jbt | (apply Jcg; (first | exact Jaa rfl | exact Jab rfl | exact Jaf rfl rfl (by omega) | exact Jar Us.h Sz.h rfl rfl (by omega) | (apply Jbl; exact Us.h; exact rfl; exact Sz.h; exact rfl)); exact rfl) | refine Jcg (Pu_load Fl.h rfl (fun _ e => by rw [e]; exact hcb)) rfl ?_)
    obtain ⟨l4, h4, ob, hin4⟩ := okb
    refine TL_call rfl en97 (markB_k ob (by omega) (by omega) (by omega)) rfl rfl ?_
    rintro _ w4 ⟨rfl, c4, hz4, ob4⟩
    have c4' : Ch (fun j => j ∈ blk vb) w3 w4 := c4.mono (fun j hj => hin4 j hj.1 hj.2)
    replace ho3 := ho3.ch c4' (fun j a b hj => (ap2 j hj).1 (hin j a b))
    replace oks := oks.ch c4' (fun b hb h => (ap3 b hb).2.1 h)
    replace oko := fun d hd => (⟨(oko d hd).1.ch c4' (fun b hb hg => (ap2 b hg).2.2 d hd (List.mem_append.2 (.inl hb))), (oko d hd).2.ch c4' (fun b hb hg => (ap2 b hg).2.2 d hd (List.mem_append.2 (.inr hb)))⟩ : OBx w4 d.vb d.body ∧ OBx w4 d.vs d.safe)
    have okb4 : OBx w4 vb (mk8 (q + 1) body.length) := ⟨l4, h4, ob4, hin4⟩
    have hcs : w4.cell? ((⟨g, 0, none⟩ : Addr).add (i * 3 + 2)) = some vs := by
      obtain ⟨ad, h, _, _, hc⟩ := ho3.rd.at_ (by omega)
      injection h with h; subst h
      exact hc _ _ (by rw [mid_get _ _ _ _ hcl]; rfl)
    rw [← add_of_add] at hcs
    repeat' (first | apply Jbq | apply Jbr | apply Jbt | (apply Jcg; (first | exact Jaa rfl | exact Jab rfl | exact Jar Us.h Sz.h rfl rfl (by omega) | (apply Jbl; exact Us.h; exact rfl; exact Sz.h; exact rfl)); exact rfl) | refine Jcg (Pu_load Fl.h rfl (fun _ e => by rw [e]; exact hcs)) rfl ?_)
    obtain ⟨l5, h5, os, hin5⟩ := oks
    refine TL_call rfl en97 (markB_k os (by omega) (by omega) (by omega)) rfl rfl ?_
    rintro _ w5 ⟨rfl, c5, hz5, os5⟩
    have c5' : Ch (fun j => j ∈ blk vs) w4 w5 := c5.mono (fun j hj => hin5 j hj.1 hj.2)
    replace ho3 := ho3.ch c5' (fun j a b hj => (ap3 j hj).1 (hin j a b))
    replace okb4 := okb4.ch c5' (fun b hb h => (ap2 b hb).2.1 h)
    replace oko := fun d hd => (⟨(oko d hd).1.ch c5' (fun b hb hg => (ap3 b hg).2.2 d hd (List.mem_append.2 (.inl hb))), (oko d hd).2.ch c5' (fun b hb hg => (ap3 b hg).2.2 d hd (List.mem_append.2 (.inr hb)))⟩ : OBx w5 d.vb d.body ∧ OBx w5 d.vs d.safe)
    have oks5 : OBx w5 vs (mk8 (q + 1 + body.length) safe.length) := ⟨l5, h5, os5, hin5⟩
    repeat' (first | apply Jbq | apply Jbr | apply Jbt | apply Jbx | (apply Jcg; (first | exact Jaa rfl | exact Jab rfl | exact Jaf rfl rfl (by omega)); exact rfl))
    have hdr2 : markNd k (ds.take (i + 1)) ++ ds.drop (i + 1) = M ++ (⟨q, mk8 (q + 1) body.length, mk8 (q + 1 + body.length) safe.length, vb, vs⟩ : Nd) :: D := by
      rw [hmk, hD, List.append_assoc]; rfl
    have hlen2 : (M ++ (⟨q, mk8 (q + 1) body.length, mk8 (q + 1 + body.length) safe.length, vb, vs⟩ : Nd) :: D).length = ds.length := by
      rw [List.length_append, List.length_cons] at hlen ⊢; exact hlen
    refine TN_round (i + 1) (subEnv_cons rfl (subEnv_cons (congrArg (fun z => some (I z)) (by rw [hct]; omega)) (subEnv_cons rfl (subEnv_nil _)))) ⟨hlt, ?_, ?_⟩ (by omega)
    · exact ((c2.then (c3'.mono (fun j hj => inV j hj))).then (c4'.mono (fun j hj => inB j hj))).then (c5'.mono (fun j hj => inS j hj))
    · rw [hdr2]
      refine ⟨⟨l1, h1, ⟨some ⟨g, 0, none⟩, c, by rw [hlen2], by rw [hlen2, cells_mid]; exact ho3⟩, hin⟩, fun d hd => ?_, ?_⟩
      · rcases List.mem_append.1 hd with hd | hd
        · exact oko d (List.mem_append.2 (.inl hd))
        · rcases List.mem_cons.1 hd with rfl | hd
          · exact ⟨okb4, oks5⟩
          · exact oko d (List.mem_append.2 (.inr hd))
      · have : bksN (.slice (some ⟨g, 0, none⟩) ds.length c) (M ++ (⟨q, mk8 (q + 1) body.length, mk8 (q + 1 + body.length) safe.length, vb, vs⟩ : Nd) :: D) = bksN (.slice (some ⟨g, 0, none⟩) ds.length c) (M ++ (⟨id, body, safe, vb, vs⟩ : Nd) :: D) := by
          unfold bksN
          rw [List.flatMap_append, List.flatMap_append, List.flatMap_cons, List.flatMap_cons]
          rfl
        rw [this]
        exact hnd
  · obtain rfl : i = ds.length := by omega
    rw [List.take_length, List.drop_length, List.append_nil] at h2
    rw [List.take_length]
    repeat' (first | apply Jbq | apply Jbr | apply Jbs | apply Jbt | apply Jbu | apply Jca | apply Jcb | apply Jcc | (apply Jcg; (first | exact Jaa rfl | exact Jab rfl); exact rfl))
    exact TR_of (res1 rfl rfl) ⟨rfl, c2, h2⟩
end Go.Proofs.YtggaghghclomkaaGreat

/- Marks of nodes that are held; disks that a call owns, their marks. -/
namespace Go.Proofs.YtggaghghclomkaaGreat
open Go.RowKit
theorem markNd_get (k : Int) : ∀ (l : List Nd) (i : Nat) (h : i < l.length) (h2 : i < (markNd k l).length), (markNd k l)[i] = mk1 (k + cntNd (l.take i)) l[i]
  | d :: r, 0, _, _ => by simp [markNd, cntNd]
  | d :: r, i + 1, h, h2 => by
    simp only [markNd, List.getElem_cons_succ, List.take_succ_cons, cntNd]
    rw [markNd_get (k + cnt1 d) r i (by simpa using h)]
    rw [Int.add_assoc]
/-- A disk that a call owns, between lo and hi. -/
def ODk (w : World) (lo hi : Nat) (d : DiskP) (sn sk st : Value) : Prop :=
  hi ≤ w.heap.size ∧ ∃ ds : List Nd, ds.map NdP = d.nodes ∧ ONx w sn ds ∧ RowOx LkC 162 2 w sk d.kept ∧ RowOx TnC 121 4 w st d.turns ∧ (bksN sn ds ++ (blk sk ++ blk st)).Nodup ∧ ∀ b ∈ bksN sn ds ++ (blk sk ++ blk st), lo ≤ b ∧ b < hi
theorem RowOx.rr {α : Type} {f : α → List Value} {e : TypeId} {s : Nat} {w : World} {lo hi : Nat} {v : Value} {l : List α} (h : RowOx f e s w v l) (hb : ∀ b ∈ blk v, lo ≤ b ∧ b < hi) (hs : hi ≤ w.heap.size) : RowR f s w lo hi v l := (h.at_ hb hs).rd
theorem ONx.rn {w : World} {lo hi : Nat} {v : Value} {ds : List Nd} (h : ONx w v ds) (hb : ∀ b ∈ bksN v ds, lo ≤ b ∧ b < hi) (hs : hi ≤ w.heap.size) : RN w lo hi v (ds.map NdP) := by
  obtain ⟨A, c, h1, h2, h3⟩ := h.row.rr (fun b hb' => hb b (List.mem_append.2 (.inl hb'))) hs
  refine ⟨ds, A, c, rfl, h1, h2, h3, fun d hd => ?_⟩
  obtain ⟨h4, h5⟩ := h.ok d hd
  exact ⟨(h4.at_ (fun b hb' => hb b (List.mem_append.2 (.inr (List.mem_flatMap.2 ⟨d, hd, List.mem_append.2 (.inl hb')⟩)))) hs).rd, (h5.at_ (fun b hb' => hb b (List.mem_append.2 (.inr (List.mem_flatMap.2 ⟨d, hd, List.mem_append.2 (.inr hb')⟩)))) hs).rd⟩
theorem ODk.rd {w : World} {lo hi : Nat} {d : DiskP} {sn sk st : Value} (h : ODk w lo hi d sn sk st) : RDk w lo hi d sn sk st := by
  obtain ⟨hs, ds, h1, h2, h3, h4, h5, h6⟩ := h
  refine ⟨?_, ?_, ?_⟩
  · rw [← h1]; exact h2.rn (fun b hb => h6 b (List.mem_append.2 (.inl hb))) hs
  · exact (h3.rr (fun b hb => h6 b (List.mem_append.2 (.inr (List.mem_append.2 (.inl hb))))) hs).rk
  · exact (h4.rr (fun b hb => h6 b (List.mem_append.2 (.inr (List.mem_append.2 (.inr hb))))) hs).rt
theorem ODk.ch {w w' : World} {lo hi : Nat} {d : DiskP} {sn sk st : Value} {T : Nat → Prop} (h : ODk w lo hi d sn sk st) (c : Ch T w w') (hd : ∀ k, lo ≤ k → k < hi → ¬ T k) : ODk w' lo hi d sn sk st := by
  obtain ⟨hs, ds, h1, h2, h3, h4, h5, h6⟩ := h
  have hn : ∀ b ∈ bksN sn ds ++ (blk sk ++ blk st), ¬ T b := fun b hb => hd b (h6 b hb).1 (h6 b hb).2
  exact ⟨Nat.le_trans hs c.size, ds, h1, h2.ch c (fun b hb => hn b (List.mem_append.2 (.inl hb))), h3.ch c (fun b hb => hn b (List.mem_append.2 (.inr (List.mem_append.2 (.inl hb))))), h4.ch c (fun b hb => hn b (List.mem_append.2 (.inr (List.mem_append.2 (.inr hb))))), h5, h6⟩
theorem ODk.ext {w w' : World} {lo hi : Nat} {d : DiskP} {sn sk st : Value} (h : ODk w lo hi d sn sk st) (c : Ext w w') : ODk w' lo hi d sn sk st := h.ch c (fun _ _ _ t => t)
theorem ODk.one {w : World} {lo hi : Nat} {d : DiskP} {sn sk st : Value} (h : ODk w lo hi d sn sk st) : (dskC d sn sk st).all (·.oneCell') = true := h.rd.one
theorem ODk.wide {w : World} {lo hi lo' hi' : Nat} {d : DiskP} {sn sk st : Value} (h : ODk w lo hi d sn sk st) (h1 : lo' ≤ lo) (h2 : hi ≤ hi') (h3 : hi' ≤ w.heap.size) : ODk w lo' hi' d sn sk st := by
  obtain ⟨hs, ds, g1, g2, g3, g4, g5, g6⟩ := h
  exact ⟨h3, ds, g1, g2, g3, g4, g5, fun b hb => by have := g6 b hb; omega⟩
/-- The marks of a disk, from k on. -/
def cntNp : List NodeP → Int
  | [] => 0
  | p :: r => 1 + p.2.1.length + p.2.2.length + cntNp r
def markNp (k : Int) : List NodeP → List NodeP
  | [] => []
  | p :: r => (k, mk8 (k + 1) p.2.1.length, mk8 (k + 1 + p.2.1.length) p.2.2.length) :: markNp (k + (1 + p.2.1.length + p.2.2.length)) r
theorem cntNp_map : ∀ ds : List Nd, cntNp (ds.map NdP) = cntNd ds
  | [] => rfl
  | d :: r => by simp only [List.map_cons, cntNp, cntNd, cnt1, cntNp_map r]; rfl
theorem markNp_map : ∀ (k : Int) (ds : List Nd), markNp k (ds.map NdP) = (markNd k ds).map NdP
  | _, [] => rfl
  | k, d :: r => by
    have h := markNp_map (k + cnt1 d) r
    show _ :: markNp (k + cnt1 d) (r.map NdP) = _
    rw [h]
    rfl
def cntD (d : DiskP) : Int := cntNp d.nodes + 2 * d.kept.length + 4 * d.turns.length
def markD (k : Int) (d : DiskP) : DiskP := { d with nodes := markNp k d.nodes, kept := mkK (k + cntNp d.nodes) d.kept.length, turns := mkTu (k + cntNp d.nodes + 2 * d.kept.length) d.turns.length }
theorem cntNp_tot : ∀ l : List NodeP, cntNp l = l.length + totNd l
  | [] => by simp [cntNp, totNd]
  | p :: r => by
    have := cntNp_tot r
    simp only [cntNp, totNd, List.map_cons, List.sum_cons, List.length_cons, NdW] at *
    omega
theorem cntD_le {d : DiskP} (h : totD d ≤ 1048576) : 0 ≤ cntNp d.nodes ∧ cntNp d.nodes ≤ 1048576 ∧ d.nodes.length ≤ 1048576 ∧ d.kept.length ≤ 1048576 ∧ d.turns.length ≤ 1048576 ∧ 0 ≤ cntD d ∧ cntD d ≤ 8388608 := by
  obtain ⟨l1, l2, l3⟩ := totD_parts h
  have := cntNp_tot d.nodes
  have := totNd_nn d.nodes
  have := totLk_nn d.kept
  have := totTn_nn d.turns
  unfold cntD
  omega
attribute [local irreducible] TL TC TN TX TR TQ TA Pu Ret
set_option maxHeartbeats 4000000 in
theorem heldNodeS_c {v : Value} {ds : List Nd} {k : Int} {w : World} {lo hi : Nat} (h : RN w lo hi v ((markNd k ds).map NdP)) (hl : ds.length ≤ 1048576) (hc : cntNd ds ≤ 4194304) (hk0 : 0 < k) (hk1 : k ≤ 1000000000) :
    Ret Tryz.prog 78 #[v, I k] w fun v' w' => v' = I (k + cntNd ds) ∧ Ext w w' := by
  obtain ⟨es, A, c, hm, rfl, hcl, hr, hok⟩ := h
  have hel : es.length = ds.length := by have := congrArg List.length hm; simpa [markNd_length] using this
  refine Ret_enter Tryz.func78 rfl rfl rfl ?_
  repeat' (first | apply Jbq | apply Jbr | apply Jbs | apply Jbt | apply Jby | (apply Jcg; exact Jab rfl; exact rfl))
  refine TC_loop (ι := Nat) (fun i => [(0, .slice A es.length c), (1, I (k + cntNd (ds.take i))), (5, I i)]) (fun i w' => i ≤ ds.length ∧ Ext w w') (fun i => ds.length - i) 0
    (subEnv_cons rfl (subEnv_cons (congrArg (fun z => some (I z)) (by simp [cntNd])) (subEnv_cons rfl (subEnv_nil _)))) ⟨Nat.zero_le _, Ch.refl _ _⟩ ?_
  intro i w2 ⟨hi2, e2⟩
  repeat' (first | apply Jbq | apply Jbr | apply Jbs | apply Jbt | (apply Jcg; (first | exact Jaa rfl | exact Jac Us.h rfl | exact Jad rfl rfl); exact rfl))
  refine Jcx rfl (fun hlt0 => ?_) (fun hge => ?_)
  · have hlt : i < ds.length := by omega
    have htk : ds.take (i + 1) = ds.take i ++ [ds[i]] := List.take_succ_eq_append_getElem hlt
    have hct : cntNd (ds.take (i + 1)) = cntNd (ds.take i) + cnt1 ds[i] := by rw [htk, cntNd_append]; simp [cntNd]
    have hall : cntNd ds = cntNd (ds.take i) + (cnt1 ds[i] + cntNd (ds.drop (i + 1))) := by
      have hdr : ds.drop i = ds[i] :: ds.drop (i + 1) := List.drop_eq_getElem_cons hlt
      conv => lhs; rw [← List.take_append_drop i ds, hdr]
      rw [cntNd_append]; rfl
    have hn1 := cntNd_nn (ds.take i)
    have hn2 := cntNd_nn (ds.drop (i + 1))
    obtain ⟨ad, rfl, hcell⟩ := Rd.elem NdC_len (hr.ext e2) (k := i) (by omega)
    have hel2 : NdP es[i] = NdP (mk1 (k + cntNd (ds.take i)) ds[i]) := by
      have h1 := congrArg (fun l => l[i]?) hm
      simp only [List.getElem?_map, List.getElem?_eq_getElem (show i < es.length by omega), List.getElem?_eq_getElem (show i < (markNd k ds).length by rw [markNd_length]; exact hlt), Option.map_some, Option.some.injEq] at h1
      rw [h1, markNd_get k ds i hlt]
    obtain ⟨ob, os⟩ := hok es[i] (List.getElem_mem _)
    obtain ⟨q, hq⟩ : ∃ q, q = k + cntNd (ds.take i) := ⟨_, rfl⟩
    obtain ⟨x, hx⟩ : ∃ x, x = ds[i] := ⟨_, rfl⟩
    obtain ⟨y, hy⟩ : ∃ y, y = es[i] := ⟨_, rfl⟩
    rw [← hy] at hcell hel2 ob os
    rw [← hx] at hel2 hct hall
    rw [← hq] at hel2
    obtain ⟨id, body, safe, vb, vs⟩ := y
    simp only [NdP, mk1, Prod.mk.injEq] at hel2
    obtain ⟨rfl, rfl, rfl⟩ := hel2
    simp only at ob os
    unfold cnt1 at hct hall
    have hqb : 0 < id ∧ id + 1 + x.body.length + x.safe.length ≤ 1099511627776 := by omega
    have h0 : w2.cell? ((ad.add (i * 3)).add 0) = some (I id) := hcell 0 _ rfl
    have h1 : w2.cell? ((ad.add (i * 3)).add 1) = some vb := hcell 1 _ rfl
    have h2 : w2.cell? ((ad.add (i * 3)).add 2) = some vs := hcell 2 _ rfl
    obtain ⟨Ab, cb, rfl, hcb, hrb⟩ := ob
    obtain ⟨As, cs, rfl, hcs, hrs⟩ := os
    rw [mk8_length] at hrb hrs h1 h2 hcb hcs
    rw [← hq]
    repeat' (first | apply Jbq | apply Jbr | apply Jbs | apply Jbt | apply Jby | apply Jbz | (apply Jcg; (first | exact Jaa rfl | exact Jal rfl rfl | exact Jar Us.h Sz.h rfl rfl (by omega) | (apply Jbl; exact Us.h; exact rfl; exact Sz.h; exact rfl)); exact rfl) | refine Jcg (Pu_load Fl.h rfl (fun _ e => by rw [e]; exact h0)) rfl ?_)
    refine Jcf (by rw [show (!decide (id = id)) = false from by simp]; rfl) ?_
    repeat' (first | apply Jbq | apply Jbr | apply Jbs | apply Jbt | apply Jbz | (apply Jcg; (first | exact Jaa rfl | exact Jab rfl | exact Jaf rfl rfl (by omega) | exact Jar Us.h Sz.h rfl rfl (by omega) | (apply Jbl; exact Us.h; exact rfl; exact Sz.h; exact rfl)); exact rfl) | refine Jcg (Pu_load Fl.h rfl (fun _ e => by rw [e]; exact h1)) rfl ?_)
    refine TL_call rfl en150 (heldByteS_c (hrb.ext e2) (by omega) (by omega) (by omega)) rfl rfl ?_
    rintro _ w3 ⟨rfl, e3⟩
    have h2' := e3.cell h2
    repeat' (first | apply Jbq | apply Jbr | apply Jbs | apply Jbt | apply Jbz | (apply Jcg; (first | exact Jaa rfl | exact Jab rfl | exact Jad rfl rfl | exact Jar Us.h Sz.h rfl rfl (by omega) | (apply Jbl; exact Us.h; exact rfl; exact Sz.h; exact rfl)); exact rfl) | refine Jcg (Pu_load Fl.h rfl (fun _ e => by rw [e]; exact h2')) rfl ?_ | (refine Jcx rfl (fun hb => ?_) (fun hb => ?_) <;> (try (exfalso; omega))))
    refine TL_call rfl en150 (heldByteS_c (hrs.ext (e2.ext e3)) (by omega) (by omega) (by omega)) rfl rfl ?_
    rintro _ w4 ⟨rfl, e4⟩
    repeat' (first | apply Jbq | apply Jbr | apply Jbs | apply Jbt | apply Jbx | apply Jbz | (apply Jcg; (first | exact Jaa rfl | exact Jab rfl | exact Jad rfl rfl | exact Jaf rfl rfl (by omega)); exact rfl) | (refine Jcx rfl (fun hb => ?_) (fun hb => ?_) <;> (try (exfalso; omega))))
    exact TN_round (i + 1) (subEnv_cons rfl (subEnv_cons (congrArg (fun z => some (I z)) (by rw [hct]; omega)) (subEnv_cons rfl (subEnv_nil _)))) ⟨hlt, (e2.ext e3).ext e4⟩ (by omega)
  · obtain rfl : i = ds.length := by omega
    rw [List.take_length]
    repeat' (first | apply Jbq | apply Jbr | apply Jbs | apply Jbt | apply Jbu | apply Jca | apply Jcb | apply Jcc | (apply Jcg; (first | exact Jaa rfl | exact Jab rfl); exact rfl))
    exact TR_of (res1 rfl rfl) ⟨rfl, e2⟩
end Go.Proofs.YtggaghghclomkaaGreat
