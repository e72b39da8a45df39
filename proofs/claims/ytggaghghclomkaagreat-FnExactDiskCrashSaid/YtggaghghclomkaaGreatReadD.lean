/- Contracts: directories and files of a disk. -/
import Derived.Test.YtggaghghclomkaaGreatDokS
import Derived.Test.YtggaghghclomkaaGreatDokK
namespace Go.Proofs.YtggaghghclomkaaGreat
open Go.RowKit
/-! ### the plain law -/
def nAtF (id : Int) : Nat → List NodeP → Int
  | _, [] => -1
  | k, p :: r => if p.1 = id then (k : Int) else nAtF id (k + 1) r
def nAt (l : List NodeP) (id : Int) : Int := nAtF id 0 l
theorem nAtF_hit (id : Int) : ∀ (l : List NodeP) (k : Nat), id ∈ nIds l → ∃ i, ∃ h : i < l.length, nAtF id k l = ((k + i : Nat) : Int) ∧ l[i].1 = id
  | [], k, h => by simp [nIds] at h
  | p :: r, k, h => by
    by_cases he : p.1 = id
    · exact ⟨0, by simp, by rw [nAtF, if_pos he]; rfl, he⟩
    · have : id ∈ nIds r := by
        unfold nIds at *
        rw [List.map_cons, List.mem_cons] at h
        exact h.resolve_left (fun e => he e.symm)
      obtain ⟨i, hi, h1, h2⟩ := nAtF_hit id r (k + 1) this
      exact ⟨i + 1, by simpa using hi, by rw [nAtF, if_neg he, h1]; omega, by simpa using h2⟩
theorem nAt_hit {l : List NodeP} {id : Int} (h : id ∈ nIds l) : ∃ i, ∃ h : i < l.length, nAt l id = (i : Int) ∧ l[i].1 = id := by
  obtain ⟨i, hi, h1, h2⟩ := nAtF_hit id l 0 h
  exact ⟨i, hi, by unfold nAt; rw [h1]; omega, h2⟩
theorem nAtF_none (id : Int) : ∀ (l : List NodeP) (k : Nat), id ∉ nIds l → nAtF id k l = -1
  | [], _, _ => rfl
  | p :: r, k, h => by
    unfold nIds at h
    rw [List.map_cons, List.mem_cons] at h
    rw [nAtF, if_neg (fun e => h (.inl e.symm)), nAtF_none id r (k + 1) (fun e => h (.inr e))]
theorem nAt_none {l : List NodeP} {id : Int} (h : id ∉ nIds l) : nAt l id = -1 := nAtF_none id l 0 h
def pDir (d : DiskP) : List LkD := runT d.kept d.turns
theorem pTurn_sub {d : DiskP} {L : List LkD} {t : TnD} (ht : t ∈ d.turns) (hk : t.kind = 5 → dHas L t.name = true) (h1 : t.kind = 1 ∨ t.kind = 5 ∨ t.kind = 6) (hL : ∀ x ∈ L, x.id ∈ pIds d) : ∀ x ∈ pTurn L t, x.id ∈ pIds d := by
  intro x hx
  unfold pTurn at hx
  split at hx
  · rename_i h
    rcases (mem_dIns _).1 hx with rfl | hx
    · exact creates_mem ht h
    · exact hL x hx
  · split at hx
    · rename_i h
      rcases (mem_dIns _).1 hx with rfl | hx
      · obtain ⟨y, hy, _, he⟩ := dFind_mem (hk h)
        simp only
        rw [← he]; exact hL y hy
      · exact hL x (mem_dLess (mem_dLess hx))
    · exact hL x (mem_dLess hx)
theorem DOk.dirIds {d : DiskP} (h : DOk d) : ∀ k, k ≤ d.turns.length → ∀ x ∈ runT d.kept (d.turns.take k), x.id ∈ nIds d.nodes := by
  have h2 := (dok_iff d).1 h
  have key : ∀ k, k ≤ d.turns.length → ∀ x ∈ runT d.kept (d.turns.take k), x.id ∈ pIds d := by
    intro k
    induction k with
    | zero => intro _ x hx; exact kept_mem (by simpa [runT] using hx)
    | succ k ih =>
      intro hk
      rw [runT_take (by omega)]
      have ha := h2.turn k (by omega)
      refine pTurn_sub (List.getElem_mem _) (fun h5 => ?_) ?_ (ih (by omega))
      · rcases ha with ⟨a, _⟩ | ⟨_, b, _⟩ | ⟨a, _⟩
        · rw [a] at h5; exact absurd h5 (by decide)
        · exact b
        · rw [a] at h5; exact absurd h5 (by decide)
      · rcases ha with ⟨a, _⟩ | ⟨a, _⟩ | ⟨a, _⟩
        · exact .inl a
        · exact .inr (.inl a)
        · exact .inr (.inr a)
  intro k hk x hx
  obtain ⟨j, hj, he⟩ := List.mem_iff_getElem.1 (key k hk x hx)
  rw [← he]
  exact (h.ids j hj).2
theorem DOk.dirAt {d : DiskP} (h : DOk d) {s : List UInt8} (hh : dHas (pDir d) s = true) : ∃ i, ∃ hi : i < d.nodes.length, nAt d.nodes (dFind (pDir d) s) = (i : Int) ∧ d.nodes[i].1 = dFind (pDir d) s := by
  obtain ⟨x, hx, _, he⟩ := dFind_mem hh
  have := h.dirIds d.turns.length (Nat.le_refl _) x (by rw [List.take_length]; exact hx)
  rw [he] at this
  exact nAt_hit this
def bodyAt (d : DiskP) (i : Int) : List UInt8 := (d.nodes.getD i.toNat (0, [], [])).2.1
theorem bodyAt_nat {d : DiskP} {i : Nat} (h : i < d.nodes.length) : bodyAt d (i : Int) = d.nodes[i].2.1 := by unfold bodyAt; rw [Int.toNat_natCast, List.getD_eq_getElem?_getD, List.getElem?_eq_getElem h]; rfl
open Classical in
noncomputable def pRead (d : DiskP) (s : List UInt8) : List UInt8 × Bool := if DOk d ∧ dHas (pDir d) s = true then (bodyAt d (nAt d.nodes (dFind (pDir d) s)), true) else ([], false)
open Classical in
theorem pRead_yes {d : DiskP} {s : List UInt8} (h : DOk d) (hh : dHas (pDir d) s = true) : pRead d s = (bodyAt d (nAt d.nodes (dFind (pDir d) s)), true) := by unfold pRead; exact if_pos ⟨h, hh⟩
open Classical in
theorem pRead_no {d : DiskP} {s : List UInt8} (h : ¬ (DOk d ∧ dHas (pDir d) s = true)) : pRead d s = ([], false) := by unfold pRead; exact if_neg h
theorem pRead_len (d : DiskP) (s : List UInt8) (hl : totD d ≤ 1048576) : (pRead d s).1.length ≤ 1048576 := by
  by_cases h : DOk d ∧ dHas (pDir d) s = true
  · obtain ⟨i, hi, h1, _⟩ := h.1.dirAt h.2
    rw [pRead_yes h.1 h.2, h1]
    simp only
    rw [bodyAt_nat hi]
    have hm := totNd_mem (List.getElem_mem hi)
    have := (totD_parts hl).1
    unfold NdW at hm
    omega
  · rw [pRead_no h]; simp
theorem pFind_pos {d : DiskP} (h : DOk d) (s : List UInt8) : 1 ≤ dFind (pDir d) s ↔ dHas (pDir d) s = true := dFind_pos (by have := h.posT d.turns.length (Nat.le_refl _); rwa [List.take_length] at this) s
theorem fits_tk {d : DiskP} (hf : d.fits) : (∀ x ∈ d.kept, LkFit x) ∧ ∀ x ∈ d.turns, TnFit x := ⟨hf.2.2.2.2.1.2, hf.2.2.2.2.2.2⟩
attribute [local irreducible] TL TC TN TX TR TQ TA Pu Ret
set_option maxHeartbeats 2000000 in
theorem specl03At_c {w : World} {lo hi : Nat} {d : DiskP} {sn sk st : Value} {id : Int} (h : RDk w lo hi d sn sk st) (hl : d.nodes.length ≤ 1048576) :
    Ret Tryz.prog 84 #[.agg (dskC d sn sk st).toArray, I id] w fun v' w' => v' = I (nAt d.nodes id) ∧ Ext w w' := by
  obtain ⟨ds, A, c, hm, rfl, _, hr, hok⟩ := h.1
  have hln : d.nodes.length = ds.length := by rw [← hm, List.length_map]
  refine Ret_enter Tryz.func84 rfl rfl rfl ?_
  repeat' (first | apply Jbs | apply Jbt)
  refine TL_box (cs := dskC d (.slice A ds.length c) sk st) rfl rfl ?_
  intro w1 g E hg hz hbk
  clear hg hz
  repeat' (first | apply Jbq | apply Jbr | apply Jbs | apply Jbt | apply Jby | (apply Jcg; (first | exact Jaa rfl | exact Jab rfl | exact Jac Us.h rfl | (apply Jbl; exact Us.h; exact rfl; exact Sz.h; exact rfl)); exact rfl) | refine Jcg (Pu_load Fl.h rfl (fun _ e => by rw [e]; exact hbk.ld rfl)) rfl ?_)
  refine TC_loop (ι := Nat) (fun k => [(1, I id), (8, .slice A ds.length c), (9, I ds.length), (10, I k)]) (fun k w' => k ≤ ds.length ∧ nAt d.nodes id = nAtF id k (d.nodes.drop k) ∧ Ext w w') (fun k => ds.length - k) 0 (subEnv_cons rfl (subEnv_cons rfl (subEnv_cons rfl (subEnv_cons rfl (subEnv_nil _))))) ⟨Nat.zero_le _, rfl, E⟩ ?_
  intro k w2 ⟨hk, hat, e2⟩
  repeat' (first | apply Jbq | apply Jbr | apply Jbs | apply Jbt | (apply Jcg; exact Jad rfl rfl; exact rfl))
  refine Jcx rfl (fun hlt0 => ?_) (fun hge => ?_)
  · have hlt : k < ds.length := by omega
    obtain ⟨ad, rfl, hc⟩ := Rd.elem NdC_len (hr.ext e2) hlt
    have hnk : d.nodes[k]'(by omega) = NdP ds[k] := by simp only [← hm, List.getElem_map]
    have hid : (d.nodes[k]'(by omega)).1 = ds[k].id := by rw [hnk]; rfl
    have hdr : d.nodes.drop k = d.nodes[k]'(by omega) :: d.nodes.drop (k + 1) := List.drop_eq_getElem_cons (by omega)
    rw [hdr, nAtF, hid] at hat
    have hone := (hok _ (List.getElem_mem hlt)).one
    obtain ⟨x, hx⟩ : ∃ x, x = ds[k] := ⟨_, rfl⟩
    rw [← hx] at hc hone hat
    obtain ⟨id2, body, safe, vb, vs⟩ := x
    simp only at hat
    replace hc : ∀ j u, [I id2, vb, vs][j]? = some u → w2.cell? ((ad.add (k * 3)).add j) = some u := hc
    replace hone : [I id2, vb, vs].all (·.oneCell') = true := hone
    repeat' (first | apply Jbq | apply Jbr | apply Jbs | apply Jbt | apply Jby | apply Jbz | (apply Jcg; (first | exact Jaa rfl | exact Jab rfl | exact Jak rfl rfl | exact Jar Us.h Sz.h rfl rfl (by omega) | (apply Jbl; exact Us.h; exact rfl; exact Sz.h; exact rfl)); exact rfl) | refine Jcg (Pu_loadAgg (cs := [I id2, vb, vs]) Us.h rfl Sz.h rfl (fun _ e j u hu => by rw [e]; exact hc j u hu)) rfl ?_ | (refine TL_alloc Zs.h rfl rfl ?_; intro w3 g3 e3 hg3 hz3 hb3) | (refine TL_storeAgg rfl rfl Sz.h hone hb3 rfl ?_; intro w4 c4 hz4 hb4) | refine Jcg (Pu_load Fl.h rfl (fun _ e => by rw [e]; exact hb4.ld rfl)) rfl ?_)
    have E4 : Ext w w4 := Ext.then_iv (e2.ext e3) c4 (by have := e2.size; omega)
    refine Jcx rfl (fun he => ?_) (fun he => ?_)
    · rw [if_pos he] at hat
      repeat' (first | apply Jbq | apply Jbr | apply Jbs | apply Jbt | apply Jbu | apply Jbv | apply Jbw | (apply Jcg; (first | exact Jaa rfl | exact Jab rfl); exact rfl))
      exact TR_of (res1 rfl rfl) ⟨by rw [hat], E4⟩
    · rw [if_neg he] at hat
      repeat' (first | apply Jbq | apply Jbr | apply Jbt | apply Jbx | apply Jbz | (apply Jcg; (first | exact Jaa rfl | exact Jaf rfl rfl (by omega)); exact rfl))
      exact TN_round (k + 1) (subEnv_cons rfl (subEnv_cons rfl (subEnv_cons rfl (subEnv_cons rfl (subEnv_nil _))))) ⟨hlt, hat, E4⟩ (by omega)
  · obtain rfl : k = ds.length := by omega
    rw [List.drop_eq_nil_of_le (by omega)] at hat
    repeat' (first | apply Jbq | apply Jbr | apply Jbs | apply Jbt | apply Jbu | apply Jca | apply Jcb | apply Jcc | (apply Jcg; exact Jab rfl; exact rfl))
    exact TR_of (res1 rfl rfl) ⟨by rw [hat]; rfl, e2⟩
set_option maxHeartbeats 2000000 in
theorem implnodeAt_c {w : World} {lo hi : Nat} {d : DiskP} {sn sk st : Value} {id : Int} (h : RDk w lo hi d sn sk st) (hl : d.nodes.length ≤ 1048576) :
    Ret Tryz.prog 94 #[.agg (dskC d sn sk st).toArray, I id] w fun v' w' => v' = I (nAt d.nodes id) ∧ Ext w w' := by
  obtain ⟨ds, A, c, hm, rfl, _, hr, hok⟩ := h.1
  have hln : d.nodes.length = ds.length := by rw [← hm, List.length_map]
  refine Ret_enter Tryz.func94 rfl rfl rfl ?_
  repeat' (first | apply Jbs | apply Jbt)
  refine TL_box (cs := dskC d (.slice A ds.length c) sk st) rfl rfl ?_
  intro w1 g E hg hz hbk
  clear hg hz
  repeat' (first | apply Jbq | apply Jbr | apply Jbs | apply Jbt | apply Jby | (apply Jcg; (first | exact Jaa rfl | exact Jab rfl | exact Jac Us.h rfl | (apply Jbl; exact Us.h; exact rfl; exact Sz.h; exact rfl)); exact rfl) | refine Jcg (Pu_load Fl.h rfl (fun _ e => by rw [e]; exact hbk.ld rfl)) rfl ?_)
  refine TC_loop (ι := Nat) (fun k => [(1, I id), (8, .slice A ds.length c), (9, I ds.length), (10, I k)]) (fun k w' => k ≤ ds.length ∧ nAt d.nodes id = nAtF id k (d.nodes.drop k) ∧ Ext w w') (fun k => ds.length - k) 0 (subEnv_cons rfl (subEnv_cons rfl (subEnv_cons rfl (subEnv_cons rfl (subEnv_nil _))))) ⟨Nat.zero_le _, rfl, E⟩ ?_
  intro k w2 ⟨hk, hat, e2⟩
  repeat' (first | apply Jbq | apply Jbr | apply Jbs | apply Jbt | (apply Jcg; exact Jad rfl rfl; exact rfl))
  refine Jcx rfl (fun hlt0 => ?_) (fun hge => ?_)
  · have hlt : k < ds.length := by omega
    obtain ⟨ad, rfl, hc⟩ := Rd.elem NdC_len (hr.ext e2) hlt
    have hnk : d.nodes[k]'(by omega) = NdP ds[k] := by simp only [← hm, List.getElem_map]
    have hid : (d.nodes[k]'(by omega)).1 = ds[k].id := by rw [hnk]; rfl
    have hdr : d.nodes.drop k = d.nodes[k]'(by omega) :: d.nodes.drop (k + 1) := List.drop_eq_getElem_cons (by omega)
    rw [hdr, nAtF, hid] at hat
    have hone := (hok _ (List.getElem_mem hlt)).one
    obtain ⟨x, hx⟩ : ∃ x, x = ds[k] := ⟨_, rfl⟩
    rw [← hx] at hc hone hat
    obtain ⟨id2, body, safe, vb, vs⟩ := x
    simp only at hat
    replace hc : ∀ j u, [I id2, vb, vs][j]? = some u → w2.cell? ((ad.add (k * 3)).add j) = some u := hc
    replace hone : [I id2, vb, vs].all (·.oneCell') = true := hone
    repeat' (first | apply Jbq | apply Jbr | apply Jbs | apply Jbt | apply Jby | apply Jbz | (apply Jcg; (first | exact Jaa rfl | exact Jab rfl | exact Jak rfl rfl | exact Jar Us.h Sz.h rfl rfl (by omega) | (apply Jbl; exact Us.h; exact rfl; exact Sz.h; exact rfl)); exact rfl) | refine Jcg (Pu_loadAgg (cs := [I id2, vb, vs]) Us.h rfl Sz.h rfl (fun _ e j u hu => by rw [e]; exact hc j u hu)) rfl ?_ | (refine TL_alloc Zs.h rfl rfl ?_; intro w3 g3 e3 hg3 hz3 hb3) | (refine TL_storeAgg rfl rfl Sz.h hone hb3 rfl ?_; intro w4 c4 hz4 hb4) | refine Jcg (Pu_load Fl.h rfl (fun _ e => by rw [e]; exact hb4.ld rfl)) rfl ?_)
    have E4 : Ext w w4 := Ext.then_iv (e2.ext e3) c4 (by have := e2.size; omega)
    refine Jcx rfl (fun he => ?_) (fun he => ?_)
    · rw [if_pos he] at hat
      repeat' (first | apply Jbq | apply Jbr | apply Jbs | apply Jbt | apply Jbu | apply Jbv | apply Jbw | (apply Jcg; (first | exact Jaa rfl | exact Jab rfl); exact rfl))
      exact TR_of (res1 rfl rfl) ⟨by rw [hat], E4⟩
    · rw [if_neg he] at hat
      repeat' (first | apply Jbq | apply Jbr | apply Jbt | apply Jbx | apply Jbz | (apply Jcg; (first | exact Jaa rfl | exact Jaf rfl rfl (by omega)); exact rfl))
      exact TN_round (k + 1) (subEnv_cons rfl (subEnv_cons rfl (subEnv_cons rfl (subEnv_cons rfl (subEnv_nil _))))) ⟨hlt, hat, E4⟩ (by omega)
  · obtain rfl : k = ds.length := by omega
    rw [List.drop_eq_nil_of_le (by omega)] at hat
    repeat' (first | apply Jbq | apply Jbr | apply Jbs | apply Jbt | apply Jbu | apply Jca | apply Jcb | apply Jcc | (apply Jcg; exact Jab rfl; exact rfl))
    exact TR_of (res1 rfl rfl) ⟨by rw [hat]; rfl, e2⟩
set_option maxHeartbeats 2000000 in
theorem l03Dir_o {w : World} {lo hi : Nat} {d : DiskP} {sn sk st : Value} {n : Nat} (h : RDk w lo hi d sn sk st) (hk : d.kept.length ≤ 100) (ht : d.turns.length ≤ 100) (hn : n ≤ d.turns.length) :
    Ret Tryz.prog 59 #[.agg (dskC d sn sk st).toArray, I n] w fun v' w' => Ext w w' ∧ RowO LkC 162 2 w' w.heap.size w'.heap.size v' (runT d.kept (d.turns.take n)) := by
  obtain ⟨At, ct, rfl, hct, hrt⟩ := h.2.2.row
  refine Ret_enter Tryz.func59 rfl rfl rfl ?_
  repeat' (first | apply Jbs | apply Jbt)
  refine TL_box (cs := dskC d sn sk (.slice At d.turns.length ct)) rfl rfl ?_
  intro wb g E hg hz hb0
  clear hz
  have hzb := E.size
  repeat' (first | apply Jbq | apply Jbr | apply Jbs | apply Jbt | (apply Jcg; (first | exact Jab rfl | (apply Jbl; exact Us.h; exact rfl; exact Sz.h; exact rfl)); exact rfl) | (refine TL_buildSlice0 Us.h Sz.h rfl ?_; intro w1 g1 e1 hg1 hz1 hown1))
  have hb1 := hb0.ext e1
  repeat' (refine Jcg (Pu_load Fl.h rfl (fun _ e => by rw [e]; exact hb1.ld rfl)) rfl ?_)
  refine TL_appendRow Us.h Inf.h rfl rfl rfl LkC_one rfl rfl (RowO.new (l := []) rfl hown1 hg1 hz1) (h.2.1.row.ext (E.ext e1)) e1.size (by simp only [List.length_nil]; omega) rfl ?_
  intro w2 v2 c2 ho2
  rw [List.nil_append] at ho2
  have E2 : Ext wb w2 := Ext.then_iv e1 c2 (Nat.le_refl _)
  repeat' (first | apply Jbq | apply Jbr | apply Jbs | apply Jbt | apply Jby | (apply Jcg; exact Jab rfl; exact rfl))
  refine TC_loop (ι := Nat × Value) (fun x => [(1, I n), (2, .pointer (some ⟨g, 0, none⟩)), (5, x.2), (6, I x.1)]) (fun x w' => x.1 ≤ n ∧ Ext wb w' ∧ RowO LkC 162 2 w' w.heap.size w'.heap.size x.2 (runT d.kept (d.turns.take x.1))) (fun x => n - x.1) (0, v2) (subEnv_cons rfl (subEnv_cons rfl (subEnv_cons rfl (subEnv_cons rfl (subEnv_nil _))))) ⟨Nat.zero_le _, E2, ho2.wide hzb (Nat.le_refl _) (Nat.le_refl _)⟩ ?_
  rintro ⟨k, vd⟩ w3 ⟨hk3, e3, hr3⟩
  simp only at hk3 hr3
  show TC _ _ _ _ [(1, I n), (2, .pointer (some ⟨g, 0, none⟩)), (5, vd), (6, I (k : Int))] w3
  have hb3 := hb0.ext e3
  repeat' (first | apply Jbq | apply Jbr | apply Jbs | apply Jbt | (apply Jcg; (first | exact Jaa rfl | exact Jad rfl rfl); exact rfl))
  refine Jcx rfl (fun hlt0 => ?_) (fun hge => ?_)
  · have hlt : k < d.turns.length := by omega
    have hrl := runT_length d.kept (d.turns.take k)
    rw [List.length_take] at hrl
    obtain ⟨ad, rfl, hcell⟩ := Rd.elem TnC_len (hrt.ext (E.ext e3)) hlt
    repeat' (first | apply Jbr | apply Jbs | apply Jbt | apply Jby | apply Jbz | (apply Jcg; (first | exact Jaa rfl | exact Jar Us.h Sz.h rfl rfl (by omega) | (apply Jbl; exact Us.h; exact rfl; exact Sz.h; exact rfl)); exact rfl) | refine Jcg (Pu_load Fl.h rfl (fun _ e => by rw [e]; exact hb3.ld rfl)) rfl ?_ | refine Jcg (Pu_loadAgg (cs := TnC d.turns[k]) Us.h rfl Sz.h rfl (fun _ e j u hu => by rw [e]; exact hcell j u hu)) rfl ?_)
    refine TL_call rfl en133 (l03Turn_o hr3.rk (by omega)) rfl rfl ?_
    rintro v4 w4 ⟨e4, hr4⟩
    repeat' (first | apply Jbq | apply Jbr | apply Jbt | apply Jbx | (apply Jcg; (first | exact Jaa rfl | exact Jab rfl | exact Jaf rfl rfl (by omega)); exact rfl))
    refine TN_round (k + 1, v4) (subEnv_cons rfl (subEnv_cons rfl (subEnv_cons rfl (subEnv_cons rfl (subEnv_nil _))))) ⟨by simp only; omega, e3.ext e4, ?_⟩ (by simp only; omega)
    simp only
    rw [runT_take hlt]
    exact hr4.wide (by have := e3.size; omega) (Nat.le_refl _) (Nat.le_refl _)
  · obtain rfl : k = n := by omega
    repeat' (first | apply Jbq | apply Jbr | apply Jbs | apply Jbt | apply Jbu | apply Jca | apply Jcb | apply Jcc | (apply Jcg; (first | exact Jaa rfl | exact Jab rfl); exact rfl))
    exact TR_of (res1 rfl rfl) ⟨E.ext e3, hr3⟩
theorem l03Dir_c {w : World} {lo hi : Nat} {d : DiskP} {sn sk st : Value} {n : Nat} (h : RDk w lo hi d sn sk st) (hk : d.kept.length ≤ 100) (ht : d.turns.length ≤ 100) (hn : n ≤ d.turns.length) :
    Ret Tryz.prog 59 #[.agg (dskC d sn sk st).toArray, I n] w fun v' w' => Ext w w' ∧ RK w' 0 w'.heap.size v' (runT d.kept (d.turns.take n)) := by
  refine (l03Dir_o h hk ht hn).mono fun v w' ⟨e, ho⟩ => ⟨e, ho.rk⟩
open Classical in
noncomputable def pDirs (d : DiskP) : List LkD := if DOk d then pDir d else []
open Classical in
theorem pDirs_yes {d : DiskP} (h : DOk d) : pDirs d = pDir d := by unfold pDirs; exact if_pos h
open Classical in
theorem pDirs_no {d : DiskP} (h : ¬ DOk d) : pDirs d = [] := by unfold pDirs; exact if_neg h
theorem RK.nil (w : World) : RK w 0 w.heap.size (.slice none 0 0) [] := RowR.rk ⟨none, 0, rfl, Nat.le_refl _, ⟨by simp [cellsL], Nat.le_refl _, fun h => absurd h (by simp)⟩⟩
set_option maxHeartbeats 2000000 in
theorem specDiskDir_o {w : World} {lo hi : Nat} {d : DiskP} {sn sk st : Value} (h : RDk w lo hi d sn sk st) (hf : d.fits) (hl : totD d ≤ 1048576) :
    Ret Tryz.prog 86 #[.agg (dskC d sn sk st).toArray] w fun v' w' => Ext w w' ∧ RowO LkC 162 2 w' w.heap.size w'.heap.size v' (pDirs d) := by
  have hh := h
  obtain ⟨At, ct, rfl, hct, hrt⟩ := h.2.2.row
  refine Ret_enter Tryz.func86 rfl rfl rfl ?_
  repeat' (first | apply Jbs | apply Jbt)
  refine TL_box (cs := dskC d sn sk (.slice At d.turns.length ct)) rfl rfl ?_
  intro wb g E hg hz hb0
  clear hz
  repeat' (first | apply Jbq | apply Jbr | apply Jbs | apply Jbt | (apply Jcg; exact Jab rfl; exact rfl) | refine Jcg (Pu_loadAgg (cs := dskC d sn sk (.slice At d.turns.length ct)) Us.h rfl Sz.h rfl (fun _ e j u hu => by rw [e, add0, hb0.cell]; exact hu)) rfl ?_)
  refine TL_call rfl en57 (specDiskOk_c (hh.ext E) hf hl) rfl rfl ?_
  rintro _ w1 ⟨rfl, e1⟩
  cases hp : pDOk d with
  | false =>
    repeat' (first | apply Jbq | apply Jbr | apply Jbs | apply Jbt | apply Jbu | apply Jbv | (refine Jce rfl ?_) | (apply Jcg; (first | exact Jab rfl | exact Jaj rfl); exact rfl))
    exact TR_of (res1 rfl rfl) ⟨E.ext e1, by rw [pDirs_no (fun h => by rw [pDOk_yes h] at hp; cases hp)]; exact RowO.nil _ _ (E.ext e1).size⟩
  | true =>
    have hD := pDOk_of hp
    have hB := hD.base
    unfold dBase at hB
    have hb1 := hb0.ext e1
    repeat' (first | apply Jbq | apply Jbr | apply Jbs | apply Jbt | apply Jbz | (refine Jcf rfl ?_) | (apply Jcg; (first | exact Jac Us.h rfl | exact Jaj rfl | (apply Jbl; exact Us.h; exact rfl; exact Sz.h; exact rfl)); exact rfl) | refine Jcg (Pu_load Fl.h rfl (fun _ e => by rw [e]; exact hb1.ld rfl)) rfl ?_ | refine Jcg (Pu_loadAgg (cs := dskC d sn sk (.slice At d.turns.length ct)) Us.h rfl Sz.h rfl (fun _ e j u hu => by rw [e, add0, hb1.cell]; exact hu)) rfl ?_)
    refine TL_call rfl en59 (l03Dir_o (hh.ext (E.ext e1)) (by omega) (by omega) (Nat.le_refl _)) rfl rfl ?_
    rintro v2 w2 ⟨e2, hr2⟩
    repeat' (first | apply Jbq | apply Jbr | apply Jbu | (apply Jcg; exact Jab rfl; exact rfl))
    refine TR_of (res1 rfl rfl) ⟨(E.ext e1).ext e2, ?_⟩
    rw [List.take_length] at hr2
    rw [pDirs_yes hD]
    exact hr2.wide (E.ext e1).size (Nat.le_refl _) (Nat.le_refl _)
theorem specDiskDir_c {w : World} {lo hi : Nat} {d : DiskP} {sn sk st : Value} (h : RDk w lo hi d sn sk st) (hf : d.fits) (hl : totD d ≤ 1048576) :
    Ret Tryz.prog 86 #[.agg (dskC d sn sk st).toArray] w fun v' w' => Ext w w' ∧ RK w' 0 w'.heap.size v' (pDirs d) := by
  refine (specDiskDir_o h hf hl).mono fun v w' ⟨e, ho⟩ => ⟨e, ho.rk⟩
end Go.Proofs.YtggaghghclomkaaGreat
