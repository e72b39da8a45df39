/- Contracts: the directory of a disk, by the program. -/
import Derived.Test.YtggaghghclomkaaGreatLinks
import Derived.Test.YtggaghghclomkaaGreatReadE
namespace Go.Proofs.YtggaghghclomkaaGreat
open Go.RowKit
/-! ### the plain law: how long a directory is, and its names -/
theorem pName_len {s : List UInt8} (h : pName s = true) : s.length ≤ 12 := by unfold pName at h; simp at h; omega
theorem dLess_lt {L : List LkD} {s : List UInt8} (h : dHas L s = true) : (dLess L s).length < L.length := by
  unfold dHas at h
  rw [List.any_eq_true] at h
  obtain ⟨x, hx, he⟩ := h
  unfold dLess
  exact List.length_filter_lt_length_iff_exists.2 ⟨x, hx, by rw [he]; simp⟩
theorem pTurn_len2 {L : List LkD} {t : TnD} (h : aOk L t) : (pTurn L t).length ≤ L.length + (if t.kind = 1 then 1 else 0) := by
  unfold pTurn
  rcases h with ⟨a, _⟩ | ⟨a, b, _⟩ | ⟨a, b⟩
  · rw [if_pos a, if_pos a, dIns_length]; exact Nat.le_refl _
  · rw [if_neg (by omega), if_pos a, dIns_length, if_neg (by omega)]
    have h1 := dLess_lt b
    have h2 := dLess_length (dLess L t.name) t.to
    omega
  · rw [if_neg (by omega), if_neg (by omega), if_neg (by omega)]
    have h1 := dLess_length L t.name
    omega
theorem DOk.dirLen {d : DiskP} (h : DOk d) (k : Nat) (hk : k ≤ d.turns.length) : (runT d.kept (d.turns.take k)).length ≤ d.kept.length + ((d.turns.take k).filter (fun t => decide (t.kind = 1))).length := by
  have h2 := (dok_iff d).1 h
  induction k with
  | zero => simp [runT]
  | succ k ih =>
    rw [runT_take (by omega), List.take_succ_eq_append_getElem (by omega), List.filter_append, List.length_append]
    have h3 := pTurn_len2 (h2.turn k (by omega))
    have h4 := ih (by omega)
    by_cases e : d.turns[k].kind = 1
    · rw [if_pos e] at h3
      rw [show [d.turns[k]].filter (fun t => decide (t.kind = 1)) = [d.turns[k]] by simp [e]]
      simp only [List.length_cons, List.length_nil]
      omega
    · rw [if_neg e] at h3
      omega
theorem DOk.dirLe {d : DiskP} (h : DOk d) (k : Nat) (hk : k ≤ d.turns.length) : (runT d.kept (d.turns.take k)).length ≤ 8 := by
  have h1 := h.dirLen k hk
  have h2 := h.len
  have hB := h.base
  unfold dBase at hB
  unfold pIds at h2
  rw [List.length_append, List.length_map, List.length_map] at h2
  have h3 : ((d.turns.take k).filter (fun t => decide (t.kind = 1))).length ≤ (d.turns.filter (fun t => decide (t.kind = 1))).length := (List.Sublist.filter _ (List.take_sublist _ _)).length_le
  omega
theorem pTurn_name {L : List LkD} {t : TnD} (ht : tOk0 t) (hL : ∀ x ∈ L, pName x.name = true) : ∀ x ∈ pTurn L t, pName x.name = true := by
  intro x hx
  unfold pTurn at hx
  rcases ht.2 with ⟨a, b⟩ | ⟨a, b, c⟩ | ⟨a, b, c⟩
  · rw [if_pos a] at hx
    rcases (mem_dIns _).1 hx with rfl | hx
    · exact ht.1
    · exact hL x hx
  · rw [if_neg (by omega), if_pos a] at hx
    rcases (mem_dIns _).1 hx with rfl | hx
    · exact b
    · exact hL x (mem_dLess (mem_dLess hx))
  · rw [if_neg (by omega), if_neg (by omega)] at hx
    exact hL x (mem_dLess hx)
theorem DOk.dirName {d : DiskP} (h : DOk d) (k : Nat) (hk : k ≤ d.turns.length) : ∀ x ∈ runT d.kept (d.turns.take k), pName x.name = true := by
  have h2 := (dok_iff d).1 h
  induction k with
  | zero =>
    intro x hx
    obtain ⟨i, hi, rfl⟩ := List.mem_iff_getElem.1 (show x ∈ d.kept by simpa [runT] using hx)
    exact (h.link i hi).1
  | succ k ih => rw [runT_take (by omega)]; exact pTurn_name (h2.turn0 k (by omega)) (ih (by omega))
theorem totLk_names : ∀ {L : List LkD}, (∀ x ∈ L, pName x.name = true) → totLk L ≤ 12 * L.length
  | [], _ => by simp [totLk]
  | x :: r, h => by
    have h1 := totLk_names (L := r) (fun y hy => h y (by simp [hy]))
    have h2 := pName_len (h x (by simp))
    unfold totLk LkW at *
    simp only [List.map_cons, List.sum_cons, List.length_cons] at *
    omega
theorem pDirs_tot {d : DiskP} : (pDirs d).length ≤ 8 ∧ totLk (pDirs d) ≤ 96 := by
  by_cases h : DOk d
  · rw [pDirs_yes h]
    have h1 := h.dirLe d.turns.length (Nat.le_refl _)
    have h2 := totLk_names (h.dirName d.turns.length (Nat.le_refl _))
    rw [List.take_length] at h1 h2
    unfold pDir
    omega
  · rw [pDirs_no h]; simp [totLk]
attribute [local irreducible] TL TC TN TX TR TQ TA Pu Ret
set_option maxRecDepth 100000 in
set_option maxHeartbeats 4000000 in
theorem implDiskDir_c {w : World} {lo hi : Nat} {d : DiskP} {sn sk st : Value} (h : RDk w lo hi d sn sk st) (hf : d.fits) (hl : totD d ≤ 1048576) :
    Ret Tryz.prog 36 #[.agg (dskC d sn sk st).toArray] w fun v' w' => Ext w w' ∧ RowO LkC 162 2 w' w.heap.size w'.heap.size v' (pDirs d) := by
  have hh := h
  obtain ⟨ft1, ft2⟩ := fits_tk hf
  refine Ret_enter Tryz.func36 rfl rfl rfl ?_
  repeat' (first | apply Jbs | apply Jbt)
  refine TL_box (cs := dskC d sn sk st) rfl rfl ?_
  intro wb g E hg hz hb0
  clear hz
  repeat' (first | apply Jbq | apply Jbr | apply Jbs | apply Jbt | (apply Jcg; exact Jab rfl; exact rfl) | refine Jcg (Pu_loadAgg (cs := dskC d sn sk st) Us.h rfl Sz.h rfl (fun _ e j u hu => by rw [e, add0, hb0.cell]; exact hu)) rfl ?_)
  refine TL_call rfl en65 (implDiskOk_c (hh.ext E) hf hl) rfl rfl ?_
  rintro _ w1 ⟨rfl, e1⟩
  have E1 := E.ext e1
  have hb1 := hb0.ext e1
  cases hp : pDOk d with
  | false =>
    rw [pDirs_no (fun h => by rw [pDOk_yes h] at hp; cases hp)]
    repeat' (first | apply Jbq | apply Jbr | apply Jbs | apply Jbt | apply Jbu | apply Jbv | (refine Jce rfl ?_) | (apply Jcg; (first | exact Jab rfl | exact Jaj rfl); exact rfl))
    exact TR_of (res1 rfl rfl) ⟨E1, RowO.nil _ _ E1.size⟩
  | true =>
    have hD := pDOk_of hp
    have hB := hD.base
    unfold dBase at hB
    rw [pDirs_yes hD]
    repeat' (first | apply Jbq | apply Jbr | apply Jbs | apply Jbt | apply Jbz | (refine Jcf rfl ?_) | (apply Jcg; (first | exact Jaj rfl | (apply Jbl; exact Us.h; exact rfl; exact Sz.h; exact rfl)); exact rfl) | refine Jcg (Pu_load Fl.h rfl (fun _ e => by rw [e]; exact hb1.ld rfl)) rfl ?_)
    refine TL_call rfl en67 (dirOf_c (hh.2.1.ext E1) (hh.2.2.ext E1) (kept_asc ((dok_iff d).1 hD).link) (by omega) (by omega) ft1 ft2) rfl rfl ?_
    rintro _ w2 ⟨e2, hq⟩
    have E2 := E1.ext e2
    rcases hq with ⟨_, b, kb, rfl, _, _, hM⟩ | ⟨hA, _⟩
    · repeat' (first | apply Jbq | apply Jbr | apply Jbs | apply Jbt | (apply Jcg; (first | exact Jaa rfl | exact Jab rfl | exact Jae rfl rfl); exact rfl))
      refine TL_call rfl en69 (links_c hM (by have := hD.asc d.turns.length (Nat.le_refl _); rwa [List.take_length] at this) (by have := hD.dirLe d.turns.length (Nat.le_refl _); rw [List.take_length] at this; omega)) rfl rfl ?_
      rintro v3 w3 ⟨e3, ho3⟩
      repeat' (first | apply Jbq | apply Jbr | apply Jbu | (apply Jcg; exact Jab rfl; exact rfl))
      exact TR_of (res1 rfl rfl) ⟨E2.ext e3, ho3.wide E2.size (Nat.le_refl _) (Nat.le_refl _)⟩
    · exact absurd ((dok_iff d).1 hD).turn hA
end Go.Proofs.YtggaghghclomkaaGreat
