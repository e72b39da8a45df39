/- Contracts: everything is made safe, by the program. -/
import Derived.Test.YtggaghghclomkaaGreatOnlyD
import Derived.Test.YtggaghghclomkaaGreatNoD
namespace Go.Proofs.YtggaghghclomkaaGreat
open Go.RowKit
/-! ### the plain law -/
def calmP (p : NodeP) : NodeP := (p.1, p.2.1, p.2.1)
def calmD (d : DiskP) : DiskP := { d with nodes := (onlyP d.nodes ((pDir d).map (·.id))).mapIdx (fun _ p => calmP p), kept := pDir d, turns := [] }
open Classical in
noncomputable def pCalm (d : DiskP) : DiskP × Bool := if DOk d then (calmD d, true) else (noDk, false)
open Classical in
theorem pCalm_yes {d : DiskP} (h : DOk d) : pCalm d = (calmD d, true) := by unfold pCalm; exact if_pos h
open Classical in
theorem pCalm_no {d : DiskP} (h : ¬ DOk d) : pCalm d = (noDk, false) := by unfold pCalm; exact if_neg h
theorem DOk.idB {d : DiskP} (h : DOk d) : ∀ i ∈ nIds d.nodes, -9223372036854775808 ≤ i ∧ i ≤ 9223372036854775807 := by
  intro i hi
  obtain ⟨p, hp, rfl⟩ := List.mem_map.1 hi
  obtain ⟨j, hj, rfl⟩ := List.mem_iff_getElem.1 hp
  have h1 := h.node j hj
  have hB := h.base
  unfold dBase at hB
  omega
theorem ONx.open {w : World} {v : Value} {es : List Nd} {k : Nat} (h : ONx w v es) (hk : k < es.length) : ∃ g c lo hi, v = .slice (some ⟨g, 0, none⟩) es.length c ∧ Own w lo hi 98 3 (some ⟨g, 0, none⟩) es.length c (cellsL NdC es) := by
  obtain ⟨⟨lo, hi, ⟨A, c, rfl, ho⟩, _⟩, _, _⟩ := h
  rcases ho.head with rfl | ⟨g, rfl, _, _⟩
  · obtain ⟨ad, h, _⟩ := ho.rd.at_ (by omega); cases h
  · exact ⟨g, c, lo, hi, rfl, ho⟩
theorem OBx.sl {w : World} {v : Value} {s : List UInt8} (h : OBx w v s) : ∃ A c lo hi, v = .slice A s.length c ∧ Own w lo hi 5 1 A s.length c (u8s s) := by
  obtain ⟨lo, hi, ⟨A, c, rfl, ho⟩, _⟩ := h
  exact ⟨A, c, lo, hi, rfl, ho⟩
theorem bkd_in {v : Value} {es : List Nd} {k : Nat} (hk : k < es.length) : ∀ b ∈ bkd es[k], b ∈ bksN v es := fun b hb => List.mem_append.2 (.inr (List.mem_flatMap.2 ⟨_, List.getElem_mem hk, hb⟩))
theorem onlyP_mem {l : List NodeP} {s : List Int} {p : NodeP} (h : p ∈ onlyP l s) : p ∈ l := (List.mem_filter.1 h).1
theorem onlyP_length (l : List NodeP) (s : List Int) : (onlyP l s).length ≤ l.length := List.length_filter_le _ _
theorem totNd_mapIdx : ∀ (l : List NodeP) (f : Nat → NodeP → NodeP), (∀ i p, NdW (f i p) ≤ 2 * NdM p) → totNd (l.mapIdx f) ≤ 2 * pUsed l
  | [], _, _ => by simp [totNd, pUsed]
  | p :: r, f, h => by
    have h1 := totNd_mapIdx r (fun i => f (i + 1)) (fun i p => h (i + 1) p)
    have h2 := h 0 p
    rw [List.mapIdx_cons]
    simp only [totNd, pUsed, List.map_cons, List.sum_cons] at *
    omega
theorem pUsed_only (s : List Int) : ∀ l : List NodeP, pUsed (onlyP l s) ≤ pUsed l
  | [] => Int.le_refl _
  | p :: r => by
    have h := pUsed_only s r
    have h0 : 0 ≤ NdM p := by unfold NdM; omega
    unfold onlyP at *
    rw [List.filter_cons]
    split
    · simp only [pUsed, List.map_cons, List.sum_cons] at *; omega
    · simp only [pUsed, List.map_cons, List.sum_cons] at *; omega
/-- A disk of nodes that were turned, within the room that was. -/
theorem tot_turned {d : DiskP} (h : DOk d) {L : List LkD} (h1 : L.length ≤ 8) (h2 : ∀ x ∈ L, pName x.name = true) {f : Nat → NodeP → NodeP} (hf : ∀ i p, NdW (f i p) ≤ 2 * NdM p) (a b c : Int) :
    totD ⟨a, b, c, (onlyP d.nodes (L.map (·.id))).mapIdx f, L, []⟩ ≤ 1048576 := by
  have hB := h.base
  unfold dBase at hB
  have hu := h.used
  have h3 := totNd_mapIdx (onlyP d.nodes (L.map (·.id))) f hf
  have h4 := pUsed_only (L.map (·.id)) d.nodes
  have h5 := onlyP_length d.nodes (L.map (·.id))
  have h6 := totLk_names h2
  unfold totD
  simp only [List.length_mapIdx, List.length_nil, totTn, List.map_nil, List.sum_nil]
  omega
theorem pCalm_tot {d : DiskP} : totD (pCalm d).1 ≤ 1048576 := by
  by_cases h : DOk d
  · rw [pCalm_yes h]
    have h1 := h.dirLe d.turns.length (Nat.le_refl _)
    have h2 := h.dirName d.turns.length (Nat.le_refl _)
    rw [List.take_length] at h1 h2
    exact tot_turned h h1 h2 (fun _ p => by unfold calmP NdW NdM; simp only; omega) _ _ _
  · rw [pCalm_no h, totD_no]; decide
attribute [local irreducible] TL TC TN TX TR TQ TA Pu Ret
theorem pIds_flat (d : DiskP) (L : List LkD) : pIds { d with kept := L, turns := [] } = L.map (·.id) := by simp [pIds]
end Go.Proofs.YtggaghghclomkaaGreat
