/- Directories in the order of their names, and when a disk is right: the plain law. No condition. -/
import Derived.Test.YtggaghghclomkaaGreatDiskU
import Derived.Maps.OwnSet
import Derived.WideShapes
namespace Go.Proofs.YtggaghghclomkaaGreat
open Go.RowKit

/-! ### the order of texts -/
theorem less_before : ∀ a b : List UInt8, Op.bytesLess a b = bytesBefore a b
  | [], [] => by simp [Op.bytesLess, bytesBefore]
  | [], _ :: _ => by simp [Op.bytesLess, bytesBefore]
  | _ :: _, [] => by simp [Op.bytesLess, bytesBefore]
  | a :: r, b :: s => by simp [Op.bytesLess, bytesBefore, less_before r s]
theorem bb_irrefl (a : List UInt8) : bytesBefore a a = false := WideAt.bytes_irrefl a
theorem bb_total {a b : List UInt8} (h : a ≠ b) : bytesBefore a b = true ∨ bytesBefore b a = true := WideAt.bytes_total a b h
theorem bb_trans {a b c : List UInt8} (h : bytesBefore a b = true) (k : bytesBefore b c = true) : bytesBefore a c = true := WideShapes.bytes_trans a b c h k
theorem bb_asymm {a b : List UInt8} (h : bytesBefore a b = true) : bytesBefore b a = false := by
  cases k : bytesBefore b a with
  | false => rfl
  | true => have := bb_trans h k; rw [bb_irrefl] at this; cases this

/-! ### directories -/
def dHas (L : List LkD) (s : List UInt8) : Bool := L.any (fun x => x.name == s)
def dFind (L : List LkD) (s : List UInt8) : Int := match L.find? (fun x => x.name == s) with | some x => x.id | none => 0
def dLess (L : List LkD) (s : List UInt8) : List LkD := L.filter (fun x => !(x.name == s))
def dIns (x : LkD) : List LkD → List LkD
  | [] => [x]
  | y :: r => if bytesBefore x.name y.name = true then x :: y :: r else y :: dIns x r
def Asc (L : List LkD) : Prop := L.Pairwise (fun x y => bytesBefore x.name y.name = true)
def Pos (L : List LkD) : Prop := ∀ x ∈ L, 1 ≤ x.id
theorem mem_dIns {x y : LkD} : ∀ L : List LkD, y ∈ dIns x L ↔ y = x ∨ y ∈ L
  | [] => by simp [dIns]
  | z :: r => by
    unfold dIns
    split
    · simp
    · rw [List.mem_cons, mem_dIns r, List.mem_cons]; exact ⟨fun h => h.elim (fun h => .inr (.inl h)) (fun h => h.elim .inl (fun h => .inr (.inr h))), fun h => h.elim (fun h => .inr (.inl h)) (fun h => h.elim .inl (fun h => .inr (.inr h)))⟩
theorem dIns_length (x : LkD) : ∀ L : List LkD, (dIns x L).length = L.length + 1
  | [] => rfl
  | y :: r => by unfold dIns; split <;> simp [dIns_length x r]
theorem dLess_length (L : List LkD) (s : List UInt8) : (dLess L s).length ≤ L.length := List.length_filter_le _ _
theorem mem_dLess {y : LkD} {L : List LkD} {s : List UInt8} (h : y ∈ dLess L s) : y ∈ L := (List.mem_filter.1 h).1
theorem dHas_none {L : List LkD} {s : List UInt8} (h : dHas L s = false) : ∀ y ∈ L, y.name ≠ s := by
  intro y hy e
  have : dHas L s = true := by unfold dHas; rw [List.any_eq_true]; exact ⟨y, hy, by simp [e]⟩
  rw [h] at this; cases this
theorem dHas_dLess (L : List LkD) (s : List UInt8) : dHas (dLess L s) s = false := by
  cases h : dHas (dLess L s) s with
  | false => rfl
  | true =>
    unfold dHas at h
    rw [List.any_eq_true] at h
    obtain ⟨y, hy, he⟩ := h
    have := (List.mem_filter.1 hy).2
    simp only [he, Bool.not_true] at this
    cases this
theorem dLess_none {L : List LkD} {s : List UInt8} (h : dHas L s = false) : dLess L s = L := by
  unfold dLess
  rw [List.filter_eq_self]
  intro y hy
  have := dHas_none h y hy
  simp [this]
theorem dHas_less_other {L : List LkD} {s t : List UInt8} (h : dHas L s = false) : dHas (dLess L t) s = false := by
  cases h2 : dHas (dLess L t) s with
  | false => rfl
  | true =>
    unfold dHas at h2
    rw [List.any_eq_true] at h2
    obtain ⟨y, hy, he⟩ := h2
    exact absurd (by simpa using he) (dHas_none h y (mem_dLess hy))
theorem asc_dLess {L : List LkD} (h : Asc L) (s : List UInt8) : Asc (dLess L s) := List.Pairwise.filter _ h
theorem asc_dIns {x : LkD} : ∀ {L : List LkD}, Asc L → dHas L x.name = false → Asc (dIns x L)
  | [], _, _ => by simp [dIns, Asc]
  | y :: r, h, hn => by
    have hy : y.name ≠ x.name := dHas_none hn y (by simp)
    have hr : dHas r x.name = false := by unfold dHas at *; rw [List.any_cons, Bool.or_eq_false_iff] at hn; exact hn.2
    unfold Asc at h
    rw [List.pairwise_cons] at h
    unfold dIns
    split
    · rename_i hb
      refine List.pairwise_cons.2 ⟨fun z hz => ?_, List.pairwise_cons.2 h⟩
      rcases List.mem_cons.1 hz with rfl | hz
      · exact hb
      · exact bb_trans hb (h.1 z hz)
    · rename_i hb
      refine List.pairwise_cons.2 ⟨fun z hz => ?_, asc_dIns h.2 hr⟩
      rcases (mem_dIns r).1 hz with rfl | hz
      · exact (bb_total hy).resolve_right hb
      · exact h.1 z hz
theorem dFind_pos {L : List LkD} (hp : Pos L) (s : List UInt8) : 1 ≤ dFind L s ↔ dHas L s = true := by
  unfold dFind dHas
  constructor
  · intro h
    cases hf : L.find? (fun x => x.name == s) with
    | none => rw [hf] at h; simp at h
    | some x => exact List.any_eq_true.2 ⟨x, List.mem_of_find?_eq_some hf, List.find?_some (p := fun x : LkD => x.name == s) hf⟩
  · intro h
    cases hf : L.find? (fun x => x.name == s) with
    | none =>
      rw [List.find?_eq_none] at hf
      rw [List.any_eq_true] at h
      obtain ⟨x, hx, he⟩ := h
      exact absurd he (hf x hx)
    | some x => exact hp x (List.mem_of_find?_eq_some hf)
theorem dFind_none {L : List LkD} {s : List UInt8} (h : dHas L s = false) : dFind L s = 0 := by
  unfold dFind
  have : L.find? (fun x => x.name == s) = none := by
    rw [List.find?_eq_none]
    intro x hx
    have := dHas_none h x hx
    simpa using this
  rw [this]
theorem dFind_mem {L : List LkD} {s : List UInt8} (h : dHas L s = true) : ∃ x ∈ L, x.name = s ∧ x.id = dFind L s := by
  unfold dFind
  cases hf : L.find? (fun x => x.name == s) with
  | none =>
    rw [List.find?_eq_none] at hf
    unfold dHas at h
    rw [List.any_eq_true] at h
    obtain ⟨x, hx, he⟩ := h
    exact absurd he (hf x hx)
  | some x => exact ⟨x, List.mem_of_find?_eq_some hf, by simpa using List.find?_some (p := fun x : LkD => x.name == s) hf, rfl⟩

/-! ### the datum that a map of the program reads as -/
def entD (x : LkD) : Lit × DataW Unit := (.string x.name, .lit (.int .i64 x.id))
def toD (L : List LkD) : DataW Unit := .map (L.map entD)
theorem toD_ins (x : LkD) : ∀ L : List LkD, DataW.insert (entD x) (L.map entD) = (dIns x L).map entD
  | [] => rfl
  | y :: r => by
    have hb : (entD x).1.before (entD y).1 = bytesBefore x.name y.name := rfl
    rw [List.map_cons, DataW.insert, hb, dIns]
    split
    · rfl
    · rw [List.map_cons, toD_ins x r]
theorem toD_filter (L : List LkD) (s : List UInt8) : (L.map entD).filter (fun p => !p.1.sameKey (.string s)) = (dLess L s).map entD := by
  unfold dLess
  rw [List.filter_map]
  rfl
theorem toD_put (L : List LkD) (s : List UInt8) (i : Int) : (toD L).put (.string s) (.lit (.int .i64 i)) = toD (dIns ⟨s, i⟩ (dLess L s)) := by
  unfold toD DataW.put
  simp only
  rw [toD_filter, ← toD_ins]
  rfl
theorem toD_del (L : List LkD) (s : List UInt8) : (toD L).del (.string s) = toD (dLess L s) := by
  unfold toD DataW.del
  simp only
  rw [toD_filter]
theorem toD_has (L : List LkD) (s : List UInt8) : Maps.has (toD L) (.string s) = dHas L s := by
  unfold toD Maps.has dHas
  simp only [List.any_map]
  rfl
theorem toD_at (L : List LkD) (s : List UInt8) : (toD L).atKey (.string s) (.lit (.int .i64 0)) = .lit (.int .i64 (dFind L s)) := by
  unfold toD DataW.atKey dFind
  simp only [List.find?_map]
  have : (fun p : Lit × DataW Unit => p.1.sameKey (.string s)) ∘ entD = fun x => x.name == s := rfl
  rw [this]
  cases L.find? (fun x => x.name == s) <;> rfl

/-! ### turns -/
def pTurn (L : List LkD) (t : TnD) : List LkD :=
  if t.kind = 1 then dIns ⟨t.name, t.id⟩ L
  else if t.kind = 5 then dIns ⟨t.to, dFind L t.name⟩ (dLess (dLess L t.name) t.to) else dLess L t.name
def runT (L : List LkD) (ts : List TnD) : List LkD := ts.foldl pTurn L
def tOk (L : List LkD) (t : TnD) : Prop :=
  pName t.name = true ∧ ((t.kind = 1 ∧ t.to = [] ∧ 1 ≤ t.id ∧ ¬ 1 ≤ dFind L t.name) ∨ (t.kind = 5 ∧ pName t.to = true ∧ t.to ≠ t.name ∧ t.id = 0 ∧ 1 ≤ dFind L t.name) ∨ (t.kind = 6 ∧ t.to = [] ∧ t.id = 0 ∧ 1 ≤ dFind L t.name))
def tOk0 (t : TnD) : Prop :=
  pName t.name = true ∧ ((t.kind = 1 ∧ t.to = []) ∨ (t.kind = 5 ∧ pName t.to = true ∧ t.id = 0) ∨ (t.kind = 6 ∧ t.to = [] ∧ t.id = 0))
def aOk (L : List LkD) (t : TnD) : Prop :=
  (t.kind = 1 ∧ dHas L t.name = false) ∨ (t.kind = 5 ∧ dHas L t.name = true ∧ t.to ≠ t.name) ∨ (t.kind = 6 ∧ dHas L t.name = true)
theorem runT_take {L : List LkD} {ts : List TnD} {k : Nat} (h : k < ts.length) : runT L (ts.take (k + 1)) = pTurn (runT L (ts.take k)) ts[k] := by
  unfold runT
  rw [List.take_succ_eq_append_getElem h, List.foldl_append]
  rfl
theorem tOk_iff {L : List LkD} {t : TnD} (hp : Pos L) (h1 : t.kind = 1 → 1 ≤ t.id) : tOk L t ↔ tOk0 t ∧ aOk L t := by
  have hf := dFind_pos hp t.name
  have hn : ¬ 1 ≤ dFind L t.name ↔ dHas L t.name = false := by rw [hf]; simp
  unfold tOk tOk0 aOk
  rw [hn, hf]
  constructor
  · rintro ⟨h, ⟨a, b, c, d⟩ | ⟨a, b, c, d, e⟩ | ⟨a, b, c, d⟩⟩
    · exact ⟨⟨h, .inl ⟨a, b⟩⟩, .inl ⟨a, d⟩⟩
    · exact ⟨⟨h, .inr (.inl ⟨a, b, d⟩)⟩, .inr (.inl ⟨a, e, c⟩)⟩
    · exact ⟨⟨h, .inr (.inr ⟨a, b, c⟩)⟩, .inr (.inr ⟨a, d⟩)⟩
  · rintro ⟨⟨h, ha⟩, hb⟩
    refine ⟨h, ?_⟩
    rcases ha with ⟨a, b⟩ | ⟨a, b, c⟩ | ⟨a, b, c⟩
    · rcases hb with ⟨x, y⟩ | ⟨x, y, z⟩ | ⟨x, y⟩
      · exact .inl ⟨a, b, h1 a, y⟩
      · exact absurd (a.symm.trans x) (by decide)
      · exact absurd (a.symm.trans x) (by decide)
    · rcases hb with ⟨x, y⟩ | ⟨x, y, z⟩ | ⟨x, y⟩
      · exact absurd (a.symm.trans x) (by decide)
      · exact .inr (.inl ⟨a, b, z, c, y⟩)
      · exact absurd (a.symm.trans x) (by decide)
    · rcases hb with ⟨x, y⟩ | ⟨x, y, z⟩ | ⟨x, y⟩
      · exact absurd (a.symm.trans x) (by decide)
      · exact absurd (a.symm.trans x) (by decide)
      · exact .inr (.inr ⟨a, b, c, y⟩)
theorem pos_pTurn {L : List LkD} {t : TnD} (hp : Pos L) (h : tOk L t) : Pos (pTurn L t) := by
  intro x hx
  unfold pTurn at hx
  rcases h.2 with ⟨a, b, c, d⟩ | ⟨a, b, c, d, e⟩ | ⟨a, b, c, d⟩
  · rw [if_pos a] at hx
    rcases (mem_dIns _).1 hx with rfl | hx
    · exact c
    · exact hp x hx
  · rw [if_neg (by omega), if_pos a] at hx
    rcases (mem_dIns _).1 hx with rfl | hx
    · exact e
    · exact hp x (mem_dLess (mem_dLess hx))
  · rw [if_neg (by omega), if_neg (by omega)] at hx
    exact hp x (mem_dLess hx)
theorem asc_pTurn {L : List LkD} {t : TnD} (ha : Asc L) (h : aOk L t) : Asc (pTurn L t) := by
  unfold pTurn
  rcases h with ⟨a, b⟩ | ⟨a, b, c⟩ | ⟨a, b⟩
  · rw [if_pos a]; exact asc_dIns ha b
  · rw [if_neg (by omega), if_pos a]; exact asc_dIns (asc_dLess (asc_dLess ha _) _) (dHas_dLess _ _)
  · rw [if_neg (by omega), if_neg (by omega)]; exact asc_dLess ha _

/-! ### lists of numbers -/
theorem nodup_sub_length : ∀ {l m : List Int}, l.Nodup → (∀ x ∈ l, x ∈ m) → l.length ≤ m.length
  | [], _, _, _ => Nat.zero_le _
  | a :: r, m, h, hs => by
    rw [List.nodup_cons] at h
    have ha : a ∈ m := hs a (by simp)
    have := nodup_sub_length (l := r) (m := m.erase a) h.2 (fun x hx => by
      have hne : x ≠ a := fun e => h.1 (e ▸ hx)
      exact (List.mem_erase_of_ne hne).2 (hs x (by simp [hx])))
    rw [List.length_erase_of_mem ha] at this
    have hpos : 0 < m.length := List.length_pos_of_mem ha
    simp only [List.length_cons]
    omega
theorem nodup_sub_back {l m : List Int} (h : l.Nodup) (hs : ∀ x ∈ l, x ∈ m) (hl : m.length ≤ l.length) : ∀ x ∈ m, x ∈ l := by
  intro x hx
  by_cases hxl : x ∈ l
  · exact hxl
  · have := nodup_sub_length (l := x :: l) (m := m) (List.nodup_cons.2 ⟨hxl, h⟩) (fun y hy => by
      rcases List.mem_cons.1 hy with rfl | hy
      · exact hx
      · exact hs y hy)
    simp only [List.length_cons] at this
    omega
theorem nodup_of_take {l : List Int} (h : ∀ j (hj : j < l.length), l[j] ∉ l.take j) : l.Nodup := by
  unfold List.Nodup
  rw [List.pairwise_iff_getElem]
  intro i j hi hj hij e
  exact h j hj (by rw [← e]; exact List.mem_take_iff_getElem.2 ⟨i, by omega, rfl⟩)
theorem take_of_nodup {l : List Int} (h : l.Nodup) : ∀ j (hj : j < l.length), l[j] ∉ l.take j := by
  intro j hj hm
  obtain ⟨i, hi, e⟩ := List.mem_take_iff_getElem.1 hm
  unfold List.Nodup at h
  rw [List.pairwise_iff_getElem] at h
  exact h i j (by omega) hj (by omega) e

/-! ### when a disk is right -/
def nIds (l : List NodeP) : List Int := l.map (·.1)
def pIds (d : DiskP) : List Int := d.kept.map (·.id) ++ (d.turns.filter (fun t => decide (t.kind = 1))).map (·.id)
def dBase (d : DiskP) : Prop := (0 ≤ d.room ∧ d.room ≤ 60000) ∧ (-1 ≤ d.fuse ∧ d.fuse ≤ 1000) ∧ (1 ≤ d.next ∧ d.next ≤ 1000000) ∧ d.nodes.length ≤ 8 ∧ d.kept.length ≤ 8 ∧ d.turns.length ≤ 40
def nStep (d : DiskP) (i : Nat) : Prop := ∀ h : i < d.nodes.length, 1 ≤ d.nodes[i].1 ∧ d.nodes[i].1 < d.next ∧ (0 < i → (d.nodes[i - 1]'(by omega)).1 < d.nodes[i].1)
def kStep (d : DiskP) (i : Nat) : Prop := ∀ h : i < d.kept.length, pName d.kept[i].name = true ∧ (0 < i → bytesBefore (d.kept[i - 1]'(by omega)).name d.kept[i].name = true)
structure DOk (d : DiskP) : Prop where
  base : dBase d
  node : ∀ i, nStep d i
  link : ∀ i, kStep d i
  pos : Pos d.kept
  len : (pIds d).length = d.nodes.length
  ids : ∀ j (h : j < (pIds d).length), (pIds d)[j] ∉ (pIds d).take j ∧ (pIds d)[j] ∈ nIds d.nodes
  turn : ∀ j (h : j < d.turns.length), tOk (runT d.kept (d.turns.take j)) d.turns[j]
  used : pUsed d.nodes ≤ d.room
structure IOk (d : DiskP) : Prop where
  base : dBase d
  node : ∀ i, nStep d i
  link : ∀ i, kStep d i
  turn0 : ∀ j (h : j < d.turns.length), tOk0 d.turns[j]
  turn : ∀ j (h : j < d.turns.length), aOk (runT d.kept (d.turns.take j)) d.turns[j]
  nodup : (pIds d).Nodup
  len : (pIds d).length = d.nodes.length
  ids : ∀ p ∈ d.nodes, p.1 ∈ pIds d
  used : pUsed d.nodes ≤ d.room
theorem nodes_rise {d : DiskP} (h : ∀ i, nStep d i) : ∀ (j : Nat) (i : Nat) (hi : i < j) (hj : j < d.nodes.length), (d.nodes[i]'(by omega)).1 < d.nodes[j].1 := by
  intro j
  induction j with
  | zero => intro i hi; omega
  | succ j ih =>
    intro i hi hj
    have h1 := (h (j + 1) hj).2.2 (by omega)
    simp only [Nat.add_sub_cancel] at h1
    rcases Nat.lt_or_ge i j with h2 | h2
    · exact Int.lt_trans (ih i h2 (by omega)) h1
    · obtain rfl : i = j := by omega
      exact h1
theorem nIds_nodup {d : DiskP} (h : ∀ i, nStep d i) : (nIds d.nodes).Nodup := by
  unfold List.Nodup nIds
  rw [List.pairwise_iff_getElem]
  intro i j hi hj hij e
  simp only [List.getElem_map] at e
  simp only [List.length_map] at hi hj
  have := nodes_rise h j i hij hj
  omega
theorem kept_asc {d : DiskP} (h : ∀ i, kStep d i) : Asc d.kept := by
  unfold Asc
  rw [List.pairwise_iff_getElem]
  intro i j
  induction j with
  | zero => intro hi hj hij; omega
  | succ j ih =>
    intro hi hj hij
    have h1 := (h (j + 1) hj).2 (by omega)
    simp only [Nat.add_sub_cancel] at h1
    rcases Nat.lt_or_ge i j with h2 | h2
    · exact bb_trans (ih (by omega) (by omega) h2) h1
    · obtain rfl : i = j := by omega
      exact h1
theorem creates_mem {d : DiskP} {t : TnD} (ht : t ∈ d.turns) (h1 : t.kind = 1) : t.id ∈ pIds d := by
  unfold pIds
  rw [List.mem_append]
  right
  exact List.mem_map.2 ⟨t, List.mem_filter.2 ⟨ht, by simp [h1]⟩, rfl⟩
theorem kept_mem {d : DiskP} {x : LkD} (hx : x ∈ d.kept) : x.id ∈ pIds d := by
  unfold pIds
  rw [List.mem_append]
  left
  exact List.mem_map.2 ⟨x, hx, rfl⟩
theorem nIds_pos {d : DiskP} (h : ∀ i, nStep d i) : ∀ x ∈ nIds d.nodes, 1 ≤ x := by
  intro x hx
  obtain ⟨p, hp, rfl⟩ := List.mem_map.1 hx
  obtain ⟨i, hi, rfl⟩ := List.mem_iff_getElem.1 hp
  exact (h i hi).1
theorem dok_iff (d : DiskP) : DOk d ↔ IOk d := by
  constructor
  · intro h
    have hidn : ∀ x ∈ pIds d, x ∈ nIds d.nodes := by
      intro x hx
      obtain ⟨j, hj, rfl⟩ := List.mem_iff_getElem.1 hx
      exact (h.ids j hj).2
    have hnd : (pIds d).Nodup := nodup_of_take (fun j hj => (h.ids j hj).1)
    have hpos : ∀ x ∈ pIds d, 1 ≤ x := fun x hx => nIds_pos h.node x (hidn x hx)
    have hP : ∀ j, j ≤ d.turns.length → Pos (runT d.kept (d.turns.take j)) := by
      intro j
      induction j with
      | zero => intro _; exact fun x hx => h.pos x (by simpa [runT] using hx)
      | succ j ih => intro hj; rw [runT_take (by omega)]; exact pos_pTurn (ih (by omega)) (h.turn j (by omega))
    have hT := fun j (hj : j < d.turns.length) => (tOk_iff (hP j (by omega)) (fun e => hpos _ (creates_mem (List.getElem_mem hj) e))).1 (h.turn j hj)
    refine ⟨h.base, h.node, h.link, fun j hj => (hT j hj).1, fun j hj => (hT j hj).2, hnd, h.len, fun p hp => ?_, h.used⟩
    refine nodup_sub_back hnd hidn (by unfold nIds; rw [List.length_map, h.len]; exact Nat.le_refl _) p.1 (List.mem_map.2 ⟨p, hp, rfl⟩)
  · intro h
    have hnn := nIds_nodup h.node
    have hback : ∀ x ∈ pIds d, x ∈ nIds d.nodes := nodup_sub_back hnn (fun x hx => by
      obtain ⟨p, hp, rfl⟩ := List.mem_map.1 hx
      exact h.ids p hp) (by unfold nIds; rw [List.length_map, h.len]; exact Nat.le_refl _)
    have hpos : ∀ x ∈ pIds d, 1 ≤ x := fun x hx => nIds_pos h.node x (hback x hx)
    have hP : ∀ j, j ≤ d.turns.length → Pos (runT d.kept (d.turns.take j)) ∧ ∀ i (hi : i < j) (hl : i < d.turns.length), tOk (runT d.kept (d.turns.take i)) d.turns[i] := by
      intro j
      induction j with
      | zero => intro _; exact ⟨fun x hx => hpos _ (kept_mem (by simpa [runT] using hx)), fun i hi => absurd hi (by omega)⟩
      | succ j ih =>
        intro hj
        obtain ⟨i1, i2⟩ := ih (by omega)
        have hlt : j < d.turns.length := by omega
        have ht : tOk (runT d.kept (d.turns.take j)) d.turns[j] := (tOk_iff i1 (fun e => hpos _ (creates_mem (List.getElem_mem hlt) e))).2 ⟨h.turn0 j hlt, h.turn j hlt⟩
        refine ⟨by rw [runT_take hlt]; exact pos_pTurn i1 ht, fun i hi hl => ?_⟩
        rcases Nat.lt_or_ge i j with h2 | h2
        · exact i2 i h2 hl
        · obtain rfl : i = j := by omega
          exact ht
    refine ⟨h.base, h.node, h.link, fun x hx => hpos _ (kept_mem hx), h.len, fun j hj => ⟨take_of_nodup h.nodup j hj, hback _ (List.getElem_mem hj)⟩, fun j hj => (hP (j + 1) (by omega)).2 j (by omega) hj, h.used⟩
open Classical in
noncomputable def pDOk (d : DiskP) : Bool := decide (DOk d)
open Classical in
theorem pDOk_yes {d : DiskP} (h : DOk d) : pDOk d = true := by unfold pDOk; exact decide_eq_true h
open Classical in
theorem pDOk_no {d : DiskP} (h : ¬ DOk d) : pDOk d = false := by unfold pDOk; exact decide_eq_false h
open Classical in
theorem pDOk_of {d : DiskP} (h : pDOk d = true) : DOk d := by unfold pDOk at h; exact of_decide_eq_true h
theorem DOk.asc {d : DiskP} (h : DOk d) (k : Nat) (hk : k ≤ d.turns.length) : Asc (runT d.kept (d.turns.take k)) := by
  have h2 := (dok_iff d).1 h
  induction k with
  | zero => simpa [runT] using kept_asc h.link
  | succ k ih => rw [runT_take (by omega)]; exact asc_pTurn (ih (by omega)) (h2.turn k (by omega))
theorem DOk.posT {d : DiskP} (h : DOk d) (k : Nat) (hk : k ≤ d.turns.length) : Pos (runT d.kept (d.turns.take k)) := by
  induction k with
  | zero => exact fun x hx => h.pos x (by simpa [runT] using hx)
  | succ k ih => rw [runT_take (by omega)]; exact pos_pTurn (ih (by omega)) (h.turn k (by omega))
end Go.Proofs.YtggaghghclomkaaGreat
