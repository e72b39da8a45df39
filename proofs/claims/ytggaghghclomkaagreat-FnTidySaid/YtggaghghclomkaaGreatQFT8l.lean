/- Texts of this proof laid together, in the order in which they build; what each proves stands ahead of it. No condition but those told there. -/
import Derived.Test.YtggaghghclomkaaGreatQFT8k

/- Adding and tidying, interrupted anywhere: what is found behind a loss of power. The plain law. No condition. -/
namespace Go.Proofs.YtggaghghclomkaaGreat
open Go.RowKit
theorem DOk.withF {d : DiskP} (h : DOk d) {f : Int} (hf : -1 ≤ f ∧ f ≤ 1000) : DOk (withFuse d f) := by
  have hB := h.base
  unfold dBase at hB
  exact ⟨by unfold dBase; simp only; omega, h.node, h.link, h.pos, h.len, h.ids, h.turn, h.used⟩
theorem step_no {x : DiskP × Int} {o : OpD} (h : x.2 ≠ 0) : stepD x o = x := by unfold stepD; exact if_neg h
theorem step_c {d : DiskP} {c : Int} {o : OpD} (h : c ≠ 0) : stepD (d, c) o = (d, c) := step_no h
theorem step_yes {d : DiskP} {o : OpD} : stepD (d, 0) o = pDo d o := by unfold stepD; exact if_pos rfl
theorem pOp_mk {s : List UInt8} (hs : pName s = true) : pOp (oMk s) = true := by unfold pOp; simp [hs]
theorem pOp_sync {s : List UInt8} (hs : pName s = true) : pOp (oSync s) = true := by unfold pOp; simp [hs]
theorem pOp_rm {s : List UInt8} (hs : pName s = true) : pOp (oRm s) = true := by unfold pOp; simp [hs]
theorem pOp_dir : pOp oDir = true := by unfold pOp; simp
theorem pOp_app {s b : List UInt8} (hs : pName s = true) (hb : b.length ≤ 60000) : pOp (oApp s b) = true := by unfold pOp; simp [hs, hb]
theorem pOp_cut {s : List UInt8} {n : Int} (hs : pName s = true) (hn : 0 ≤ n ∧ n ≤ 60000) : pOp (oCut s n) = true := by unfold pOp; simp [hs]; omega
theorem pOp_ren {s t : List UInt8} (hs : pName s = true) (ht : pName t = true) : pOp (oRen s t) = true := by unfold pOp; simp [hs, ht]
/-! ### adding -/
open Classical in
noncomputable def addD (d : DiskP) (b : List UInt8) (n : Int) : DiskP × Int :=
  let x := pDo d (oApp histT b)
  let y := if x.2 = 0 then pDo x.1 (oSync histT) else if x.2 = 5 then stepD (pDo x.1 (oCut histT n)) (oSync histT) else x
  (y.1, if y.2 = 0 then x.2 else y.2)
open Classical in
noncomputable def pAdd (s : StoreP) (t : List UInt8) : StoreP × Int :=
  if SOk s ∧ 1 ≤ t.length ∧ t.length ≤ 1000 then
    if 1000000000 < pNext s.list then (s, 3)
    else if (addD s.disk (frame (pNext s.list, t)) s.len).2 = 0 then (⟨(addD s.disk (frame (pNext s.list, t)) s.len).1, s.keep, s.size, s.list ++ [(pNext s.list, t)], s.len + (frame (pNext s.list, t)).length⟩, 0)
    else (⟨(addD s.disk (frame (pNext s.list, t)) s.len).1, s.keep, s.size, s.list, s.len⟩, (addD s.disk (frame (pNext s.list, t)) s.len).2)
  else (noSt, 1)
theorem next_ok {l : List Ent} (h : pEntries l = true) {t : List UInt8} (ht : 1 ≤ t.length ∧ t.length ≤ 1000) (hn : ¬ 1000000000 < pNext l) : pEntries (l ++ [(pNext l, t)]) = true := by
  have hc := entries_chain.1 h
  refine entries_snoc h (pEntry_iff.2 ?_) (fun hl => ?_)
  · simp only
    by_cases h0 : l.length = 0
    · rw [pNext_nil h0]; omega
    · have h1 := pEntry_iff.1 (chain_ok hc _ (List.getElem_mem (show l.length - 1 < l.length by omega)))
      rw [pNext_last (by omega), if_neg (by omega)] at hn ⊢
      omega
  · have h1 := pEntry_iff.1 (chain_ok hc _ (List.getElem_mem (show l.length - 1 < l.length by omega)))
    simp only
    rw [pNext_last (by omega), if_neg (by omega)]
theorem frame_room {l : List Ent} (_h : pEntries l = true) {t : List UInt8} (ht : 1 ≤ t.length ∧ t.length ≤ 1000) : (frame (pNext l, t)).length ≤ 60000 := by rw [frame_length]; simp only; omega
/-- What a disk may be behind an interrupted adding. -/
theorem add_disk {d : DiskP} {p : NodeP} {b log : List UInt8} {n : Int} (h : DOk d) (H : Has d histT p) (h1 : p.2.1 = log) (h2 : p.2.2 = log) (hb : b.length ≤ 60000) (hn : n = log.length) :
    DOk (addD d b n).1 ∧ (addD d b n).1.kept = d.kept ∧ (addD d b n).1.turns = d.turns ∧ (addD d b n).1.room = d.room ∧ (d.fuse = -1 → (addD d b n).1.fuse = -1) ∧ ∃ q m, Has (addD d b n).1 histT q ∧ q.2.1 = log ++ b.take m ∧ (q.2.2 = log ∨ q.2.2 = q.2.1) ∧
      (((addD d b n).2 = 0 ∧ b.take m = b ∧ q.2.2 = q.2.1) ∨ ((addD d b n).2 = 5 ∧ b.take m = [] ∧ q.2.2 = q.2.1) ∨ ((addD d b n).2 = 2 ∧ d.fuse ≠ -1)) := by
  have hbl := h.bodyLe H.mem
  have hB := h.base
  unfold dBase at hB
  have hlen : log.length ≤ 60000 := by rw [← h1]; exact hbl.1
  by_cases hf : d.fuse = 0
  · have e : addD d b n = (d, 2) := by
      unfold addD
      simp only [pDo_fuse h (pOp_app hist_name hb) hf]
      rw [if_neg (by decide), if_neg (by decide)]
      simp
    rw [e]
    exact ⟨h, rfl, rfl, rfl, fun h => h, p, 0, H, by simp [h1], .inl h2, .inr (.inr ⟨rfl, by omega⟩)⟩
  obtain ⟨m, hm⟩ : ∃ m, m = (roomN d p b).toNat := ⟨_, rfl⟩
  have hA := pDo_app h hf H hist_name hb
  have hdA := h.app hf H hist_name hb
  have HA := H.put h (p' := (p.1, p.2.1 ++ b.take (roomN d p b).toNat, p.2.2)) rfl
  have hfA : (putN d histT (p.1, p.2.1 ++ b.take (roomN d p b).toNat, p.2.2)).fuse = fuseOf d := rfl
  have hfu := fuseOf_step h hf
  rw [← hm] at hA hdA HA hfA
  obtain ⟨d1, hd1⟩ : ∃ d1, d1 = putN d histT (p.1, p.2.1 ++ b.take m, p.2.2) := ⟨_, rfl⟩
  have hk1 : d1.kept = d.kept ∧ d1.turns = d.turns ∧ d1.room = d.room := by rw [hd1]; exact ⟨rfl, rfl, rfl⟩
  rw [← hd1] at hA hdA HA hfA
  have hbl1 := (hdA.bodyLe HA.mem).1
  simp only at hbl1
  by_cases hr : roomN d p b < b.length
  · rw [if_pos hr] at hA
    by_cases hf1 : d1.fuse = 0
    · have e : addD d b n = (d1, 2) := by
        unfold addD
        simp only [hA]
        rw [if_neg (by decide), if_pos trivial, pDo_fuse hdA (pOp_cut hist_name (by omega)) hf1, step_c (by decide)]
        simp
      rw [e]
      exact ⟨hdA, hk1.1, hk1.2.1, hk1.2.2, fun h => by have := hfu.2 h; omega, _, m, HA, by simp [h1], .inl h2, .inr (.inr ⟨rfl, fun h => by have := hfu.2 h; omega⟩)⟩
    · have hC := pDo_cut hdA hf1 HA hist_name (n := log.length) (by simp only [List.length_append, h1]; omega) hlen
      have hdC := hdA.cut hf1 HA hist_name (n := log.length) (by simp only [List.length_append, h1]; omega) hlen
      have HC := HA.put hdA (p' := (p.1, (p.2.1 ++ b.take m).take log.length, p.2.2)) rfl
      rw [← hn] at hC
      obtain ⟨d2, hd2⟩ : ∃ d2, d2 = putN d1 histT (p.1, (p.2.1 ++ b.take m).take log.length, p.2.2) := ⟨_, rfl⟩
      have hf2e : d2.fuse = fuseOf d1 := by rw [hd2]; rfl
      have hk2 : d2.kept = d.kept ∧ d2.turns = d.turns ∧ d2.room = d.room := by rw [hd2]; exact ⟨hk1.1, hk1.2.1, hk1.2.2⟩
      simp only at hC
      rw [← hd2] at hC hdC HC
      have hlog : (p.2.1 ++ b.take m).take log.length = log := by rw [← h1, List.take_left]
      rw [hlog] at HC
      have hfu1 := fuseOf_step hdA hf1
      by_cases hf2 : d2.fuse = 0
      · have e : addD d b n = (d2, 2) := by
          unfold addD
          simp only [hA]
          rw [if_neg (by decide), if_pos trivial, hC, step_yes, pDo_fuse hdC (pOp_sync hist_name) hf2]
          simp
        rw [e]
        exact ⟨hdC, hk2.1, hk2.2.1, hk2.2.2, fun h => by have := hfu.2 h; have := hfu1.2 (by omega); omega, _, 0, HC, by simp, .inl h2, .inr (.inr ⟨rfl, fun h => by have := hfu.2 h; have := hfu1.2 (by omega); omega⟩)⟩
      · have hS := pDo_sync hdC hf2 HC hist_name
        have hdS := hdC.sync hf2 HC hist_name
        have HS := HC.put hdC (p' := (p.1, log, log)) rfl
        have e : addD d b n = (putN d2 histT (p.1, log, log), 5) := by
          unfold addD
          simp only [hA]
          rw [if_neg (by decide), if_pos trivial, hC, step_yes, hS]
          simp
        rw [e]
        have hfu2 := fuseOf_step hdC hf2
        exact ⟨hdS, hk2.1, hk2.2.1, hk2.2.2, fun h => by have := hfu.2 h; have := hfu1.2 (by omega); exact hfu2.2 (by omega), _, 0, HS, by simp, .inr rfl, .inr (.inl ⟨rfl, by simp, rfl⟩)⟩
  · rw [if_neg hr] at hA
    have hall : b.take m = b := List.take_of_length_le (by omega)
    by_cases hf1 : d1.fuse = 0
    · have e : addD d b n = (d1, 2) := by
        unfold addD
        simp only [hA]
        rw [if_pos trivial, pDo_fuse hdA (pOp_sync hist_name) hf1]
        simp
      rw [e]
      exact ⟨hdA, hk1.1, hk1.2.1, hk1.2.2, fun h => by have := hfu.2 h; omega, _, m, HA, by simp [h1], .inl h2, .inr (.inr ⟨rfl, fun h => by have := hfu.2 h; omega⟩)⟩
    · have hS := pDo_sync hdA hf1 HA hist_name
      have hdS := hdA.sync hf1 HA hist_name
      have HS := HA.put hdA (p' := (p.1, p.2.1 ++ b.take m, p.2.1 ++ b.take m)) rfl
      have e : addD d b n = (putN d1 histT (p.1, p.2.1 ++ b.take m, p.2.1 ++ b.take m), 0) := by
        unfold addD
        simp only [hA]
        rw [if_pos trivial, hS]
        simp
      rw [e]
      have hfu1 := fuseOf_step hdA hf1
      exact ⟨hdS, hk1.1, hk1.2.1, hk1.2.2, fun h => by have := hfu.2 h; exact hfu1.2 (by omega), _, m, HS, by simp [h1], .inr rfl, .inl ⟨rfl, hall, rfl⟩⟩
theorem frames_snoc (l : List Ent) (e : Ent) : (l ++ [e]).flatMap frame = l.flatMap frame ++ frame e := by rw [List.flatMap_append, List.flatMap_cons, List.flatMap_nil, List.append_nil]
theorem pDir_same {d e : DiskP} (h1 : e.kept = d.kept) (h2 : e.turns = d.turns) : pDir e = pDir d := by unfold pDir; rw [h1, h2]
/-- With power, a store that took an entry, or had no room for it, is whole. -/
theorem add_live {s : StoreP} {t : List UInt8} (h : Live s) (ht : 1 ≤ t.length ∧ t.length ≤ 1000) : Live (pAdd s t).1 ∧ (pAdd s t).1.keep = s.keep ∧ (pAdd s t).1.size = s.size ∧ (((pAdd s t).2 = 0 ∧ (pAdd s t).1.list = s.list ++ [(pNext s.list, t)]) ∨ ((pAdd s t).2 ≠ 0 ∧ (pAdd s t).1.list = s.list)) := by
  have hu : pAdd s t = if 1000000000 < pNext s.list then (s, 3)
    else if (addD s.disk (frame (pNext s.list, t)) s.len).2 = 0 then (⟨(addD s.disk (frame (pNext s.list, t)) s.len).1, s.keep, s.size, s.list ++ [(pNext s.list, t)], s.len + (frame (pNext s.list, t)).length⟩, 0)
    else (⟨(addD s.disk (frame (pNext s.list, t)) s.len).1, s.keep, s.size, s.list, s.len⟩, (addD s.disk (frame (pNext s.list, t)) s.len).2) := by unfold pAdd; rw [if_pos ⟨h.ok, ht⟩]
  rw [hu]
  by_cases hn : 1000000000 < pNext s.list
  · rw [if_pos hn]
    exact ⟨h, rfl, rfl, .inr ⟨by simp, rfl⟩⟩
  rw [if_neg hn]
  obtain ⟨p, H, h1, h2⟩ := h.hist
  have hl := h.ok.list
  have hnx := next_ok hl ht hn
  obtain ⟨a1, a2, a3, a4, a5, q, m, Hq, q1, _, q3⟩ := add_disk h.ok.disk H h1 (h2.trans h1) (frame_room hl ht) h.len
  have hfu := a5 h.fuse
  have htm : dHas (pDir (addD s.disk (frame (pNext s.list, t)) s.len).1) tempT = false := by rw [pDir_same a2 a3]; exact h.temp
  rcases q3 with ⟨c, e1, e2⟩ | ⟨c, e1, e2⟩ | ⟨_, hx⟩
  · rw [if_pos c]
    refine ⟨live_of a1 h.ok.range hnx hfu (a3.trans h.turns) Hq (by rw [q1, e1, frames_snoc]) e2 ?_ htm, rfl, rfl, .inl ⟨rfl, rfl⟩⟩
    rw [h.len, frames_snoc, List.length_append]; omega
  · rw [if_neg (by rw [c]; decide)]
    exact ⟨live_of a1 h.ok.range hl hfu (a3.trans h.turns) Hq (by rw [q1, e1, List.append_nil]) e2 h.len htm, rfl, rfl, .inr ⟨by rw [c]; simp, rfl⟩⟩
  · exact absurd h.fuse hx
theorem crash_clean {d : DiskP} {p : NodeP} {s : List UInt8} (h : DOk d) (ht : d.turns = []) (H : Has d s p) (tn : Int) (cuts : List Int) : ∃ i, Has (crashD d tn cuts) s (crashP cuts i p) := by
  have hk : runT d.kept (d.turns.take (tnN d tn)) = pDir d := by unfold pDir; rw [ht, List.take_nil]
  exact HasL.crash h (tn := tn) (cuts := cuts) (s := s) (p := p) (by rw [hk]; exact H)
/-! ### tidying -/
open Classical in
noncomputable def tidyD (d : DiskP) (b : List UInt8) : DiskP × Int :=
  let x := stepD (stepD (pDo d oDir) (oMk tempT)) (oApp tempT b)
  if x.2 = 5 then ((stepD (pDo x.1 (oRm tempT)) oDir).1, if (stepD (pDo x.1 (oRm tempT)) oDir).2 = 0 then 5 else (stepD (pDo x.1 (oRm tempT)) oDir).2)
  else stepD (stepD (stepD x (oSync tempT)) (oRen tempT histT)) oDir
open Classical in
noncomputable def pTidy (s : StoreP) : StoreP × Int :=
  if SOk s then
    if s.len ≤ s.size ∨ (s.list.length : Int) ≤ s.keep then (s, 0)
    else if (tidyD s.disk (pLog (pLast s.list s.keep)).1).2 = 0 then (⟨(tidyD s.disk (pLog (pLast s.list s.keep)).1).1, s.keep, s.size, pLast s.list s.keep, ((pLog (pLast s.list s.keep)).1.length : Int)⟩, 0)
    else (⟨(tidyD s.disk (pLog (pLast s.list s.keep)).1).1, s.keep, s.size, s.list, s.len⟩, (tidyD s.disk (pLog (pLast s.list s.keep)).1).2)
  else (noSt, 1)
/-- Whichever turns are safe, the history's file is one of those that P tells. -/
def At (d : DiskP) (P : NodeP → Prop) : Prop := ∀ m, m ≤ d.turns.length → ∃ p, HasL (runT d.kept (d.turns.take m)) d.nodes histT p ∧ P p
section
variable {d : DiskP} {P : NodeP → Prop} {p q p' : NodeP}
theorem At.mono {Q : NodeP → Prop} (h : At d P) (hq : ∀ p, P p → Q p) : At d Q := fun m hm => by obtain ⟨p, H, hp⟩ := h m hm; exact ⟨p, H, hq p hp⟩
theorem At.last (h : At d P) : ∃ p, Has d histT p ∧ P p := by
  obtain ⟨p, H, hp⟩ := h d.turns.length (Nat.le_refl _)
  rw [List.take_length] at H
  exact ⟨p, H, hp⟩
theorem At.dir (h : At d P) : At (dirD d) P := by
  obtain ⟨p, H, hp⟩ := h.last
  intro m hm
  have : (dirD d).turns = [] := rfl
  rw [this, List.take_nil]
  exact ⟨p, H.dir, hp⟩
theorem At.new (hd : DOk d) (hn : dHas (pDir d) tempT = false) (h : At d P) : At (newD d tempT) P := by
  intro m hm
  by_cases e : m ≤ d.turns.length
  · obtain ⟨p, H, hp⟩ := h m e
    refine ⟨p, ⟨?_, List.mem_append.2 (.inl H.mem), ?_⟩, hp⟩
    · show dHas (runT d.kept ((d.turns ++ [_]).take m)) histT = true
      rw [List.take_append_of_le_length e]; exact H.there
    · show p.1 = dFind (runT d.kept ((d.turns ++ [_]).take m)) histT
      rw [List.take_append_of_le_length e]; exact H.id
  · obtain ⟨p, H, hp⟩ := h.last
    have hm' : (newD d tempT).turns.length = d.turns.length + 1 := by unfold newD; simp
    have : m = (newD d tempT).turns.length := by omega
    rw [this, List.take_length]
    exact ⟨p, H.newOld hd hn, hp⟩
theorem At.put (hd : DOk d) (H : Has d tempT q) (h : At d P) (hne : ∀ p, P p → p.1 ≠ q.1) : At (putN d tempT p') P := by
  intro m hm
  obtain ⟨p, K, hp⟩ := h m hm
  exact ⟨p, H.put_other hd K (hne p hp), hp⟩
theorem At.turn {t : TnD} (h : At d P) (hl : ∃ p, Has (turnD d t) histT p ∧ P p) : At (turnD d t) P := by
  intro m hm
  by_cases e : m ≤ d.turns.length
  · obtain ⟨p, H, hp⟩ := h m e
    refine ⟨p, ⟨?_, H.mem, ?_⟩, hp⟩
    · show dHas (runT d.kept ((d.turns ++ [_]).take m)) histT = true
      rw [List.take_append_of_le_length e]; exact H.there
    · show p.1 = dFind (runT d.kept ((d.turns ++ [_]).take m)) histT
      rw [List.take_append_of_le_length e]; exact H.id
  · have hm' : (turnD d t).turns.length = d.turns.length + 1 := by unfold turnD; simp
    have : m = (turnD d t).turns.length := by omega
    rw [this, List.take_length]
    exact hl
end
theorem tidy_disk {d : DiskP} {p0 : NodeP} {b : List UInt8} (h : DOk d) (ht : d.turns = []) (H0 : Has d histT p0) (hT : dHas (pDir d) tempT = false) (hb : b.length ≤ 60000) :
    DOk (tidyD d b).1 ∧ (((tidyD d b).2 ≠ 0 ∧ (tidyD d b).2 ≠ 1 ∧ At (tidyD d b).1 (fun p => p = p0 ∨ p.2.1 = b ∧ p.2.2 = b)) ∨ ((tidyD d b).2 = 0 ∧ At (tidyD d b).1 (fun p => p.2.1 = b ∧ p.2.2 = b))) := by
  have A0 : At d (fun p => p = p0) := fun m hm => by
    rw [ht, List.take_nil]
    refine ⟨p0, ?_, rfl⟩
    have : pDir d = runT d.kept [] := by unfold pDir; rw [ht]
    rw [← this]; exact H0
  have old : ∀ {e : DiskP} {c : Int}, DOk e → At e (fun p => p = p0) → c ≠ 0 → c ≠ 1 → tidyD d b = (e, c) → DOk (tidyD d b).1 ∧ (((tidyD d b).2 ≠ 0 ∧ (tidyD d b).2 ≠ 1 ∧ At (tidyD d b).1 (fun p => p = p0 ∨ p.2.1 = b ∧ p.2.2 = b)) ∨ ((tidyD d b).2 = 0 ∧ At (tidyD d b).1 (fun p => p.2.1 = b ∧ p.2.2 = b))) := by
    intro e c he ha hc hc1 e1
    rw [e1]
    exact ⟨he, .inl ⟨hc, hc1, ha.mono (fun p h => .inl h)⟩⟩
  have dead : ∀ {x : DiskP × Int}, x.2 ≠ 0 → x.2 ≠ 5 → stepD (stepD (pDo d oDir) (oMk tempT)) (oApp tempT b) = x → tidyD d b = x := by
    intro x hx hx5 e
    unfold tidyD
    simp only [e]
    rw [if_neg hx5, step_no hx, step_no hx, step_no hx]
  by_cases hf0 : d.fuse = 0
  · refine old (e := d) (c := 2) h A0 (by simp) (by simp) (dead (x := (d, 2)) (by simp) (by simp) ?_)
    rw [pDo_fuse h pOp_dir hf0, step_c (d := d) (by decide), step_c (d := d) (by decide)]
  have e1 := pDo_dir h hf0
  have h1 := h.dirOk hf0
  have A1 := A0.dir
  have hT1 : dHas (pDir (dirD d)) tempT = false := hT
  obtain ⟨p1, H1, rfl⟩ := A1.last
  have ht1 : (dirD d).turns = [] := rfl
  obtain ⟨d1, hd1⟩ : ∃ d1, d1 = dirD d := ⟨_, rfl⟩
  rw [← hd1] at e1 h1 A1 hT1 H1 ht1
  clear hd1
  by_cases hf1 : d1.fuse = 0
  · refine old (e := d1) (c := 2) h1 A1 (by simp) (by simp) (dead (x := (d1, 2)) (by simp) (by simp) ?_)
    rw [e1, step_yes, pDo_fuse h1 (pOp_mk temp_name) hf1, step_c (by decide)]
  rcases pDo_mk h1 hf1 hT1 temp_name (by rw [ht1]; simp) with ⟨_, e2⟩ | ⟨hx, e2⟩
  · refine old (e := d1) (c := 4) h1 A1 (by simp) (by simp) (dead (x := (d1, 4)) (by simp) (by simp) ?_)
    rw [e1, step_yes, e2, step_c (by decide)]
  have h2 := h1.newD hf1 hT1 temp_name (by rw [ht1]; simp) hx
  have A2 := A1.new h1 hT1
  have K2 : Has (newD d1 tempT) tempT (d1.next, [], []) := Has.newNew h1 hT1
  have hlt : p1.1 ≠ d1.next := by have := ((nall_iff d1).1 h1.node).1 p1 H1.mem; omega
  have ht2 : (newD d1 tempT).turns.length = 1 := by unfold newD; rw [ht1]; rfl
  obtain ⟨d2, hd2⟩ : ∃ d2, d2 = newD d1 tempT := ⟨_, rfl⟩
  rw [← hd2] at e2 h2 A2 K2 ht2
  clear hd2
  by_cases hf2 : d2.fuse = 0
  · refine old (e := d2) (c := 2) h2 A2 (by simp) (by simp) (dead (x := (d2, 2)) (by simp) (by simp) ?_)
    rw [e1, step_yes, e2, step_yes, pDo_fuse h2 (pOp_app temp_name hb) hf2]
  have e3 := pDo_app h2 hf2 K2 temp_name hb
  have h3 := h2.app hf2 K2 temp_name hb
  have K3 := K2.put h2 (p' := (d1.next, [] ++ b.take (roomN d2 (d1.next, [], []) b).toNat, [])) rfl
  have A3 := A2.put (p' := (d1.next, [] ++ b.take (roomN d2 (d1.next, [], []) b).toNat, [])) h2 K2 (fun p hp => by subst hp; exact hlt)
  have ht3 : (putN d2 tempT (d1.next, [] ++ b.take (roomN d2 (d1.next, [], []) b).toNat, [])).turns.length = 1 := ht2
  simp only [List.nil_append] at e3 h3 K3 A3 ht3
  obtain ⟨m, hm⟩ : ∃ m, m = (roomN d2 (d1.next, [], []) b).toNat := ⟨_, rfl⟩
  rw [← hm] at e3 h3 K3 A3 ht3
  obtain ⟨d3, hd3⟩ : ∃ d3, d3 = putN d2 tempT (d1.next, b.take m, []) := ⟨_, rfl⟩
  rw [← hd3] at e3 h3 K3 A3 ht3
  clear hd3
  by_cases hr : roomN d2 (d1.next, [], []) b < b.length
  · rw [if_pos hr] at e3
    have hx : stepD (stepD (pDo d oDir) (oMk tempT)) (oApp tempT b) = (d3, 5) := by rw [e1, step_yes, e2, step_yes, e3]
    have hT5 : tidyD d b = ((stepD (pDo d3 (oRm tempT)) oDir).1, if (stepD (pDo d3 (oRm tempT)) oDir).2 = 0 then 5 else (stepD (pDo d3 (oRm tempT)) oDir).2) := by
      unfold tidyD; simp only [hx]; rw [if_pos trivial]
    by_cases hf3 : d3.fuse = 0
    · rw [pDo_fuse h3 (pOp_rm temp_name) hf3, step_c (by decide)] at hT5
      exact old h3 A3 (by simp) (by simp) hT5
    have e4 := pDo_rm h3 hf3 K3 temp_name (by omega)
    have h4 := h3.rmD hf3 K3 temp_name (by omega)
    have A4 : At (turnD d3 ⟨6, tempT, [], 0⟩) (fun p => p = p1) := A3.turn (by obtain ⟨p, H, hp⟩ := A3.last; exact ⟨p, H.rm h3 hist_temp, hp⟩)
    obtain ⟨d4, hd4⟩ : ∃ d4, d4 = turnD d3 ⟨6, tempT, [], 0⟩ := ⟨_, rfl⟩
    rw [← hd4] at e4 h4 A4
    clear hd4
    by_cases hf4 : d4.fuse = 0
    · rw [e4, step_yes, pDo_fuse h4 pOp_dir hf4] at hT5
      exact old h4 A4 (by simp) (by simp) hT5
    · rw [e4, step_yes, pDo_dir h4 hf4] at hT5
      exact old (h4.dirOk hf4) A4.dir (by simp) (by simp) hT5
  · rw [if_neg hr] at e3
    have hall : b.take m = b := List.take_of_length_le (by omega)
    rw [hall] at K3
    have hx : stepD (stepD (pDo d oDir) (oMk tempT)) (oApp tempT b) = (d3, 0) := by rw [e1, step_yes, e2, step_yes, e3]
    have hT0 : tidyD d b = stepD (stepD (pDo d3 (oSync tempT)) (oRen tempT histT)) oDir := by
      unfold tidyD; simp only [hx]; rw [if_neg (by simp), step_yes]
    by_cases hf3 : d3.fuse = 0
    · rw [pDo_fuse h3 (pOp_sync temp_name) hf3, step_c (d := d3) (by decide), step_c (d := d3) (by decide)] at hT0
      exact old h3 A3 (by simp) (by simp) hT0
    have e4 := pDo_sync h3 hf3 K3 temp_name
    have h4 := h3.sync hf3 K3 temp_name
    have K4 := K3.put h3 (p' := (d1.next, b, b)) rfl
    have A4 := A3.put (p' := (d1.next, b, b)) h3 K3 (fun p hp => by subst hp; exact hlt)
    have ht4 : (putN d3 tempT (d1.next, b, b)).turns.length = 1 := ht3
    simp only at e4 h4
    obtain ⟨d4, hd4⟩ : ∃ d4, d4 = putN d3 tempT (d1.next, b, b) := ⟨_, rfl⟩
    rw [← hd4] at e4 h4 K4 A4 ht4
    clear hd4
    by_cases hf4 : d4.fuse = 0
    · rw [e4, step_yes, pDo_fuse h4 (pOp_ren temp_name hist_name) hf4, step_c (by decide)] at hT0
      exact old h4 A4 (by simp) (by simp) hT0
    have e5 := pDo_ren h4 hf4 K4 temp_name hist_name hist_temp (by omega)
    have h5 := h4.renD hf4 K4 temp_name hist_name hist_temp (by omega)
    have K5 : Has (turnD d4 ⟨5, tempT, histT, 0⟩) histT (d1.next, b, b) := K4.ren h4
    have A5 : At (turnD d4 ⟨5, tempT, histT, 0⟩) (fun p => p = p1 ∨ p.2.1 = b ∧ p.2.2 = b) := (A4.mono (fun p h => .inl h)).turn ⟨_, K5, .inr ⟨rfl, rfl⟩⟩
    obtain ⟨d5, hd5⟩ : ∃ d5, d5 = turnD d4 ⟨5, tempT, histT, 0⟩ := ⟨_, rfl⟩
    rw [← hd5] at e5 h5 K5 A5
    clear hd5
    by_cases hf5 : d5.fuse = 0
    · rw [e4, step_yes, e5, step_yes, pDo_fuse h5 pOp_dir hf5] at hT0
      rw [hT0]
      exact ⟨h5, .inl ⟨by simp, by simp, A5⟩⟩
    · rw [e4, step_yes, e5, step_yes, pDo_dir h5 hf5] at hT0
      rw [hT0]
      refine ⟨h5.dirOk hf5, .inr ⟨rfl, fun m hm => ?_⟩⟩
      have : (dirD d5).turns = [] := rfl
      rw [this, List.take_nil]
      exact ⟨_, K5.dir, rfl, rfl⟩
theorem last_frames (l : List Ent) (n : Int) : ((pLast l n).flatMap frame).length ≤ (l.flatMap frame).length := by
  unfold pLast
  conv => rhs; rw [← List.take_append_drop (l.length - min n.toNat l.length) l]
  rw [List.flatMap_append, List.length_append]; omega
/-- Whatever power there was for tidying. -/
theorem tidy_cut {s : StoreP} (h : Live s) {f : Int} (hf : -1 ≤ f ∧ f ≤ 1000) {s' : StoreP} (hs : s' = { s with disk := withFuse s.disk f }) (tn : Int) (cuts : List Int) :
    DOk (pTidy s').1.disk ∧ (pTidy s').2 ≠ 1 ∧ DOk (crashD (pTidy s').1.disk tn cuts) ∧ dHas (pDir (crashD (pTidy s').1.disk tn cuts)) histT = true ∧ pEntries (pTidy s').1.list = true ∧
      ((pTidy s').2 = 0 → (pScan (pRead (crashD (pTidy s').1.disk tn cuts) histT).1).1 = (pTidy s').1.list) ∧
      ((pScan (pRead (crashD (pTidy s').1.disk tn cuts) histT).1).1 = s.list ∨ (pScan (pRead (crashD (pTidy s').1.disk tn cuts) histT).1).1 = pLast s.list s.keep ∧ s.size < s.len) := by
  obtain ⟨p, H, h1, h2⟩ := h.hist
  have hl := h.ok.list
  have hd' : DOk (withFuse s.disk f) := h.ok.disk.withF hf
  have H' : Has (withFuse s.disk f) histT p := H
  have hb := h.ok.disk.bodyLe H.mem
  have hlog : pLog s.list = (s.list.flatMap frame, true) := by unfold pLog; rw [if_pos ⟨hl, by rw [← h1]; omega⟩]
  have hok : SOk s' := by
    subst hs
    refine ⟨hd', h.ok.range, hl, .inr ⟨?_, ?_, ?_, ?_, ?_⟩⟩
    · simp only; rw [H'.read hd']
    · simp only; rw [hlog]
    · simp only; rw [H'.read hd', hlog]; exact h1
    · simp only; rw [hlog]; exact h.len
    · simp only; rw [read_none (d := withFuse s.disk f) h.temp]
  have hll := entries_last hl s.keep
  have hlb := last_frames s.list s.keep
  have hlogL : pLog (pLast s.list s.keep) = ((pLast s.list s.keep).flatMap frame, true) := by unfold pLog; rw [if_pos ⟨hll, by rw [h1] at hb; omega⟩]
  have hdk : s'.disk = withFuse s.disk f := by rw [hs]
  have hli : s'.list = s.list := by rw [hs]
  have hle : s'.len = s.len := by rw [hs]
  have hsz : s'.size = s.size := by rw [hs]
  have hkp : s'.keep = s.keep := by rw [hs]
  obtain ⟨A, hA⟩ : ∃ A, A = tidyD (withFuse s.disk f) ((pLast s.list s.keep).flatMap frame) := ⟨_, rfl⟩
  have hu : pTidy s' = if s.len ≤ s.size ∨ (s.list.length : Int) ≤ s.keep then (s', 0)
    else if A.2 = 0 then (⟨A.1, s.keep, s.size, pLast s.list s.keep, (((pLast s.list s.keep).flatMap frame).length : Int)⟩, 0)
    else (⟨A.1, s.keep, s.size, s.list, s.len⟩, A.2) := by
    unfold pTidy
    rw [if_pos hok, hdk, hli, hle, hsz, hkp, hlogL]
    simp only [← hA]
  by_cases hn : s.len ≤ s.size ∨ (s.list.length : Int) ≤ s.keep
  · rw [if_pos hn] at hu
    rw [hu]
    simp only [hdk, hli]
    obtain ⟨i, K⟩ := crash_clean hd' h.turns H' tn cuts
    have hc := hd'.crash tn cuts
    have hx : (pScan (pRead (crashD (withFuse s.disk f) tn cuts) histT).1).1 = s.list := by
      rw [K.read hc]
      unfold crashP
      simp only
      rw [h2, tear_self, h1, scan_whole hl]
    exact ⟨hd', by decide, hc, K.there, hl, fun _ => hx, .inl hx⟩
  rw [if_neg hn] at hu
  obtain ⟨a1, a2⟩ := tidy_disk hd' h.turns H' (show dHas (pDir (withFuse s.disk f)) tempT = false from h.temp) (b := (pLast s.list s.keep).flatMap frame) (by rw [h1] at hb; omega)
  rw [← hA] at a1 a2
  have hdisk : (pTidy s').1.disk = A.1 := by rw [hu]; split <;> rfl
  have hcode : (pTidy s').2 = A.2 := by
    rw [hu]
    split
    · rename_i hz; exact hz.symm
    · rfl
  have hc := a1.crash tn cuts
  have fin : ∀ P : NodeP → Prop, At A.1 P → ∃ q i, P q ∧ Has (crashD A.1 tn cuts) histT (crashP cuts i q) := fun P hP => by
    obtain ⟨q, K, hq⟩ := hP (tnN A.1 tn) (tnN_le A.1 tn)
    obtain ⟨i, K'⟩ := HasL.crash a1 K
    exact ⟨q, i, hq, K'⟩
  rw [hdisk, hcode]
  rcases a2 with ⟨c0, c1, hP⟩ | ⟨c0, hP⟩
  · obtain ⟨q, i, hq, K⟩ := fin _ hP
    have hlist : (pTidy s').1.list = s.list := by rw [hu, if_neg c0]
    refine ⟨a1, c1, hc, K.there, by rw [hlist]; exact hl, fun e => absurd e c0, ?_⟩
    rw [K.read hc]
    unfold crashP
    simp only
    rcases hq with rfl | ⟨q1, q2⟩
    · left; rw [h2, tear_self, h1, scan_whole hl]
    · right; rw [q1, q2, tear_self, scan_whole hll]; exact ⟨rfl, by omega⟩
  · obtain ⟨q, i, ⟨q1, q2⟩, K⟩ := fin _ hP
    have hlist : (pTidy s').1.list = pLast s.list s.keep := by rw [hu, if_pos c0]
    have hx : (pScan (pRead (crashD A.1 tn cuts) histT).1).1 = pLast s.list s.keep := by
      rw [K.read hc]
      unfold crashP
      simp only
      rw [q1, q2, tear_self, scan_whole hll]
    exact ⟨a1, by rw [c0]; decide, hc, K.there, by rw [hlist]; exact hll, fun _ => by rw [hlist]; exact hx, .inr ⟨hx, by omega⟩⟩
end Go.Proofs.YtggaghghclomkaaGreat

/- Adding and tidying, step by step: codes and bounds. The plain law. No condition. -/
namespace Go.Proofs.YtggaghghclomkaaGreat
open Go.RowKit
theorem next_entry {l : List Ent} (h : pEntries l = true) {t : List UInt8} (ht : 1 ≤ t.length ∧ t.length ≤ 1000) (hn : ¬ 1000000000 < pNext l) : pEntry (pNext l) t = true :=
  chain_ok (entries_chain.1 (next_ok h ht hn)) (pNext l, t) (by simp)
theorem next_none {l : List Ent} {t : List UInt8} (hn : 1000000000 < pNext l) : pEntry (pNext l) t = false := by
  cases h : pEntry (pNext l) t with
  | false => rfl
  | true => have := (pEntry_iff (e := (pNext l, t))).1 h; simp only at this; omega
theorem SOk.lenB {s : StoreP} (h : SOk s) (hf : s.disk.fuse ≠ 0) : 0 ≤ s.len ∧ s.len ≤ 65536 := by
  rcases h.tail with h0 | ht
  · exact absurd h0 hf
  · have h1 := ht.2.2.2.1
    have h2 := pLog_len s.list
    omega
theorem SOk.lenA {s : StoreP} (h : SOk s) {b : List UInt8} (hb : b.length ≤ 60000) (hc : (pDo s.disk (oApp histT b)).2 ≠ 2) : 0 ≤ s.len ∧ s.len ≤ 65536 :=
  h.lenB (fun hf => hc (by rw [pDo_fuse h.disk (pOp_app hist_name hb) hf]))
theorem fits_cut {n : Int} (h : 0 ≤ n ∧ n ≤ 65536) : (oCut histT n).fits := ⟨⟨by simp, by simp⟩, ⟨by simp only; omega, by simp only; omega⟩, by simp [histT], by simp⟩
theorem fits_app {s b : List UInt8} (h : s.length ≤ 100) : (oApp s b).fits := ⟨⟨by simp, by simp⟩, ⟨by simp, by simp⟩, by simp only; omega, by simp⟩
theorem code5 {d : DiskP} {o : OpD} (h : o.kind ≠ 2) : (pDo d o).2 ≠ 5 := by
  unfold pDo
  split
  · split
    · unfold doC; rw [if_neg (fun q => h q.1)]; exact fun h => nomatch h
    · unfold pCode; simp only; (repeat' split) <;> decide
  · decide
theorem pAdd_big {s : StoreP} {t : List UInt8} (h : SOk s) (ht : 1 ≤ t.length ∧ t.length ≤ 1000) (hn : 1000000000 < pNext s.list) : pAdd s t = (s, 3) := by unfold pAdd; rw [if_pos ⟨h, ht⟩, if_pos hn]
open Classical in
noncomputable def addY (x : DiskP × Int) (n : Int) : DiskP × Int := if x.2 = 0 then pDo x.1 (oSync histT) else if x.2 = 5 then stepD (pDo x.1 (oCut histT n)) (oSync histT) else x
theorem addY_0 {x : DiskP × Int} {n : Int} (h : x.2 = 0) : addY x n = pDo x.1 (oSync histT) := by unfold addY; rw [if_pos h]
theorem addY_5 {x : DiskP × Int} {n : Int} (h : x.2 = 5) : addY x n = stepD (pDo x.1 (oCut histT n)) (oSync histT) := by unfold addY; rw [if_neg (by omega), if_pos h]
theorem addY_n {x : DiskP × Int} {n : Int} (h : ¬ x.2 = 0) (h5 : ¬ x.2 = 5) : addY x n = x := by unfold addY; rw [if_neg h, if_neg h5]
theorem pAdd_is {s : StoreP} {t b : List UInt8} {x y : DiskP × Int} (h : SOk s) (ht : 1 ≤ t.length ∧ t.length ≤ 1000) (hn : ¬ 1000000000 < pNext s.list) (hb : b = frame (pNext s.list, t)) (hx : x = pDo s.disk (oApp histT b)) (hy : y = addY x s.len) :
    (y.2 ≠ 0 → pAdd s t = (⟨y.1, s.keep, s.size, s.list, s.len⟩, y.2)) ∧ (y.2 = 0 → x.2 ≠ 0 → pAdd s t = (⟨y.1, s.keep, s.size, s.list, s.len⟩, x.2)) ∧ (y.2 = 0 → x.2 = 0 → pAdd s t = (⟨y.1, s.keep, s.size, s.list ++ [(pNext s.list, t)], s.len + b.length⟩, 0)) := by
  have hA : addD s.disk b s.len = (y.1, if y.2 = 0 then x.2 else y.2) := by subst hx hy; rfl
  have hP : pAdd s t = if (addD s.disk b s.len).2 = 0 then (⟨(addD s.disk b s.len).1, s.keep, s.size, s.list ++ [(pNext s.list, t)], s.len + b.length⟩, 0) else (⟨(addD s.disk b s.len).1, s.keep, s.size, s.list, s.len⟩, (addD s.disk b s.len).2) := by
    unfold pAdd; rw [if_pos ⟨h, ht⟩, if_neg hn, ← hb]
  rw [hP, hA]
  refine ⟨fun h1 => ?_, fun h1 h2 => ?_, fun h1 h2 => ?_⟩
  · simp only [if_neg h1]
  · simp only [if_pos h1, if_neg h2]
  · simp only [if_pos h1, if_pos h2]
theorem pTidy_same {s : StoreP} (h : SOk s) (hn : s.len ≤ s.size ∨ (s.list.length : Int) ≤ s.keep) : pTidy s = (s, 0) := by unfold pTidy; rw [if_pos h, if_pos hn]
theorem pTidy_is {s : StoreP} {b : List UInt8} {x : DiskP × Int} (h : SOk s) (hn : ¬ (s.len ≤ s.size ∨ (s.list.length : Int) ≤ s.keep)) (hb : b = (pLog (pLast s.list s.keep)).1) (hx : x = stepD (stepD (pDo s.disk oDir) (oMk tempT)) (oApp tempT b)) :
    (x.2 = 5 → ∀ y, y = stepD (pDo x.1 (oRm tempT)) oDir → pTidy s = (⟨y.1, s.keep, s.size, s.list, s.len⟩, if y.2 = 0 then 5 else y.2)) ∧
    (x.2 ≠ 5 → ∀ y, y = stepD (stepD (stepD x (oSync tempT)) (oRen tempT histT)) oDir → (y.2 = 0 → pTidy s = (⟨y.1, s.keep, s.size, pLast s.list s.keep, b.length⟩, 0)) ∧ (y.2 ≠ 0 → pTidy s = (⟨y.1, s.keep, s.size, s.list, s.len⟩, y.2))) := by
  have hP : pTidy s = if (tidyD s.disk b).2 = 0 then (⟨(tidyD s.disk b).1, s.keep, s.size, pLast s.list s.keep, (b.length : Int)⟩, 0) else (⟨(tidyD s.disk b).1, s.keep, s.size, s.list, s.len⟩, (tidyD s.disk b).2) := by
    unfold pTidy; rw [if_pos h, if_neg hn, ← hb]
  refine ⟨fun h5 y hy => ?_, fun h5 y hy => ?_⟩
  · have hT : tidyD s.disk b = (y.1, if y.2 = 0 then 5 else y.2) := by unfold tidyD; simp only [← hx]; rw [if_pos h5, hy]
    rw [hP, hT]
    by_cases h0 : y.2 = 0
    · simp only [if_pos h0]; rw [if_neg (by decide)]
    · simp only [if_neg h0]
  · have hT : tidyD s.disk b = y := by unfold tidyD; simp only [← hx]; rw [if_neg h5, hy]
    rw [hP, hT]
    exact ⟨fun h0 => by rw [if_pos h0], fun h0 => by rw [if_neg h0]⟩
end Go.Proofs.YtggaghghclomkaaGreat

/- Contracts: copies of a store; an appending operation on a store's disk. No condition but sizes. -/
namespace Go.Proofs.YtggaghghclomkaaGreat
open Go.RowKit
theorem sto_one {s : StoreP} {sn sk st sl : Value} (h : (dskC s.disk sn sk st).all (·.oneCell') = true) (h2 : sl.oneCell' = true) : (stoC s sn sk st sl).all (·.oneCell') = true := by
  rw [show stoC s sn sk st sl = dskC s.disk sn sk st ++ [I s.keep, I s.size, sl, I s.len] from rfl, List.all_append, h]; simp only [List.all_cons, List.all_nil, h2]; rfl
theorem OE.wide {w : World} {lo hi lo' hi' : Nat} {v : Value} {l : List Ent} (h : OE w lo hi v l) (h1 : lo' ≤ lo) (h2 : hi ≤ hi') (h3 : hi' ≤ w.heap.size) : OE w lo' hi' v l := by
  obtain ⟨A, c, e, ho⟩ := h
  exact ⟨A, c, e, ho.wide h1 h2 h3⟩
attribute [local irreducible] TL TC TN TX TR TQ TA Pu Ret
set_option maxRecDepth 100000 in
set_option maxHeartbeats 4000000 in
theorem implcopyStore_c {w : World} {lo hi : Nat} {s : StoreP} {sn sk st sl : Value} (h : RSt w lo hi s sn sk st sl) (hl : totS s ≤ 1048576) :
    Ret Tryz.prog 117 #[.agg (stoC s sn sk st sl).toArray] w fun v' w' => ∃ sn' sk' st' sl' m, v' = .agg (stoC s sn' sk' st' sl').toArray ∧ Ext w w' ∧ ODk w' w.heap.size m s.disk sn' sk' st' ∧ OE w' m w'.heap.size sl' s.list ∧ w.heap.size ≤ m ∧ m ≤ w'.heap.size := by
  obtain ⟨p1, p2⟩ := totS_parts hl
  refine Ret_enter Tryz.func117 rfl rfl rfl ?_
  repeat' (first | apply Jbs | apply Jbt)
  refine TL_box (cs := stoC s sn sk st sl) rfl rfl ?_
  intro w1 g1 e1 hg1 hz1 hb1
  skip
  refine TL_alloc Zs.h rfl rfl ?_
  intro w2 g2 e2 hg2 hz2 hb2
  replace hb1 := hb1.ext e2
  repeat' (first | apply Jbq | apply Jbr | apply Jbs | apply Jbt | (apply Jcg; (apply Jbl; exact Us.h; exact rfl; exact Sz.h; exact rfl); exact rfl) | refine Jcg (Pu_loadAgg (cs := dskC s.disk sn sk st) Us.h rfl Sz.h rfl (fun _ e j u hu => blk_disk hb1 e j u hu)) rfl ?_)
  refine TL_call rfl en66 (implcopyDisk_c (h.1.ext (e1.ext e2)) p1) rfl rfl ?_
  rintro _ w3 ⟨sn1, sk1, st1, rfl, e3, hx⟩
  replace hb1 := hb1.ext e3
  replace hb2 := hb2.ext e3
  have E3 : Ext w w3 := (e1.ext e2).ext e3
  have hs3 := e3.size
  have hone := hx.one
  repeat' ((apply Jcg; (apply Jbl; exact Us.h; exact rfl; exact Sz.h; exact rfl); exact rfl))
  refine TL_storeBlk rfl (add0 g1 0) rfl Sz.h hone hb1 (by show 0 + 6 ≤ 10; omega) ?_
  clear hb1
  intro w4 c4 hz4 hb1
  have hS : setL (stoC s sn sk st sl) 0 (dskC s.disk sn1 sk1 st1) = stoC s sn1 sk1 st1 sl := rfl
  rw [hS] at hb1
  replace hx := hx.ch c4 (by intro k _ _; simp only [Iv]; omega)
  replace hb2 := hb2.ch c4 (by simp only [Iv]; omega)
  have E4 : Ext w w4 := Ext.then_iv E3 c4 (by omega)
  repeat' (first | apply Jbq | apply Jbr | apply Jbs | apply Jbt | (apply Jcg; (apply Jbl; exact Us.h; exact rfl; exact Sz.h; exact rfl); exact rfl) | refine Jcg (Pu_load Fl.h rfl (fun _ e => by rw [e]; exact hb1.ld rfl)) rfl ?_)
  refine TL_appendE Us.h rfl rfl (show OE w4 w4.heap.size w4.heap.size (.slice none 0 0) [] from ⟨none, 0, rfl, Own.nil _ _ _ _ _ (Nat.le_refl _)⟩) (h.2.ext E4) (by omega) (by simp only [List.length_nil]; omega) rfl ?_
  intro w5 vl c5 hle
  rw [List.nil_append] at hle
  have c5' : Ext w4 w5 := Ext.then_iv (Ch.refl _ _) c5 (by omega)
  have hs5 := c5'.size
  replace hb1 := hb1.ext c5'
  replace hb2 := hb2.ext c5'
  replace hx := hx.ext c5'
  have hvl : vl.oneCell' = true := by obtain ⟨A, c, rfl, _⟩ := hle; rfl
  repeat' ((apply Jcg; (apply Jbl; exact Us.h; exact rfl; exact Sz.h; exact rfl); exact rfl))
  refine TL_store rfl rfl Sz.h hvl hb1 rfl ?_
  clear hb1
  intro w6 c6 hz6 hb1
  replace hb1 : Blk w6 g1 66 (stoC s sn1 sk1 st1 vl) := hb1
  replace hx := hx.ch c6 (by intro k _ _; simp only [Iv]; omega)
  replace hle := hle.ch c6 (by intro k _ _; simp only [Iv]; omega)
  replace hb2 := hb2.ch c6 (by simp only [Iv]; omega)
  have E6 : Ext w w6 := Ext.then_iv (E4.ext c5') c6 (by omega)
  have honeS : (stoC s sn1 sk1 st1 vl).all (·.oneCell') = true := sto_one hone hvl
  repeat' (first | apply Jbq | apply Jbr | apply Jbs | apply Jbt | refine Jcg (Pu_loadAgg (cs := stoC s sn1 sk1 st1 vl) Us.h rfl Sz.h rfl (fun _ e j u hu => by rw [e, add0, hb1.cell]; exact hu)) rfl ?_)
  refine TL_storeAgg rfl rfl Sz.h honeS hb2 rfl ?_
  intro w7 c7 hz7 hb7
  repeat' (first | apply Jbq | apply Jbr | apply Jbu)
  exact TR_of (resA rfl rfl hb7 Us.h rfl Sz.h) ⟨sn1, sk1, st1, vl, w4.heap.size, rfl, Ext.then_iv E6 c7 (by omega), (hx.ch c7 (by intro k _ _; simp only [Iv]; omega)).wide (by omega) (by omega) (by omega), (hle.ch c7 (by intro k _ _; simp only [Iv]; omega)).wide (Nat.le_refl _) (by omega) (Nat.le_refl _), by omega, by omega⟩
set_option maxRecDepth 100000 in
set_option maxHeartbeats 4000000 in
theorem specl06Copy_c {w : World} {lo hi : Nat} {s : StoreP} {sn sk st sl : Value} (h : RSt w lo hi s sn sk st sl) (hl : totS s ≤ 1048576) :
    Ret Tryz.prog 119 #[.agg (stoC s sn sk st sl).toArray] w fun v' w' => ∃ sn' sk' st' sl' m, v' = .agg (stoC s sn' sk' st' sl').toArray ∧ Ext w w' ∧ ODk w' w.heap.size m s.disk sn' sk' st' ∧ OE w' m w'.heap.size sl' s.list ∧ w.heap.size ≤ m ∧ m ≤ w'.heap.size := by
  obtain ⟨p1, p2⟩ := totS_parts hl
  refine Ret_enter Tryz.func119 rfl rfl rfl ?_
  repeat' (first | apply Jbs | apply Jbt)
  refine TL_box (cs := stoC s sn sk st sl) rfl rfl ?_
  intro w1 g1 e1 hg1 hz1 hb1
  skip
  refine TL_alloc Zs.h rfl rfl ?_
  intro w2 g2 e2 hg2 hz2 hb2
  replace hb1 := hb1.ext e2
  repeat' (first | apply Jbq | apply Jbr | apply Jbs | apply Jbt | (apply Jcg; (apply Jbl; exact Us.h; exact rfl; exact Sz.h; exact rfl); exact rfl) | refine Jcg (Pu_loadAgg (cs := dskC s.disk sn sk st) Us.h rfl Sz.h rfl (fun _ e j u hu => blk_disk hb1 e j u hu)) rfl ?_)
  refine TL_call rfl en58 (specl03Copy_c (h.1.ext (e1.ext e2)) p1) rfl rfl ?_
  rintro _ w3 ⟨sn1, sk1, st1, rfl, e3, hx⟩
  replace hb1 := hb1.ext e3
  replace hb2 := hb2.ext e3
  have E3 : Ext w w3 := (e1.ext e2).ext e3
  have hs3 := e3.size
  have hone := hx.one
  repeat' ((apply Jcg; (apply Jbl; exact Us.h; exact rfl; exact Sz.h; exact rfl); exact rfl))
  refine TL_storeBlk rfl (add0 g1 0) rfl Sz.h hone hb1 (by show 0 + 6 ≤ 10; omega) ?_
  clear hb1
  intro w4 c4 hz4 hb1
  have hS : setL (stoC s sn sk st sl) 0 (dskC s.disk sn1 sk1 st1) = stoC s sn1 sk1 st1 sl := rfl
  rw [hS] at hb1
  replace hx := hx.ch c4 (by intro k _ _; simp only [Iv]; omega)
  replace hb2 := hb2.ch c4 (by simp only [Iv]; omega)
  have E4 : Ext w w4 := Ext.then_iv E3 c4 (by omega)
  repeat' (first | apply Jbq | apply Jbr | apply Jbs | apply Jbt | (apply Jcg; (apply Jbl; exact Us.h; exact rfl; exact Sz.h; exact rfl); exact rfl) | (refine TL_buildSlice0 Us.h Sz.h rfl ?_; intro w8 g8 e8 hg8 hz8 hown8))
  have hnew : OE w8 w4.heap.size w8.heap.size (.slice (some ⟨g8, 0, none⟩) 0 0) [] := OE_new (s := []) rfl hown8 hg8 hz8
  have hb18 := hb1.ext e8
  repeat' (refine Jcg (Pu_load Fl.h rfl (fun _ e => by rw [e]; exact hb18.ld rfl)) rfl ?_)
  refine TL_appendE Us.h rfl rfl hnew (h.2.ext (E4.ext e8)) (by omega) (by simp only [List.length_nil]; omega) rfl ?_
  intro w5 vl c5 hle
  rw [List.nil_append] at hle
  have c5' : Ext w4 w5 := Ext.then_iv e8 c5 (by omega)
  have hs5 := c5'.size
  replace hb1 := hb1.ext c5'
  replace hb2 := hb2.ext c5'
  replace hx := hx.ext c5'
  have hvl : vl.oneCell' = true := by obtain ⟨A, c, rfl, _⟩ := hle; rfl
  repeat' ((apply Jcg; (apply Jbl; exact Us.h; exact rfl; exact Sz.h; exact rfl); exact rfl))
  refine TL_store rfl rfl Sz.h hvl hb1 rfl ?_
  clear hb1
  intro w6 c6 hz6 hb1
  replace hb1 : Blk w6 g1 66 (stoC s sn1 sk1 st1 vl) := hb1
  replace hx := hx.ch c6 (by intro k _ _; simp only [Iv]; omega)
  replace hle := hle.ch c6 (by intro k _ _; simp only [Iv]; omega)
  replace hb2 := hb2.ch c6 (by simp only [Iv]; omega)
  have E6 : Ext w w6 := Ext.then_iv (E4.ext c5') c6 (by omega)
  have honeS : (stoC s sn1 sk1 st1 vl).all (·.oneCell') = true := sto_one hone hvl
  repeat' (first | apply Jbq | apply Jbr | apply Jbs | apply Jbt | refine Jcg (Pu_loadAgg (cs := stoC s sn1 sk1 st1 vl) Us.h rfl Sz.h rfl (fun _ e j u hu => by rw [e, add0, hb1.cell]; exact hu)) rfl ?_)
  refine TL_storeAgg rfl rfl Sz.h honeS hb2 rfl ?_
  intro w7 c7 hz7 hb7
  repeat' (first | apply Jbq | apply Jbr | apply Jbu)
  exact TR_of (resA rfl rfl hb7 Us.h rfl Sz.h) ⟨sn1, sk1, st1, vl, w4.heap.size, rfl, Ext.then_iv E6 c7 (by omega), (hx.ch c7 (by intro k _ _; simp only [Iv]; omega)).wide (by omega) (by omega) (by omega), (hle.ch c7 (by intro k _ _; simp only [Iv]; omega)).wide (Nat.le_refl _) (by omega) (Nat.le_refl _), by omega, by omega⟩
set_option maxRecDepth 100000 in
set_option maxHeartbeats 4000000 in
theorem l06Put_c {w : World} {g lo hi lo2 hi2 : Nat} {s : StoreP} {sn sk st sl vb : Value} {name b : List UInt8} (h : StX w g s sn sk st sl lo hi) (hb : RB w lo2 hi2 vb b) (hof : (oApp name b).fits) :
    Ret Tryz.prog 122 #[.pointer (some ⟨g, 0, none⟩), S name, vb] w fun v w' => v = I (pDo s.disk (oApp name b)).2 ∧ Ch (Iv g (g + 1)) w w' ∧ ∃ sn' sk' st' lo' hi', StX w' g { s with disk := (pDo s.disk (oApp name b)).1 } sn' sk' st' sl lo' hi' ∧ w.heap.size ≤ lo' ∧ hi' ≤ w'.heap.size := by
  have hg := h.blk.lt
  have hld := h.ld
  have hb' := hb
  obtain ⟨Ab, cb, rfl, hcb, hrb⟩ := hb'
  refine Ret_enter Tryz.func122 rfl rfl rfl ?_
  repeat' (first | apply Jbq | apply Jbr | apply Jbs | apply Jbt | (apply Jcg; (first | exact Jaa rfl | exact Jab rfl | exact Jba rfl | (apply Jbl; exact Us.h; exact rfl; exact Sz.h; exact rfl)); exact rfl) | refine Jcg (Pu_loadAgg (cs := dskC s.disk sn sk st) Us.h rfl Sz.h rfl (fun _ e j u hu => by rw [e]; exact hld j u hu)) rfl ?_ | refine Jcg (Pu_build (cs := opC (oApp name b) (.slice Ab b.length cb)) rfl (by kernel_rfl)) rfl ?_)
  refine TL_call rfl en22 (specDiskDo_c (o := oApp name b) h.own.rd h.fits h.tot hb hof) rfl rfl ?_
  rintro _ w1 ⟨sn1, sk1, st1, rfl, e1, hx1⟩
  have hs1 := e1.size
  have hone := hx1.one
  repeat' ((apply Jcg; (first | exact Jaa rfl | exact Jae rfl rfl); exact rfl))
  refine TL_alloc Zs.h rfl rfl ?_
  intro w2 g5 e2 hg5 hz2 hb5
  replace hx1 := hx1.ext e2
  skip
  refine TL_storeAgg rfl rfl Sz.h hone hb5 rfl ?_
  clear hb5
  intro w3 c3 hz3 hb5
  replace hx1 := hx1.ch c3 (by intro k _ _; simp only [Iv]; omega)
  have E3 : Ext w w3 := Ext.then_iv (e1.ext e2) c3 (by omega)
  have hb4 := (h.ext E3).blk
  repeat' (first | apply Jbq | apply Jbr | apply Jbs | apply Jbt | (apply Jcg; (first | exact Jaa rfl | exact Jab rfl | exact Jba rfl | (apply Jbl; exact Us.h; exact rfl; exact Sz.h; exact rfl)); exact rfl) | refine Jcg (Pu_loadAgg (cs := dskC (pDo s.disk (oApp name b)).1 sn1 sk1 st1) Us.h rfl Sz.h rfl (fun _ e j u hu => by rw [e, add0, hb5.cell]; exact hu)) rfl ?_)
  refine TL_storeBlk rfl (add0 g 0) rfl Sz.h hone hb4 (by show 0 + 6 ≤ 10; omega) ?_
  intro w5 c5 hz5 hb6
  have hS : setL (stoC s sn sk st sl) 0 (dskC (pDo s.disk (oApp name b)).1 sn1 sk1 st1) = stoC { s with disk := (pDo s.disk (oApp name b)).1 } sn1 sk1 st1 sl := rfl
  rw [hS] at hb6
  repeat' (first | apply Jbq | apply Jbr | apply Jbs | apply Jbt | apply Jbu | (apply Jcg; (first | exact Jaa rfl | exact Jab rfl); exact rfl))
  exact TR_of (res1 rfl rfl) ⟨rfl, (Ch.mono E3 (fun _ t => t.elim)).then c5, sn1, sk1, st1, _, _, ⟨hb6, hx1.ch c5 (by intro k _ _; simp only [Iv]; omega), .inr (by omega), pDo_fits _ _, pDo_tot _ _⟩, by omega, by omega⟩
theorem l06Put_y {w : World} {g lo hi lo2 hi2 : Nat} {d : DiskP} {kp z n : Int} {l : List Ent} {sn sk st sl vb : Value} {name b : List UInt8} {y : DiskP × Int} (h : StX w g ⟨d, kp, z, l, n⟩ sn sk st sl lo hi) (hb : RB w lo2 hi2 vb b) (hof : (oApp name b).fits) (hy : pDo d (oApp name b) = y) :
    Ret Tryz.prog 122 #[.pointer (some ⟨g, 0, none⟩), S name, vb] w fun v w' => v = I y.2 ∧ Ch (Iv g (g + 1)) w w' ∧ ∃ sn' sk' st' lo' hi', StX w' g ⟨y.1, kp, z, l, n⟩ sn' sk' st' sl lo' hi' ∧ w.heap.size ≤ lo' ∧ hi' ≤ w'.heap.size := by
  subst hy
  exact l06Put_c h hb hof
end Go.Proofs.YtggaghghclomkaaGreat

/- Own entries are appended to: where the row lies behind it. Conditions: sizes. -/
namespace Go.Proofs.YtggaghghclomkaaGreat
open Go.RowKit
theorem Own.tight {w : World} {lo hi lo' hi' size n c : Nat} {e : TypeId} {A : Option Addr} {xs : List Value} (h : Own w lo hi e size A n c xs) (h1 : ∀ ad, A = some ad → lo' ≤ ad.block ∧ ad.block < hi') (h3 : hi' ≤ w.heap.size) : Own w lo' hi' e size A n c xs := by
  refine ⟨h3, ⟨h.row.1, ?_⟩, fun ad ha => (h1 ad ha).2⟩
  rcases h.row.2 with hn | ⟨g, cap, cur, h4, h5, rest⟩
  · exact .inl hn
  · exact .inr ⟨g, cap, cur, h4, (by injection h4 with h6; exact (h1 ⟨g, 0, none⟩ h6).1), rest⟩
attribute [local irreducible] TL TC TN TX TR TQ TA Pu Ret
section
variable {P : Program} {L : List Oper} {Q : Exit → Act → World → Prop} {n d : Nat} {l : Env} {w : World} {rest : List Oper} {ty : TypeId} {pos : String} {af : Array Edge} {v v2 : Value} {x y : Operand} {t : TypeId}
theorem TL_appendE2 {lo hi lo2 hi2 : Nat} {s s2 : List Ent} (ht : Tryz.prog.underlying t = some (.slice 82)) (hx : ev l x = some v) (hy : ev l y = some v2) (ho : OE w lo hi v s) (hr : RE w lo2 hi2 v2 s2)
    (hlo : lo ≤ w.heap.size) (hm : s.length + s2.length ≤ 1099511627776) (hn : Nat.blt d n = true)
    (h : ∀ w' v' lo' hi', Ch (Iv lo hi) w w' → (lo' = lo ∧ hi' = hi ∨ lo' = w.heap.size ∧ hi' = w'.heap.size) → OE w' lo' hi' v' (s ++ s2) → TL Tryz.prog L Q rest n ((d, v') :: l) w') :
    TL Tryz.prog L Q (⟨some d, .call { callee := .builtin .append, args := #[x, y], argTypes := #[t, t] }, ty, pos, af, none⟩ :: rest) n l w := by
  obtain ⟨A, c, rfl, ho⟩ := ho
  obtain ⟨A2, c2, rfl, _, hr⟩ := hr
  refine TL_append ht inf82 rfl rfl hx hy ho hr (ents_one s2) hlo (by omega) (by omega) hn ?_
  intro w1 hi1 A1 c1 hch h1 h2 h3 hown
  have hz := hch.size
  have hh := ho.hi_le
  have hO : Own w1 lo hi1 82 2 A1 (s ++ s2).length c1 (ents (s ++ s2)) := hown.cast (by rw [List.length_append]) (ents_append _ _).symm
  rcases h3 with h3 | h3
  · subst h3
    exact h w1 _ lo hi hch (.inl ⟨rfl, rfl⟩) ⟨_, c1, by rw [List.length_append], hO.tight (fun ad ha => ⟨ho.ge ad ha, ho.lt ad ha⟩) (by omega)⟩
  · have hlt := hown.lt
    have hle := hown.hi_le
    exact h w1 _ w.heap.size w1.heap.size hch (.inr ⟨rfl, rfl⟩) ⟨_, c1, by rw [List.length_append], hO.tight (fun ad ha => ⟨by rw [h3] at ha; injection ha with ha; rw [← ha]; exact Nat.le_refl _, by have := hlt ad ha; omega⟩) (Nat.le_refl _)⟩
end
end Go.Proofs.YtggaghghclomkaaGreat

/- Contracts: an entry is added to a store, by the reference. Conditions: the store is right, the text may be kept. -/
namespace Go.Proofs.YtggaghghclomkaaGreat
open Go.RowKit
attribute [local irreducible] TL TC TN TX TR TQ TA Pu Ret
set_option maxRecDepth 100000 in
set_option maxHeartbeats 16000000 in
theorem specAdd_c {W : World} {lo hi : Nat} {s : StoreP} {sn sk st sl : Value} {t : List UInt8} (h : RSt W lo hi s sn sk st sl) (hf : s.fits) (hl : totS s ≤ 1048576) (hS : SOk s) (ht : 1 ≤ t.length ∧ t.length ≤ 1000) :
    Ret Tryz.prog 43 #[.agg (stoC s sn sk st sl).toArray, S t] W fun v' w' => ∃ sn' sk' st' sl', v' = .tuple #[.agg (stoC (pAdd s t).1 sn' sk' st' sl').toArray, I (pAdd s t).2] ∧ Ext W w' ∧ OSt w' W.heap.size w'.heap.size (pAdd s t).1 sn' sk' st' sl' := by
  have hh := h
  obtain ⟨p1, p2⟩ := totS_parts hl
  refine Ret_enter Tryz.func43 rfl rfl rfl ?_
  have E : Ext W W := Ch.refl _ _
  repeat' (first | apply Jbs | apply Jbt)
  refine TL_box (cs := stoC s sn sk st sl) rfl rfl ?_
  intro w1 gs e hghbs hzhbs hbs
  replace E := E.ext e
  have z1 := e.size
  clear e
  have hlthbs := hbs.lt
  skip
  refine TL_alloc Zs.h rfl rfl ?_
  intro w2 gr e hghbr hzhbr hbr
  replace hbs := hbs.ext e
  replace E := E.ext e
  have z2 := e.size
  clear e
  have hlthbr := hbr.lt
  repeat' (first | apply Jbq | apply Jbr | apply Jbs | apply Jbt | (apply Jcg; exact Jab rfl; exact rfl) | refine Jcg (Pu_loadAgg (cs := stoC s sn sk st sl) Us.h rfl Sz.h rfl (fun _ e j u hu => by rw [e, add0, hbs.cell]; exact hu)) rfl ?_)
  refine TL_call rfl en112 (specStoreOk_c (hh.ext E) hf hl) rfl rfl ?_
  rintro _ w3 ⟨rfl, e⟩
  rw [pSOk_yes hS]
  replace hbs := hbs.ext e
  replace hbr := hbr.ext e
  replace E := E.ext e
  have z3 := e.size
  clear e
  repeat' (first | apply Jbq | apply Jbr | apply Jbs | apply Jbt | apply Jbz | (apply Jcg; (first | exact Jaa rfl | exact Jad rfl rfl | exact Jai rfl rfl | exact Jaj rfl | exact Jam rfl rfl | exact Jaq Us.h rfl); exact rfl) | refine Jch rfl rfl rfl ?_ | refine Jcg (Pu_loadAgg (cs := stoC s sn sk st sl) Us.h rfl Sz.h rfl (fun _ e j u hu => by rw [e, add0, hbs.cell]; exact hu)) rfl ?_ | (refine Jcs rfl rfl (fun hb => ?_) (fun hb => ?_) <;> (try (exfalso; omega))) | (refine Jcx rfl (fun hb => ?_) (fun hb => ?_) <;> (try (exfalso; omega))))
  refine TL_call rfl en119 (specl06Copy_c (hh.ext E) hl) rfl rfl ?_
  rintro _ w4 ⟨sn1, sk1, st1, sl1, m, rfl, e, hd, hle, q1, q2⟩
  replace hbs := hbs.ext e
  replace hbr := hbr.ext e
  replace E := E.ext e
  have z4 := e.size
  clear e
  have oneo := sto_one hd.one hle.rd.one
  obtain ⟨l1, hl1⟩ : ∃ l, l = w3.heap.size := ⟨_, rfl⟩
  obtain ⟨h1, hh1⟩ : ∃ l, l = m := ⟨_, rfl⟩
  obtain ⟨l2, hl2⟩ : ∃ l, l = m := ⟨_, rfl⟩
  obtain ⟨h2, hh2⟩ : ∃ l, l = w4.heap.size := ⟨_, rfl⟩
  rw [← hl1, ← hh1] at hd
  rw [← hl2, ← hh2] at hle
  have hap : h1 ≤ l2 ∨ h2 ≤ l1 := by omega
  skip
  refine TL_alloc Zs.h rfl rfl ?_
  intro w5 go e hghbo hzhbo hbo
  replace hbs := hbs.ext e
  replace hbr := hbr.ext e
  replace hd := hd.ext e
  replace hle := hle.ext e
  replace E := E.ext e
  have z5 := e.size
  clear e
  have hlthbo := hbo.lt
  skip
  refine TL_storeAgg rfl rfl Sz.h oneo hbo rfl ?_
  clear hbo
  intro w6 c hzz hbo
  replace hbs := hbs.ch c (by simp only [Iv]; omega)
  replace hbr := hbr.ch c (by simp only [Iv]; omega)
  replace hd := hd.ch c (by intro k _ _; simp only [Iv]; omega)
  replace hle := hle.ch c (by intro k _ _; simp only [Iv]; omega)
  replace E : Ext W _ := Ext.then_iv E c (by omega)
  have z6 := c.size
  clear c
  repeat' (first | apply Jbq | apply Jbr | apply Jbs | apply Jbt | refine Jcg (Pu_loadAgg (cs := stoC s sn sk st sl) Us.h rfl Sz.h rfl (fun _ e j u hu => by rw [e, add0, hbs.cell]; exact hu)) rfl ?_)
  refine TL_call rfl en120 (specNextNum_c (hh.ext E) hl) rfl rfl ?_
  rintro _ w7 ⟨rfl, e⟩
  replace hbs := hbs.ext e
  replace hbr := hbr.ext e
  replace hd := hd.ext e
  replace hle := hle.ext e
  replace hbo := hbo.ext e
  replace E := E.ext e
  have z7 := e.size
  clear e
  obtain ⟨nx, hnx⟩ : ∃ n, n = pNext s.list := ⟨_, rfl⟩
  rw [← hnx]
  repeat' (first | (apply Jcg; exact Jaa rfl; exact rfl) | refine Jcg (Pu_build (cs := entC (nx, t)) rfl (by kernel_rfl)) rfl ?_)
  skip
  refine TL_alloc Zs.h rfl rfl ?_
  intro w8 ge e hghbe hzhbe hbe
  replace hbs := hbs.ext e
  replace hbr := hbr.ext e
  replace hd := hd.ext e
  replace hle := hle.ext e
  replace hbo := hbo.ext e
  replace E := E.ext e
  have z8 := e.size
  clear e
  have hlthbe := hbe.lt
  skip
  refine TL_storeAgg rfl rfl Sz.h rfl hbe rfl ?_
  clear hbe
  intro w9 c hzz hbe
  replace hbs := hbs.ch c (by simp only [Iv]; omega)
  replace hbr := hbr.ch c (by simp only [Iv]; omega)
  replace hd := hd.ch c (by intro k _ _; simp only [Iv]; omega)
  replace hle := hle.ch c (by intro k _ _; simp only [Iv]; omega)
  replace hbo := hbo.ch c (by simp only [Iv]; omega)
  replace E : Ext W _ := Ext.then_iv E c (by omega)
  have z9 := c.size
  clear c
  repeat' (first | apply Jbq | apply Jbr | apply Jbs | apply Jbt | refine Jcg (Pu_loadAgg (cs := entC (nx, t)) Us.h rfl Sz.h rfl (fun _ e j u hu => by rw [e, add0, hbe.cell]; exact hu)) rfl ?_)
  refine TL_call rfl en121 (specFrameBytes_c (nx, t) _) rfl rfl ?_
  rintro _ w10 ⟨vb, rfl, e, hob⟩
  replace hbs := hbs.ext e
  replace hbr := hbr.ext e
  replace hd := hd.ext e
  replace hle := hle.ext e
  replace hbo := hbo.ext e
  replace hbe := hbe.ext e
  replace E := E.ext e
  have z10 := e.size
  clear e
  by_cases hb : 1000000000 < nx
  · rw [pAdd_big hS ht (by omega)]
    have hek : pEntry nx t = false := by rw [hnx]; exact next_none (by omega)
    rw [show (pFrame (nx, t)).2 = false by unfold pFrame; rw [hek]; rfl]
    repeat' (first | apply Jbq | apply Jbr | apply Jbs | apply Jbt | (refine Jce rfl ?_) | (apply Jcg; (first | exact Jaa rfl | exact Jab rfl | exact Jae rfl rfl | exact Jaj rfl); exact rfl) | refine Jcg (Pu_loadAgg (cs := stoC s sn1 sk1 st1 sl1) Us.h rfl Sz.h rfl (fun _ e j u hu => by rw [e, add0, hbo.cell]; exact hu)) rfl ?_)
    refine TL_storeAgg rfl rfl Sz.h oneo hbr rfl ?_
    clear hbr
    intro w11 c hzz hbr
    replace hbs := hbs.ch c (by simp only [Iv]; omega)
    replace hd := hd.ch c (by intro k _ _; simp only [Iv]; omega)
    replace hle := hle.ch c (by intro k _ _; simp only [Iv]; omega)
    replace hbo := hbo.ch c (by simp only [Iv]; omega)
    replace hbe := hbe.ch c (by simp only [Iv]; omega)
    replace E : Ext W _ := Ext.then_iv E c (by omega)
    have z11 := c.size
    clear c
    repeat' (first | apply Jbq | apply Jbr | apply Jbu | apply Jbv | (apply Jcg; exact Jab rfl; exact rfl))
    exact TR_of (resA1 rfl rfl rfl hbr Us.h rfl Sz.h) ⟨sn1, sk1, st1, sl1, rfl, E, l1, h1, l2, h2, hd, hle, hap, by omega, by omega, by omega, by omega, Nat.le_refl _⟩
  have hek : pEntry nx t = true := by rw [hnx]; exact next_entry hS.list ht (by omega)
  rw [pFrame_fst hek] at hob
  rw [pFrame_snd hek]
  have hbl := frame_room hS.list ht
  rw [← hnx] at hbl
  obtain ⟨b, hbq⟩ : ∃ b, b = frame (nx, t) := ⟨_, rfl⟩
  rw [← hbq] at hob hbl
  obtain ⟨Ab, cb, rfl⟩ : ∃ A c, vb = .slice A b.length c := by obtain ⟨A, c, h, _⟩ := hob; exact ⟨A, c, h⟩
  obtain ⟨x, hxe⟩ : ∃ x, x = pDo s.disk (oApp histT b) := ⟨_, rfl⟩
  obtain ⟨y, hy⟩ : ∃ y, y = addY x s.len := ⟨_, rfl⟩
  obtain ⟨pa, pb, pc⟩ := pAdd_is hS ht (by rw [← hnx]; omega) (by rw [← hnx]; exact hbq) hxe hy
  have hD0 : StX w10 go ⟨s.disk, s.keep, s.size, s.list, s.len⟩ sn1 sk1 st1 sl1 l1 h1 := ⟨hbo, hd, .inl (by omega), hf.1, p1⟩
  clear hbo hd
  obtain ⟨wk, hwk⟩ : ∃ k, k = w10.heap.size := ⟨_, rfl⟩
  repeat' (first | apply Jbq | apply Jbr | apply Jbs | apply Jbt | apply Jbz | (refine Jcf rfl ?_) | (apply Jcg; (first | exact Jaa rfl | exact Jab rfl | exact Jae rfl rfl | exact Jaj rfl); exact rfl))
  refine TL_call rfl en122 (l06Put_y (y := x) hD0 hob.rd (fits_app (by decide)) hxe.symm) rfl rfl ?_
  rintro _ w11 ⟨rfl, c, sn2, sk2, st2, lo2, hi2, hD2, hq2, hr2⟩
  replace hbs := hbs.ch c (by simp only [Iv]; omega)
  replace hbr := hbr.ch c (by simp only [Iv]; omega)
  replace hle := hle.ch c (by intro k _ _; simp only [Iv]; omega)
  replace hbe := hbe.ch c (by simp only [Iv]; omega)
  replace E : Ext W _ := Ext.then_iv E c (by omega)
  have z11 := c.size
  clear c
  have hhi2 := hD2.own.1
  have one2 := hD2.own.one
  have hlk2 : wk ≤ lo2 := by omega
  clear hD0 hob
  repeat' (first | apply Jbq | apply Jbr | apply Jbs | apply Jbt | (apply Jcg; (first | exact Jaa rfl | exact Jab rfl | exact Jak rfl rfl); exact rfl))
  refine Jcx rfl (fun h5 => ?_) (fun h5 => ?_)
  · obtain ⟨x5, hx5⟩ : ∃ x5, x5 = pDo x.1 (oCut histT s.len) := ⟨_, rfl⟩
    repeat' (first | apply Jbs | apply Jbt | (apply Jcg; (apply Jbl; exact Us.h; exact rfl; exact Sz.h; exact rfl); exact rfl) | refine Jcg (Pu_load Fl.h rfl (fun _ e => by rw [e]; exact hbs.ld rfl)) rfl ?_)
    refine TL_call rfl en108 (l06Cut_y (y := x5) hD2 (fits_cut (hS.lenA hbl (by rw [← hxe]; omega))) hx5.symm) rfl rfl ?_
    rintro _ w12 ⟨rfl, c, sn3, sk3, st3, lo3, hi3, hD3, hq3, hr3⟩
    clear hD2
    replace hbs := hbs.ch c (by simp only [Iv]; omega)
    replace hbr := hbr.ch c (by simp only [Iv]; omega)
    replace hle := hle.ch c (by intro k _ _; simp only [Iv]; omega)
    replace hbe := hbe.ch c (by simp only [Iv]; omega)
    replace E : Ext W _ := Ext.then_iv E c (by omega)
    have z12 := c.size
    clear c
    have hhi3 := hD3.own.1
    have one3 := hD3.own.one
    have hlk3 : wk ≤ lo3 := by omega
    have hy5 : y = stepD x5 (oSync histT) := by rw [hy, addY_5 h5, hx5]
    repeat' (first | apply Jbq | apply Jbr | apply Jbs | apply Jbt | (apply Jcg; (first | exact Jaa rfl | exact Jab rfl | exact Jak rfl rfl); exact rfl))
    refine Jcx rfl (fun h6 => ?_) (fun h6 => ?_)
    · skip
      repeat' (apply Jbt)
      refine TL_call rfl en105 (l06Do_y (o := oSync histT) (y := y) hD3 (opOf_sync _) (fits_op _ _ _ _ (by omega) (by omega) (by decide) (by decide)) (by rw [hy5]; exact stepD_ok h6)) rfl rfl ?_
      rintro _ w13 ⟨rfl, c, sn4, sk4, st4, lo4, hi4, hD4, hq4, hr4⟩
      clear hD3
      replace hbs := hbs.ch c (by simp only [Iv]; omega)
      replace hbr := hbr.ch c (by simp only [Iv]; omega)
      replace hle := hle.ch c (by intro k _ _; simp only [Iv]; omega)
      replace hbe := hbe.ch c (by simp only [Iv]; omega)
      replace E : Ext W _ := Ext.then_iv E c (by omega)
      have z13 := c.size
      clear c
      have hhi4 := hD4.own.1
      have one4 := hD4.own.one
      have hlk4 : wk ≤ lo4 := by omega
      repeat' (first | apply Jbq | apply Jbr | apply Jbs | apply Jbt | (apply Jcg; (first | exact Jaa rfl | exact Jab rfl | exact Jak rfl rfl); exact rfl))
      refine Jcx rfl (fun h7 => ?_) (fun h7 => ?_)
      · skip
        rw [pb h7 (by omega), h5]
        have onq : (stoC ⟨y.1, s.keep, s.size, s.list, s.len⟩ sn4 sk4 st4 sl1).all (·.oneCell') = true := by
          rw [show stoC ⟨y.1, s.keep, s.size, s.list, s.len⟩ sn4 sk4 st4 sl1 = dskC y.1 sn4 sk4 st4 ++ [I s.keep, I s.size, sl1, I s.len] from rfl, List.all_append, one4]; simp only [List.all_cons, List.all_nil, hle.rd.one]; rfl
        have hbq := hD4.blk
        repeat' (first | apply Jbq | apply Jbr | apply Jbs | apply Jbt | (apply Jcg; (first | exact Jaa rfl | exact Jab rfl); exact rfl) | refine Jcg (Pu_loadAgg (cs := stoC ⟨y.1, s.keep, s.size, s.list, s.len⟩ sn4 sk4 st4 sl1) Us.h rfl Sz.h rfl (fun _ e j u hu => by rw [e, add0, hbq.cell]; exact hu)) rfl ?_)
        refine TL_storeAgg rfl rfl Sz.h onq hbr rfl ?_
        clear hbr
        intro w14 c hzz hbr
        replace hbs := hbs.ch c (by simp only [Iv]; omega)
        replace hle := hle.ch c (by intro k _ _; simp only [Iv]; omega)
        replace hbe := hbe.ch c (by simp only [Iv]; omega)
        replace hD4 := hD4.ch c (by simp only [Iv]; omega) (by intro k _ _; simp only [Iv]; omega)
        replace E : Ext W _ := Ext.then_iv E c (by omega)
        have z14 := c.size
        clear c
        have hhq := hD4.own.1
        repeat' (first | apply Jbq | apply Jbr | apply Jbu | apply Jbv | (apply Jcg; exact Jab rfl; exact rfl))
        exact TR_of (resA1 rfl rfl rfl hbr Us.h rfl Sz.h) ⟨sn4, sk4, st4, sl1, rfl, E, lo4, hi4, l2, h2, hD4.own, hle, .inr (by omega), by omega, by omega, by omega, by omega, Nat.le_refl _⟩
      · skip
        rw [pa h7]
        have onq : (stoC ⟨y.1, s.keep, s.size, s.list, s.len⟩ sn4 sk4 st4 sl1).all (·.oneCell') = true := by
          rw [show stoC ⟨y.1, s.keep, s.size, s.list, s.len⟩ sn4 sk4 st4 sl1 = dskC y.1 sn4 sk4 st4 ++ [I s.keep, I s.size, sl1, I s.len] from rfl, List.all_append, one4]; simp only [List.all_cons, List.all_nil, hle.rd.one]; rfl
        have hbq := hD4.blk
        repeat' (first | apply Jbr | apply Jbs | apply Jbt | apply Jbz | (apply Jcg; exact Jaa rfl; exact rfl) | refine Jcg (Pu_loadAgg (cs := stoC ⟨y.1, s.keep, s.size, s.list, s.len⟩ sn4 sk4 st4 sl1) Us.h rfl Sz.h rfl (fun _ e j u hu => by rw [e, add0, hbq.cell]; exact hu)) rfl ?_)
        refine TL_storeAgg rfl rfl Sz.h onq hbr rfl ?_
        clear hbr
        intro w14 c hzz hbr
        replace hbs := hbs.ch c (by simp only [Iv]; omega)
        replace hle := hle.ch c (by intro k _ _; simp only [Iv]; omega)
        replace hbe := hbe.ch c (by simp only [Iv]; omega)
        replace hD4 := hD4.ch c (by simp only [Iv]; omega) (by intro k _ _; simp only [Iv]; omega)
        replace E : Ext W _ := Ext.then_iv E c (by omega)
        have z14 := c.size
        clear c
        have hhq := hD4.own.1
        repeat' (first | apply Jbq | apply Jbr | apply Jbu | apply Jbv | (apply Jcg; exact Jab rfl; exact rfl))
        exact TR_of (resA1 rfl rfl rfl hbr Us.h rfl Sz.h) ⟨sn4, sk4, st4, sl1, rfl, E, lo4, hi4, l2, h2, hD4.own, hle, .inr (by omega), by omega, by omega, by omega, by omega, Nat.le_refl _⟩
    · skip
      have hyx : y = x5 := by rw [hy5]; exact stepD_no h6
      subst hyx
      repeat' (first | apply Jbq | apply Jbr | apply Jbs | apply Jbt | apply Jbz | (apply Jcg; (first | exact Jaa rfl | exact Jak rfl rfl); exact rfl))
      refine Jcx rfl (fun h8 => absurd h8 h6) (fun _ => ?_)
      rw [pa h6]
      have onq : (stoC ⟨y.1, s.keep, s.size, s.list, s.len⟩ sn3 sk3 st3 sl1).all (·.oneCell') = true := by
        rw [show stoC ⟨y.1, s.keep, s.size, s.list, s.len⟩ sn3 sk3 st3 sl1 = dskC y.1 sn3 sk3 st3 ++ [I s.keep, I s.size, sl1, I s.len] from rfl, List.all_append, one3]; simp only [List.all_cons, List.all_nil, hle.rd.one]; rfl
      have hbq := hD3.blk
      repeat' (first | apply Jbr | apply Jbs | apply Jbt | apply Jbz | (apply Jcg; exact Jaa rfl; exact rfl) | refine Jcg (Pu_loadAgg (cs := stoC ⟨y.1, s.keep, s.size, s.list, s.len⟩ sn3 sk3 st3 sl1) Us.h rfl Sz.h rfl (fun _ e j u hu => by rw [e, add0, hbq.cell]; exact hu)) rfl ?_)
      refine TL_storeAgg rfl rfl Sz.h onq hbr rfl ?_
      clear hbr
      intro w13 c hzz hbr
      replace hbs := hbs.ch c (by simp only [Iv]; omega)
      replace hle := hle.ch c (by intro k _ _; simp only [Iv]; omega)
      replace hbe := hbe.ch c (by simp only [Iv]; omega)
      replace hD3 := hD3.ch c (by simp only [Iv]; omega) (by intro k _ _; simp only [Iv]; omega)
      replace E : Ext W _ := Ext.then_iv E c (by omega)
      have z13 := c.size
      clear c
      have hhq := hD3.own.1
      repeat' (first | apply Jbq | apply Jbr | apply Jbu | apply Jbv | (apply Jcg; exact Jab rfl; exact rfl))
      exact TR_of (resA1 rfl rfl rfl hbr Us.h rfl Sz.h) ⟨sn3, sk3, st3, sl1, rfl, E, lo3, hi3, l2, h2, hD3.own, hle, .inr (by omega), by omega, by omega, by omega, by omega, Nat.le_refl _⟩
  repeat' (first | apply Jbq | apply Jbr | apply Jbs | apply Jbt | apply Jbz | (apply Jcg; (first | exact Jaa rfl | exact Jak rfl rfl); exact rfl))
  refine Jcx rfl (fun h0 => ?_) (fun h0 => ?_)
  rotate_left
  · have hyx : y = x := by rw [hy]; exact addY_n h0 h5
    subst hyx
    repeat' (first | apply Jbq | apply Jbr | apply Jbs | apply Jbt | apply Jbz | (apply Jcg; (first | exact Jaa rfl | exact Jak rfl rfl); exact rfl))
    refine Jcx rfl (fun h8 => absurd h8 h0) (fun _ => ?_)
    rw [pa h0]
    have onq : (stoC ⟨y.1, s.keep, s.size, s.list, s.len⟩ sn2 sk2 st2 sl1).all (·.oneCell') = true := by
      rw [show stoC ⟨y.1, s.keep, s.size, s.list, s.len⟩ sn2 sk2 st2 sl1 = dskC y.1 sn2 sk2 st2 ++ [I s.keep, I s.size, sl1, I s.len] from rfl, List.all_append, one2]; simp only [List.all_cons, List.all_nil, hle.rd.one]; rfl
    have hbq := hD2.blk
    repeat' (first | apply Jbr | apply Jbs | apply Jbt | apply Jbz | (apply Jcg; exact Jaa rfl; exact rfl) | refine Jcg (Pu_loadAgg (cs := stoC ⟨y.1, s.keep, s.size, s.list, s.len⟩ sn2 sk2 st2 sl1) Us.h rfl Sz.h rfl (fun _ e j u hu => by rw [e, add0, hbq.cell]; exact hu)) rfl ?_)
    refine TL_storeAgg rfl rfl Sz.h onq hbr rfl ?_
    clear hbr
    intro w12 c hzz hbr
    replace hbs := hbs.ch c (by simp only [Iv]; omega)
    replace hle := hle.ch c (by intro k _ _; simp only [Iv]; omega)
    replace hbe := hbe.ch c (by simp only [Iv]; omega)
    replace hD2 := hD2.ch c (by simp only [Iv]; omega) (by intro k _ _; simp only [Iv]; omega)
    replace E : Ext W _ := Ext.then_iv E c (by omega)
    have z12 := c.size
    clear c
    have hhq := hD2.own.1
    repeat' (first | apply Jbq | apply Jbr | apply Jbu | (apply Jcg; exact Jab rfl; exact rfl))
    exact TR_of (resA1 rfl rfl rfl hbr Us.h rfl Sz.h) ⟨sn2, sk2, st2, sl1, rfl, E, lo2, hi2, l2, h2, hD2.own, hle, .inr (by omega), by omega, by omega, by omega, by omega, Nat.le_refl _⟩
  repeat' (apply Jbt)
  refine TL_call rfl en105 (l06Do_y (o := oSync histT) (y := y) hD2 (opOf_sync _) (fits_op _ _ _ _ (by omega) (by omega) (by decide) (by decide)) (by rw [hy, addY_0 h0])) rfl rfl ?_
  rintro _ w12 ⟨rfl, c, sn4, sk4, st4, lo4, hi4, hD4, hq4, hr4⟩
  clear hD2
  replace hbs := hbs.ch c (by simp only [Iv]; omega)
  replace hbr := hbr.ch c (by simp only [Iv]; omega)
  replace hle := hle.ch c (by intro k _ _; simp only [Iv]; omega)
  replace hbe := hbe.ch c (by simp only [Iv]; omega)
  replace E : Ext W _ := Ext.then_iv E c (by omega)
  have z12 := c.size
  clear c
  have hhi4 := hD4.own.1
  have one4 := hD4.own.one
  have hlk4 : wk ≤ lo4 := by omega
  repeat' (first | apply Jbq | apply Jbr | apply Jbs | apply Jbt | (apply Jcg; (first | exact Jaa rfl | exact Jab rfl | exact Jak rfl rfl); exact rfl))
  refine Jcx rfl (fun h6 => ?_) (fun h6 => ?_)
  rotate_left
  · skip
    rw [pa h6]
    have onq : (stoC ⟨y.1, s.keep, s.size, s.list, s.len⟩ sn4 sk4 st4 sl1).all (·.oneCell') = true := by
      rw [show stoC ⟨y.1, s.keep, s.size, s.list, s.len⟩ sn4 sk4 st4 sl1 = dskC y.1 sn4 sk4 st4 ++ [I s.keep, I s.size, sl1, I s.len] from rfl, List.all_append, one4]; simp only [List.all_cons, List.all_nil, hle.rd.one]; rfl
    have hbq := hD4.blk
    repeat' (first | apply Jbr | apply Jbs | apply Jbt | apply Jbz | (apply Jcg; exact Jaa rfl; exact rfl) | refine Jcg (Pu_loadAgg (cs := stoC ⟨y.1, s.keep, s.size, s.list, s.len⟩ sn4 sk4 st4 sl1) Us.h rfl Sz.h rfl (fun _ e j u hu => by rw [e, add0, hbq.cell]; exact hu)) rfl ?_)
    refine TL_storeAgg rfl rfl Sz.h onq hbr rfl ?_
    clear hbr
    intro w13 c hzz hbr
    replace hbs := hbs.ch c (by simp only [Iv]; omega)
    replace hle := hle.ch c (by intro k _ _; simp only [Iv]; omega)
    replace hbe := hbe.ch c (by simp only [Iv]; omega)
    replace hD4 := hD4.ch c (by simp only [Iv]; omega) (by intro k _ _; simp only [Iv]; omega)
    replace E : Ext W _ := Ext.then_iv E c (by omega)
    have z13 := c.size
    clear c
    have hhq := hD4.own.1
    repeat' (first | apply Jbq | apply Jbr | apply Jbu | (apply Jcg; exact Jab rfl; exact rfl))
    exact TR_of (resA1 rfl rfl rfl hbr Us.h rfl Sz.h) ⟨sn4, sk4, st4, sl1, rfl, E, lo4, hi4, l2, h2, hD4.own, hle, .inr (by omega), by omega, by omega, by omega, by omega, Nat.le_refl _⟩
  rw [pc h6 h0]
  have hlc := hS.lenA hbl (by rw [← hxe]; omega)
  have hll := (totS_parts hl).2
  have hbo := hD4.blk
  have hO4 := hD4.own
  clear hD4
  repeat' (first | apply Jbs | apply Jbt | (apply Jcg; (apply Jbl; exact Us.h; exact rfl; exact Sz.h; exact rfl); exact rfl) | refine Jcg (Pu_load Fl.h rfl (fun _ e => by rw [e]; exact hbo.ld rfl)) rfl ?_ | refine Jcg (Pu_loadAgg (cs := entC (nx, t)) Us.h rfl Sz.h rfl (fun _ e j u hu => by rw [e, add0, hbe.cell]; exact hu)) rfl ?_)
  refine TL_buildSlice (us := ents [(nx, t)]) Us.h Zi.h rfl rfl rfl rfl (fillE _) rfl rfl ?_
  intro w13 gn e hgn hzn hown
  have hnew := (OE_new (s := [(nx, t)]) rfl hown hgn hzn).rd
  replace hbs := hbs.ext e
  replace hbr := hbr.ext e
  replace hle := hle.ext e
  replace hbe := hbe.ext e
  replace hbo := hbo.ext e
  replace hO4 := hO4.ext e
  replace E := E.ext e
  have z13 := e.size
  clear e
  refine TL_appendE2 Us.h rfl rfl hle hnew (by omega) (by simp only [List.length_cons, List.length_nil]; omega) rfl ?_
  clear hnew
  replace hle := True.intro
  intro w14 vn l3 h3 c hlh hle
  replace hbs := hbs.ch c (by simp only [Iv]; omega)
  replace hbr := hbr.ch c (by simp only [Iv]; omega)
  replace hbo := hbo.ch c (by simp only [Iv]; omega)
  replace hO4 := hO4.ch c (by intro k _ _; simp only [Iv]; omega)
  replace E : Ext W _ := Ext.then_iv E c (by omega)
  have z14 := c.size
  clear c
  have hh3 : h3 ≤ w14.heap.size := by obtain ⟨_, _, _, ho⟩ := hle; exact ho.hi_le
  have hvn : vn.oneCell' = true := hle.rd.one
  repeat' ((apply Jcg; (apply Jbl; exact Us.h; exact rfl; exact Sz.h; exact rfl); exact rfl))
  refine TL_store rfl rfl Sz.h hvn hbo rfl ?_
  clear hbo
  intro w15 c hzz hbo
  replace hbo : Blk w15 go 66 (stoC ⟨y.1, s.keep, s.size, s.list ++ [(nx, t)], s.len⟩ sn4 sk4 st4 vn) := hbo
  replace hbs := hbs.ch c (by simp only [Iv]; omega)
  replace hbr := hbr.ch c (by simp only [Iv]; omega)
  replace hO4 := hO4.ch c (by intro k _ _; simp only [Iv]; omega)
  replace hle := hle.ch c (by intro k _ _; simp only [Iv]; omega)
  replace E : Ext W _ := Ext.then_iv E c (by omega)
  have z15 := c.size
  clear c
  repeat' (first | apply Jbq | apply Jbr | apply Jbt | (apply Jcg; (first | exact Jaa rfl | exact Jac Us.h rfl | exact Jaf rfl rfl (by omega) | (apply Jbl; exact Us.h; exact rfl; exact Sz.h; exact rfl)); exact rfl) | refine Jcg (Pu_load Fl.h rfl (fun _ e => by rw [e]; exact hbs.ld rfl)) rfl ?_)
  refine TL_store rfl rfl Sz.h rfl hbo rfl ?_
  clear hbo
  intro w16 c hzz hbo
  replace hbo : Blk w16 go 66 (stoC ⟨y.1, s.keep, s.size, s.list ++ [(nx, t)], s.len + b.length⟩ sn4 sk4 st4 vn) := hbo
  replace hbs := hbs.ch c (by simp only [Iv]; omega)
  replace hbr := hbr.ch c (by simp only [Iv]; omega)
  replace hO4 := hO4.ch c (by intro k _ _; simp only [Iv]; omega)
  replace hle := hle.ch c (by intro k _ _; simp only [Iv]; omega)
  replace E : Ext W _ := Ext.then_iv E c (by omega)
  have z16 := c.size
  clear c
  have one5 : (stoC ⟨y.1, s.keep, s.size, s.list ++ [(nx, t)], s.len + b.length⟩ sn4 sk4 st4 vn).all (·.oneCell') = true := by
    rw [show stoC ⟨y.1, s.keep, s.size, s.list ++ [(nx, t)], s.len + b.length⟩ sn4 sk4 st4 vn = dskC y.1 sn4 sk4 st4 ++ [I s.keep, I s.size, vn, I (s.len + b.length)] from rfl, List.all_append, one4]; simp only [List.all_cons, List.all_nil, hvn]; rfl
  repeat' (first | apply Jbq | apply Jbr | apply Jbs | apply Jbt | (apply Jcg; exact Jaa rfl; exact rfl) | refine Jcg (Pu_loadAgg (cs := stoC ⟨y.1, s.keep, s.size, s.list ++ [(nx, t)], s.len + b.length⟩ sn4 sk4 st4 vn) Us.h rfl Sz.h rfl (fun _ e j u hu => by rw [e, add0, hbo.cell]; exact hu)) rfl ?_)
  refine TL_storeAgg rfl rfl Sz.h one5 hbr rfl ?_
  clear hbr
  intro w17 c hzz hbr
  replace hbs := hbs.ch c (by simp only [Iv]; omega)
  replace hO4 := hO4.ch c (by intro k _ _; simp only [Iv]; omega)
  replace hle := hle.ch c (by intro k _ _; simp only [Iv]; omega)
  replace hbo := hbo.ch c (by simp only [Iv]; omega)
  replace E : Ext W _ := Ext.then_iv E c (by omega)
  have z17 := c.size
  clear c
  have hhi5 := hO4.1
  have hhl5 : h3 ≤ w17.heap.size := by obtain ⟨_, _, _, ho⟩ := hle; exact ho.hi_le
  repeat' (first | apply Jbq | apply Jbr | apply Jbu | (apply Jcg; exact Jab rfl; exact rfl))
  exact TR_of (resA1 rfl rfl rfl hbr Us.h rfl Sz.h) ⟨sn4, sk4, st4, vn, by rw [h6]; rfl, E, lo4, hi4, l3, h3, hO4, by rw [← hnx]; exact hle, by omega, by omega, by omega, by omega, by omega, Nat.le_refl _⟩
end Go.Proofs.YtggaghghclomkaaGreat

/- Contracts: a history is opened, by the reference. -/
namespace Go.Proofs.YtggaghghclomkaaGreat
open Go.RowKit
attribute [local irreducible] TL TC TN TX TR TQ TA Pu Ret
set_option maxRecDepth 100000 in
set_option maxHeartbeats 16000000 in
theorem specOpen_c {w : World} {lo hi : Nat} {d : DiskP} {sn sk st : Value} {k z : Int} (h : RDk w lo hi d sn sk st) (hf : d.fits) (hl : totD d ≤ 1048576) :
    Ret Tryz.prog 35 #[.agg (dskC d sn sk st).toArray, I k, I z] w fun v' w' => ∃ sn' sk' st' sl', v' = .tuple #[.agg (stoC (pOpen d k z).1 sn' sk' st' sl').toArray, I (pOpen d k z).2] ∧ Ext w w' ∧ OSt w' w.heap.size w'.heap.size (pOpen d k z).1 sn' sk' st' sl' := by
  have hh := h
  refine Ret_enter Tryz.func35 rfl rfl rfl ?_
  repeat' (first | apply Jbs | apply Jbt)
  refine TL_box (cs := dskC d sn sk st) rfl rfl ?_
  intro w1 g3 e1 hg3 hz1 hb3
  skip
  refine TL_alloc Zs.h rfl rfl ?_
  intro w2 g6 e2 hg6 hz2 hb6
  replace hb3 := hb3.ext e2
  have E2 : Ext w w2 := e1.ext e2
  repeat' (first | apply Jbq | apply Jbr | apply Jbs | apply Jbt | (apply Jcg; exact Jab rfl; exact rfl) | refine Jcg (Pu_loadAgg (cs := dskC d sn sk st) Us.h rfl Sz.h rfl (fun _ e j u hu => by rw [e, add0, hb3.cell]; exact hu)) rfl ?_)
  refine TL_call rfl en57 (specDiskOk_c (hh.ext E2) hf hl) rfl rfl ?_
  rintro _ w3 ⟨rfl, e3⟩
  replace hb3 := hb3.ext e3
  replace hb6 := hb6.ext e3
  have hs3 := e3.size
  have E3 := E2.ext e3
  have hg36 : w.heap.size ≤ g3 ∧ g3 < g6 ∧ g6 < w3.heap.size := by omega
  cases hp : pDOk d with
  | false =>
    rw [pOpen_no (fun h => by rw [pDOk_yes h.1] at hp; cases hp)]

    repeat' (first | apply Jbq | apply Jbr | apply Jbs | apply Jbt | (refine Jce rfl ?_) | (apply Jcg; (first | exact Jaa rfl | exact Jah rfl rfl | exact Jaj rfl); exact rfl) | refine Jci rfl rfl rfl rfl rfl ?_ | refine Jcg (Pu_build (cs := stoC noSt (.slice none 0 0) (.slice none 0 0) (.slice none 0 0) (.slice none 0 0)) rfl (by kernel_rfl)) rfl ?_)
    refine TL_storeAgg rfl rfl Sz.h rfl hb6 rfl ?_
    intro w8 c8 hz8 hb8
    have E8 : Ext w w8 := Ext.then_iv E3 c8 (by omega)
    repeat' (first | apply Jbq | apply Jbr | apply Jbu | apply Jbv | (apply Jcg; exact Jab rfl; exact rfl))
    exact TR_of (resA1 rfl rfl rfl hb8 Us.h rfl Sz.h) ⟨_, _, _, _, rfl, E8, OSt.nil E8.size (Nat.le_refl _)⟩

  | true =>
    have hD := pDOk_of hp
    repeat' (first | (apply Jcg; (first | exact Jaa rfl | exact Jaj rfl); exact rfl) | refine Jch rfl rfl rfl ?_)
    refine TL_call rfl en104 (l06Range_c _ _ _) rfl rfl ?_
    rintro _ _ ⟨rfl, rfl⟩
    by_cases hr : 1 ≤ k ∧ k ≤ 100 ∧ 0 ≤ z ∧ z ≤ 60000
    case neg =>
      rw [pOpen_no (fun h => hr h.2), decide_eq_false hr]

      repeat' (first | apply Jbq | apply Jbr | apply Jbs | apply Jbt | (refine Jce rfl ?_) | (apply Jcg; (first | exact Jai rfl rfl | exact Jaj rfl); exact rfl) | refine Jch rfl rfl rfl ?_ | refine Jcg (Pu_build (cs := stoC noSt (.slice none 0 0) (.slice none 0 0) (.slice none 0 0) (.slice none 0 0)) rfl (by kernel_rfl)) rfl ?_)
      refine TL_storeAgg rfl rfl Sz.h rfl hb6 rfl ?_
      intro w8 c8 hz8 hb8
      have E8 : Ext w w8 := Ext.then_iv E3 c8 (by omega)
      repeat' (first | apply Jbq | apply Jbr | apply Jbu | apply Jbv | (apply Jcg; exact Jab rfl; exact rfl))
      exact TR_of (resA1 rfl rfl rfl hb8 Us.h rfl Sz.h) ⟨_, _, _, _, rfl, E8, OSt.nil E8.size (Nat.le_refl _)⟩

    rw [decide_eq_true hr]
    obtain ⟨xA, hxA⟩ : ∃ x, x = opA d := ⟨_, rfl⟩
    obtain ⟨xB, hxB⟩ : ∃ x, x = opB xA := ⟨_, rfl⟩
    obtain ⟨xC, hxC⟩ : ∃ x, x = opC' xB := ⟨_, rfl⟩
    obtain ⟨xD, hxD⟩ : ∃ x, x = opCutx xC := ⟨_, rfl⟩
    obtain ⟨xE, hxE⟩ : ∃ x, x = stepD xD (oSync histT) := ⟨_, rfl⟩
    obtain ⟨y, hy⟩ : ∃ x, x = stepD xE oDir := ⟨_, rfl⟩
    obtain ⟨b, hb⟩ : ∃ b, b = (pRead xC.1 histT).1 := ⟨_, rfl⟩
    have hP := pOpen_is (k := k) (z := z) (x := xC) (y := y) (b := b) hD hr (by rw [hxC, hxB, hxA]) (by rw [hy, hxE, hxD]; rfl) hb
    repeat' (first | apply Jbq | apply Jbr | apply Jbs | apply Jbt | apply Jbz | (refine Jcf rfl ?_) | (apply Jcg; (first | exact Jai rfl rfl | exact Jaj rfl); exact rfl) | refine Jch rfl rfl rfl ?_ | refine Jcg (Pu_loadAgg (cs := dskC d sn sk st) Us.h rfl Sz.h rfl (fun _ e j u hu => by rw [e, add0, hb3.cell]; exact hu)) rfl ?_)
    refine TL_call rfl en58 (specl03Copy_c (hh.ext E3) hl) rfl rfl ?_
    rintro _ w4 ⟨sn1, sk1, st1, rfl, e4, hx⟩
    replace hb6 := hb6.ext e4
    have hs4 := e4.size
    have E4 := E3.ext e4
    have hone : (stoC ⟨d, k, z, [], 0⟩ sn1 sk1 st1 (.slice none 0 0)).all (·.oneCell') = true := by
      have := hx.one
      rw [show stoC ⟨d, k, z, [], 0⟩ sn1 sk1 st1 (.slice none 0 0) = dskC d sn1 sk1 st1 ++ [I k, I z, .slice none 0 0, I 0] from rfl, List.all_append, this]; rfl
    repeat' (first | (apply Jcg; exact Jaa rfl; exact rfl) | refine Jcg (Pu_build (cs := stoC ⟨d, k, z, [], 0⟩ sn1 sk1 st1 (.slice none 0 0)) rfl (by kernel_rfl)) rfl ?_)
    refine TL_box (cs := stoC ⟨d, k, z, [], 0⟩ sn1 sk1 st1 (.slice none 0 0)) rfl rfl ?_
    intro w5 g8 e5 hg8 hz5 hb8
    replace hb6 := hb6.ext e5
    have E5 := E4.ext e5
    have hD5 : StX w5 g8 ⟨d, k, z, [], 0⟩ sn1 sk1 st1 (.slice none 0 0) w3.heap.size w4.heap.size := ⟨hb8, hx.ext e5, .inl (by omega), hf, hl⟩
    clear hx hb8 hb3 hone
    have hg8' : w.heap.size ≤ g8 ∧ g6 < g8 ∧ g8 < w5.heap.size := by omega
    repeat' (first | apply Jbq | apply Jbr | apply Jbs | apply Jbt | (apply Jcg; (first | exact Jaa rfl | exact Jab rfl); exact rfl))
    refine TL_call rfl en105 (l06Do_y (o := oDir) (y := xA) hD5 opOf_dir (fits_op _ _ _ _ (by omega) (by omega) (by simp) (by simp)) (by rw [hxA]; rfl)) rfl rfl ?_
    rintro _ w6 ⟨rfl, c6, sn6, sk6, st6, lo6, hi6, hD6, hq6, hr6⟩
    have hs6 := c6.size
    have hl6 : g6 < lo6 := by omega
    have hb66 := hb6.ch c6 (by simp only [Iv]; omega)
    have E6 : Ext w w6 := Ext.then_iv E5 c6 (by omega)
    clear hb6 hD5

    repeat' (first | apply Jbq | apply Jbr | apply Jbs | apply Jbt | (apply Jcg; (first | exact Jaa rfl | exact Jab rfl | exact Jba rfl | (apply Jbl; exact Us.h; exact rfl; exact Sz.h; exact rfl)); exact rfl) | refine Jcg (Pu_loadAgg (cs := dskC xA.1 sn6 sk6 st6) Us.h rfl Sz.h rfl (fun _ e j u hu => by rw [e]; exact hD6.ld j u hu)) rfl ?_)
    refine TL_call rfl en106 (specDiskRead_c (s := tempT) hD6.own.rd hD6.fits hD6.tot) rfl rfl ?_
    rintro _ w6r ⟨v6, rfl, e6, _⟩
    have hs6r := e6.size
    replace hD6 := hD6.ext e6
    replace hb66 := hb66.ext e6
    replace E6 := E6.ext e6
    repeat' (first | apply Jbq | apply Jbr | (apply Jcg; (first | exact Jaa rfl | exact Jab rfl | exact Jae rfl rfl); exact rfl))
    refine TC_join (ι := Unit) (fun _ => [(6, .pointer (some ⟨g6, 0, none⟩)), (8, .pointer (some ⟨g8, 0, none⟩)), (9, I xB.2)]) (fun _ w' => Ext w w' ∧ w6.heap.size ≤ w'.heap.size ∧ Blk w' g6 66 (stoC noSt (.slice none 0 0) (.slice none 0 0) (.slice none 0 0) (.slice none 0 0)) ∧ (∃ sn sk st lo hi, StX w' g8 ⟨xB.1, k, z, [], 0⟩ sn sk st (.slice none 0 0) lo hi ∧ g6 < lo)) ?_ ?_
    · repeat' (first | apply Jbs | apply Jbt | (apply Jcg; (first | exact Jaa rfl | exact Jak rfl rfl); exact rfl))
      refine Jcs rfl rfl (fun hc => ?_) (fun hc => ?_)
      · cases hr6 : (pRead xA.1 tempT).2 with
        | true =>
          repeat' (first | apply Jbq | apply Jbr | apply Jbt | (refine Jce rfl ?_) | (apply Jcg; (first | exact Jaa rfl | exact Jah rfl rfl); exact rfl) | refine Jch rfl rfl rfl ?_)
          refine TL_call rfl en105 (l06Do_y (o := oRm tempT) (y := xB) hD6 opOf_rm (fits_op _ _ _ _ (by omega) (by omega) (by decide) (by decide)) (by rw [hxB]; unfold opB; rw [hr6]; exact stepD_ok hc)) rfl rfl ?_
          rintro _ wz ⟨rfl, cz, snz, skz, stz, loz, hiz, hDz, hqz, hrz⟩
          have hsz := cz.size
          repeat' (first | apply Jbq | (apply Jcg; exact Jab rfl; exact rfl))
          exact TN_join () (subEnv_cons rfl (subEnv_cons rfl (subEnv_cons rfl (subEnv_nil _)))) ⟨Ext.then_iv E6 cz (by omega), by omega, hb66.ch cz (by simp only [Iv]; omega), _, _, _, _, _, hDz, by omega⟩
        | false =>
          have hst : xB = xA := by rw [hxB]; unfold opB; rw [hr6]; rfl
          subst hst
          repeat' (first | apply Jbq | apply Jbr | apply Jbz | (refine Jcf rfl ?_) | (apply Jcg; (first | exact Jaa rfl | exact Jah rfl rfl); exact rfl) | refine Jch rfl rfl rfl ?_)
          exact TN_join () (subEnv_cons rfl (subEnv_cons rfl (subEnv_cons rfl (subEnv_nil _)))) ⟨E6, by omega, hb66, _, _, _, _, _, hD6, by omega⟩
      · have hst : xB = xA := by
          rw [hxB]
          unfold opB
          rw [stepD_no hc]
          split <;> rfl
        subst hst
        repeat' (first | apply Jbq | apply Jbr | apply Jbz | (refine Jcf rfl ?_) | (apply Jcg; exact Jai rfl rfl; exact rfl) | refine Jci rfl rfl rfl rfl rfl ?_)
        exact TN_join () (subEnv_cons rfl (subEnv_cons rfl (subEnv_cons rfl (subEnv_nil _)))) ⟨E6, by omega, hb66, _, _, _, _, _, hD6, by omega⟩
    rintro _ w8 ⟨E8, hs8, hb68, sn8, sk8, st8, lo8, hi8, hD8, hl8⟩
    clear hD6 hb66 E6

    repeat' (first | apply Jbs | apply Jbt | (apply Jcg; (first | exact Jaa rfl | exact Jba rfl | (apply Jbl; exact Us.h; exact rfl; exact Sz.h; exact rfl)); exact rfl) | refine Jcg (Pu_loadAgg (cs := dskC xB.1 sn8 sk8 st8) Us.h rfl Sz.h rfl (fun _ e j u hu => by rw [e]; exact hD8.ld j u hu)) rfl ?_)
    refine TL_call rfl en106 (specDiskRead_c (s := histT) hD8.own.rd hD8.fits hD8.tot) rfl rfl ?_
    rintro _ w8r ⟨v8, rfl, e8, _⟩
    have hs8r := e8.size
    replace hD8 := hD8.ext e8
    replace hb68 := hb68.ext e8
    replace E8 := E8.ext e8
    repeat' (first | apply Jbq | apply Jbr | (apply Jcg; (first | exact Jaa rfl | exact Jab rfl | exact Jae rfl rfl); exact rfl))
    refine TC_join (ι := Unit) (fun _ => [(6, .pointer (some ⟨g6, 0, none⟩)), (8, .pointer (some ⟨g8, 0, none⟩)), (9, I xC.2)]) (fun _ w' => Ext w w' ∧ w6.heap.size ≤ w'.heap.size ∧ Blk w' g6 66 (stoC noSt (.slice none 0 0) (.slice none 0 0) (.slice none 0 0) (.slice none 0 0)) ∧ (∃ sn sk st lo hi, StX w' g8 ⟨xC.1, k, z, [], 0⟩ sn sk st (.slice none 0 0) lo hi ∧ g6 < lo)) ?_ ?_
    · repeat' (first | apply Jbs | apply Jbt | (apply Jcg; (first | exact Jaa rfl | exact Jak rfl rfl); exact rfl))
      refine Jcs rfl rfl (fun hc => ?_) (fun hc => ?_)
      · cases hr8 : (pRead xB.1 histT).2 with
        | false =>
          repeat' (first | apply Jbq | apply Jbr | apply Jbt | (refine Jce rfl ?_) | (apply Jcg; (first | exact Jaa rfl | exact Jah rfl rfl | exact Jaj rfl); exact rfl) | refine Jch rfl rfl rfl ?_)
          refine TL_call rfl en105 (l06Do_y (o := oMk histT) (y := xC) hD8 (opOf_mk _) (fits_op _ _ _ _ (by omega) (by omega) (by decide) (by decide)) (by rw [hxC]; unfold opC'; rw [hr8]; exact stepD_ok hc)) rfl rfl ?_
          rintro _ wz ⟨rfl, cz, snz, skz, stz, loz, hiz, hDz, hqz, hrz⟩
          have hsz := cz.size
          repeat' (first | apply Jbq | (apply Jcg; exact Jab rfl; exact rfl))
          exact TN_join () (subEnv_cons rfl (subEnv_cons rfl (subEnv_cons rfl (subEnv_nil _)))) ⟨Ext.then_iv E8 cz (by omega), by omega, hb68.ch cz (by simp only [Iv]; omega), _, _, _, _, _, hDz, by omega⟩
        | true =>
          have hst : xC = xB := by rw [hxC]; unfold opC'; rw [hr8]; rfl
          subst hst
          repeat' (first | apply Jbq | apply Jbr | apply Jbz | (refine Jcf rfl ?_) | (apply Jcg; (first | exact Jaa rfl | exact Jah rfl rfl | exact Jaj rfl); exact rfl) | refine Jch rfl rfl rfl ?_)
          exact TN_join () (subEnv_cons rfl (subEnv_cons rfl (subEnv_cons rfl (subEnv_nil _)))) ⟨E8, by omega, hb68, _, _, _, _, _, hD8, by omega⟩
      · have hst : xC = xB := by
          rw [hxC]
          unfold opC'
          rw [stepD_no hc]
          split <;> rfl
        subst hst
        repeat' (first | apply Jbq | apply Jbr | apply Jbz | (refine Jcf rfl ?_) | (apply Jcg; exact Jai rfl rfl; exact rfl) | refine Jci rfl rfl rfl rfl rfl ?_)
        exact TN_join () (subEnv_cons rfl (subEnv_cons rfl (subEnv_cons rfl (subEnv_nil _)))) ⟨E8, by omega, hb68, _, _, _, _, _, hD8, by omega⟩
    rintro _ w9 ⟨E9, hs9, hb69, sn9, sk9, st9, lo9, hi9, hD9, hl9⟩
    clear hD8 hb68 E8

    repeat' (first | apply Jbs | apply Jbt | (apply Jcg; (first | exact Jaa rfl | exact Jba rfl | (apply Jbl; exact Us.h; exact rfl; exact Sz.h; exact rfl)); exact rfl) | refine Jcg (Pu_loadAgg (cs := dskC xC.1 sn9 sk9 st9) Us.h rfl Sz.h rfl (fun _ e j u hu => by rw [e]; exact hD9.ld j u hu)) rfl ?_)
    refine TL_call rfl en106 (specDiskRead_c (s := histT) hD9.own.rd hD9.fits hD9.tot) rfl rfl ?_
    rintro _ w10 ⟨v10, rfl, e10, ho10⟩
    have hs10 := e10.size
    have hbl : b.length ≤ 1048576 := by rw [hb]; exact pRead_len _ _ hD9.tot
    rw [← hb] at ho10
    obtain ⟨Ab, cb, rfl, hcb, hrb⟩ := ho10
    repeat' (first | apply Jbq | apply Jbr | apply Jbs | apply Jbt | (apply Jcg; (first | exact Jaa rfl | exact Jab rfl | exact Jae rfl rfl); exact rfl))
    refine TL_call rfl en107 (specScan_k ⟨_, _, rfl, hcb, hrb⟩ hbl) rfl rfl ?_
    rintro _ w11 ⟨vl, rfl, e11, hoe⟩
    have hs11 := e11.size
    have hn := (pScan_is b).2.2
    have e911 := e10.ext e11
    have hD11 := hD9.ext e911
    have hb611 := hb69.ext e911
    have E11 := E9.ext e911
    repeat' (first | apply Jbq | apply Jbr | (apply Jcg; (first | exact Jaa rfl | exact Jab rfl | exact Jae rfl rfl); exact rfl))
    refine TC_join (ι := Unit) (fun _ => [(6, .pointer (some ⟨g6, 0, none⟩)), (8, .pointer (some ⟨g8, 0, none⟩)), (9, I xD.2), (16, vl), (17, I ((pScan b).2 : Int))]) (fun _ w' => Ext w w' ∧ w6.heap.size ≤ w'.heap.size ∧ Blk w' g6 66 (stoC noSt (.slice none 0 0) (.slice none 0 0) (.slice none 0 0) (.slice none 0 0)) ∧ (∃ sn sk st lo hi, StX w' g8 ⟨xD.1, k, z, [], 0⟩ sn sk st (.slice none 0 0) lo hi ∧ g6 < lo ∧ (hi ≤ w10.heap.size ∨ w11.heap.size ≤ lo)) ∧ OE w' w10.heap.size w11.heap.size vl (pScan b).1 ∧ w11.heap.size ≤ w'.heap.size) ?_ ?_
    · repeat' (first | apply Jbs | apply Jbt | (apply Jcg; (first | exact Jaa rfl | exact Jak rfl rfl); exact rfl))
      refine Jcs rfl rfl (fun hc => ?_) (fun hc => ?_)
      · repeat' (first | apply Jbq | apply Jbr | (apply Jcg; (first | exact Jaa rfl | exact Jac Us.h rfl | exact Jad rfl rfl | exact Jah rfl rfl); exact rfl) | refine Jch rfl rfl rfl ?_)
        refine Jcx rfl (fun hlt => ?_) (fun hge => ?_)
        · repeat' (first | apply Jbt | (apply Jcg; exact Jaa rfl; exact rfl))
          refine TL_call rfl en108 (l06Cut_y (m := ((pScan b).2 : Int)) (y := xD) hD11 (fits_op _ _ _ _ (by omega) (by omega) (by decide) (by simp)) (by rw [hxD]; unfold opCutx; rw [← hb, if_pos (by omega)]; exact stepD_ok hc)) rfl rfl ?_
          rintro _ w12 ⟨rfl, c12, sn12, sk12, st12, lo12, hi12, hD12, hq12, hr12⟩
          have hs12 := c12.size
          repeat' (first | apply Jbq | (apply Jcg; exact Jab rfl; exact rfl))
          exact TN_join () (subEnv_cons rfl (subEnv_cons rfl (subEnv_cons rfl (subEnv_cons rfl (subEnv_cons rfl (subEnv_nil _)))))) ⟨Ext.then_iv E11 c12 (by omega), by omega, hb611.ch c12 (by simp only [Iv]; omega), ⟨_, _, _, _, _, hD12, by omega, by omega⟩, hoe.ch c12 (by intro k _ _; simp only [Iv]; omega), by omega⟩
        · have hst : xD = xC := by rw [hxD]; unfold opCutx; rw [← hb, if_neg (by omega)]
          subst hst
          repeat' (apply Jbz)
          exact TN_join () (subEnv_cons rfl (subEnv_cons rfl (subEnv_cons rfl (subEnv_cons rfl (subEnv_cons rfl (subEnv_nil _)))))) ⟨E11, by omega, hb611, ⟨_, _, _, _, _, hD11, by omega, by have := hD9.own.1; omega⟩, hoe, by omega⟩
      · have hst : xD = xC := by
          rw [hxD]
          unfold opCutx
          rw [stepD_no hc]
          split <;> rfl
        subst hst
        repeat' (first | apply Jbq | apply Jbr | apply Jbz | (refine Jcf rfl ?_) | (apply Jcg; exact Jai rfl rfl; exact rfl) | refine Jci rfl rfl rfl rfl rfl ?_)
        exact TN_join () (subEnv_cons rfl (subEnv_cons rfl (subEnv_cons rfl (subEnv_cons rfl (subEnv_cons rfl (subEnv_nil _)))))) ⟨E11, by omega, hb611, ⟨_, _, _, _, _, hD11, by omega, by have := hD9.own.1; omega⟩, hoe, by omega⟩
    clear hrb hoe hD11 hb611 E11
    rintro _ w12 ⟨E12, hs12, hb612, ⟨sn12, sk12, st12, lo12, hi12, hD12, hl12, hap12⟩, hoe12, hs12'⟩

    skip
    refine TC_join (ι := Unit) (fun _ => [(6, .pointer (some ⟨g6, 0, none⟩)), (8, .pointer (some ⟨g8, 0, none⟩)), (9, I xE.2), (16, vl), (17, I ((pScan b).2 : Int))]) (fun _ w' => Ext w w' ∧ w6.heap.size ≤ w'.heap.size ∧ Blk w' g6 66 (stoC noSt (.slice none 0 0) (.slice none 0 0) (.slice none 0 0) (.slice none 0 0)) ∧ (∃ sn sk st lo hi, StX w' g8 ⟨xE.1, k, z, [], 0⟩ sn sk st (.slice none 0 0) lo hi ∧ g6 < lo ∧ (hi ≤ w10.heap.size ∨ w11.heap.size ≤ lo)) ∧ OE w' w10.heap.size w11.heap.size vl (pScan b).1 ∧ w11.heap.size ≤ w'.heap.size) ?_ ?_
    · repeat' (first | apply Jbq | apply Jbr | apply Jbs | apply Jbt | (apply Jcg; (first | exact Jaa rfl | exact Jak rfl rfl); exact rfl))
      refine Jcx rfl (fun hc => ?_) (fun hc => ?_)
      · repeat' (first | apply Jbt | (apply Jcg; exact Jaa rfl; exact rfl))
        refine TL_call rfl en105 (l06Do_y (o := oSync histT) (y := xE) hD12 (opOf_sync _) (fits_op _ _ _ _ (by omega) (by omega) (by decide) (by simp)) (by rw [hxE]; exact stepD_ok hc)) rfl rfl ?_
        rintro _ wz ⟨rfl, cz, snz, skz, stz, loz, hiz, hDz, hqz, hrz⟩
        have hsz := cz.size
        repeat' (first | apply Jbq | (apply Jcg; exact Jab rfl; exact rfl))
        exact TN_join () (subEnv_cons rfl (subEnv_cons rfl (subEnv_cons rfl (subEnv_cons rfl (subEnv_cons rfl (subEnv_nil _)))))) ⟨Ext.then_iv E12 cz (by omega), by omega, hb612.ch cz (by simp only [Iv]; omega), ⟨_, _, _, _, _, hDz, by omega, by omega⟩, hoe12.ch cz (by intro k _ _; simp only [Iv]; omega), by omega⟩
      · have hst : xE = xD := by rw [hxE]; exact stepD_no hc
        subst hst
        repeat' (apply Jbz)
        exact TN_join () (subEnv_cons rfl (subEnv_cons rfl (subEnv_cons rfl (subEnv_cons rfl (subEnv_cons rfl (subEnv_nil _)))))) ⟨E12, by omega, hb612, ⟨_, _, _, _, _, hD12, by omega, hap12⟩, hoe12, by omega⟩
    clear hD12 hb612 E12 hoe12
    rintro _ w13 ⟨E13, hs13, hb613, ⟨sn13, sk13, st13, lo13, hi13, hD13, hl13, hap13⟩, hoe13, hs13'⟩

    skip
    refine TC_join (ι := Unit) (fun _ => [(6, .pointer (some ⟨g6, 0, none⟩)), (8, .pointer (some ⟨g8, 0, none⟩)), (9, I y.2), (16, vl), (17, I ((pScan b).2 : Int))]) (fun _ w' => Ext w w' ∧ w6.heap.size ≤ w'.heap.size ∧ Blk w' g6 66 (stoC noSt (.slice none 0 0) (.slice none 0 0) (.slice none 0 0) (.slice none 0 0)) ∧ (∃ sn sk st lo hi, StX w' g8 ⟨y.1, k, z, [], 0⟩ sn sk st (.slice none 0 0) lo hi ∧ g6 < lo ∧ (hi ≤ w10.heap.size ∨ w11.heap.size ≤ lo)) ∧ OE w' w10.heap.size w11.heap.size vl (pScan b).1 ∧ w11.heap.size ≤ w'.heap.size) ?_ ?_
    · repeat' (first | apply Jbq | apply Jbr | apply Jbs | apply Jbt | (apply Jcg; (first | exact Jaa rfl | exact Jak rfl rfl); exact rfl))
      refine Jcx rfl (fun hc => ?_) (fun hc => ?_)
      · repeat' (first | apply Jbt | (apply Jcg; exact Jaa rfl; exact rfl))
        refine TL_call rfl en105 (l06Do_y (o := oDir) (y := y) hD13 opOf_dir (fits_op _ _ _ _ (by omega) (by omega) (by decide) (by simp)) (by rw [hy]; exact stepD_ok hc)) rfl rfl ?_
        rintro _ wz ⟨rfl, cz, snz, skz, stz, loz, hiz, hDz, hqz, hrz⟩
        have hsz := cz.size
        repeat' (first | apply Jbq | (apply Jcg; exact Jab rfl; exact rfl))
        exact TN_join () (subEnv_cons rfl (subEnv_cons rfl (subEnv_cons rfl (subEnv_cons rfl (subEnv_cons rfl (subEnv_nil _)))))) ⟨Ext.then_iv E13 cz (by omega), by omega, hb613.ch cz (by simp only [Iv]; omega), ⟨_, _, _, _, _, hDz, by omega, by omega⟩, hoe13.ch cz (by intro k _ _; simp only [Iv]; omega), by omega⟩
      · have hst : y = xE := by rw [hy]; exact stepD_no hc
        subst hst
        repeat' (apply Jbz)
        exact TN_join () (subEnv_cons rfl (subEnv_cons rfl (subEnv_cons rfl (subEnv_cons rfl (subEnv_cons rfl (subEnv_nil _)))))) ⟨E13, by omega, hb613, ⟨_, _, _, _, _, hD13, by omega, hap13⟩, hoe13, by omega⟩
    clear hD13 hb613 E13 hoe13
    rintro _ w14 ⟨E14, hs14, hb614, ⟨sn14, sk14, st14, lo14, hi14, hD14, hl14, hap14⟩, hoe14, hs14'⟩

    have hvl : vl.oneCell' = true := by obtain ⟨A, c, rfl, _⟩ := hoe14; rfl
    have hb8 := hD14.blk
    have hlt8 := hb8.lt
    skip
    refine TC_join (ι := Value) (fun _ => [(6, .pointer (some ⟨g6, 0, none⟩)), (8, .pointer (some ⟨g8, 0, none⟩)), (9, I y.2)]) (fun sl w' => Ch (Iv g8 (g8 + 1)) w14 w' ∧ Blk w' g8 66 (stoC (pOpen d k z).1 sn14 sk14 st14 sl) ∧ (sl = vl ∧ (pOpen d k z).1.list = (pScan b).1 ∨ sl = .slice none 0 0 ∧ (pOpen d k z).1.list = [])) ?_ ?_
    · repeat' (first | apply Jbq | apply Jbr | apply Jbs | apply Jbt | (apply Jcg; (first | exact Jaa rfl | exact Jak rfl rfl); exact rfl))
      refine Jcx rfl (fun h0 => ?_) (fun h0 => ?_)
      · repeat' (first | apply Jbs | apply Jbt | (apply Jcg; (first | exact Jaa rfl | exact Jba rfl | (apply Jbl; exact Us.h; exact rfl; exact Sz.h; exact rfl)); exact rfl))
        refine TL_store rfl rfl Sz.h hvl hb8 rfl ?_
        intro w17 c17 hz17 hb177
        repeat' (first | apply Jbq | apply Jbr | apply Jbt | (apply Jcg; (first | exact Jaa rfl | exact Jba rfl | (apply Jbl; exact Us.h; exact rfl; exact Sz.h; exact rfl)); exact rfl))
        refine TL_store rfl rfl Sz.h rfl hb177 rfl ?_
        intro w18 c18 hz18 hb178
        repeat' (apply Jbq)
        refine TN_join vl (subEnv_cons rfl (subEnv_cons rfl (subEnv_cons rfl (subEnv_nil _)))) ⟨c17.then c18, ?_, .inl ⟨rfl, by rw [hP]; simp only [if_pos h0]⟩⟩
        rw [hP]
        simp only [if_pos h0]
        exact hb178
      · repeat' (apply Jbz)
        refine TN_join (.slice none 0 0) (subEnv_cons rfl (subEnv_cons rfl (subEnv_cons rfl (subEnv_nil _)))) ⟨Ch.refl _ _, ?_, .inr ⟨rfl, by rw [hP]; simp only [if_neg h0]⟩⟩
        rw [hP]
        simp only [if_neg h0]
        exact hb8
    rintro sl w17 ⟨c17, hb177, hsl⟩
    have hs17 := c17.size
    have hap := hD14.apart
    have hd8 := hD14.own.ch c17 (by intro k _ _; simp only [Iv]; omega)
    have hb617 := hb614.ch c17 (by simp only [Iv]; omega)
    have hoe17 := hoe14.ch c17 (by intro k _ _; simp only [Iv]; omega)
    have E17 : Ext w w17 := Ext.then_iv E14 c17 (by omega)
    have hdk : (pOpen d k z).1.disk = y.1 := by rw [hP]
    have hcd : (pOpen d k z).2 = y.2 := by rw [hP]
    obtain ⟨S, hS⟩ : ∃ S, S = (pOpen d k z).1 := ⟨_, rfl⟩
    rw [← hS] at hb177 hsl hdk ⊢
    rw [hcd]
    have hd8' : ODk w17 lo14 hi14 S.disk sn14 sk14 st14 := by rw [hdk]; exact hd8
    have hd81 := hd8.1
    have hO : ∀ w', Ch (Iv g6 (g6 + 1)) w17 w' → OSt w' w.heap.size w'.heap.size S sn14 sk14 st14 sl := fun w' c => by
      have hcs := c.size
      have h1 := hd8'.ch c (by intro k _ _; simp only [Iv]; omega)
      rcases hsl with ⟨rfl, hsl⟩ | ⟨rfl, hsl⟩
      · refine ⟨lo14, hi14, w10.heap.size, w11.heap.size, h1, by rw [hsl]; exact hoe17.ch c (by intro k _ _; simp only [Iv]; omega), by omega, by omega, by omega, by omega, by omega, Nat.le_refl _⟩
      · have hEs := E17.size
        refine ⟨lo14, hi14, w.heap.size, w.heap.size, h1, by rw [hsl]; exact ⟨none, 0, rfl, Own.nil _ _ _ _ _ (by omega)⟩, .inr (by omega), by omega, Nat.le_refl _, by omega, by omega, Nat.le_refl _⟩
    have honeS : (stoC S sn14 sk14 st14 sl).all (·.oneCell') = true := (hO w17 (Ch.refl _ _)).one
    repeat' (first | apply Jbs | apply Jbt | (apply Jcg; (first | exact Jaa rfl | exact Jba rfl); exact rfl) | refine Jcg (Pu_loadAgg (cs := stoC S sn14 sk14 st14 sl) Us.h rfl Sz.h rfl (fun _ e j u hu => by rw [e, add0, hb177.cell]; exact hu)) rfl ?_)
    refine TL_storeAgg rfl rfl Sz.h honeS hb617 rfl ?_
    intro w19 c19 hz19 hb19
    repeat' (first | apply Jbq | apply Jbr | apply Jbu | (apply Jcg; exact Jab rfl; exact rfl))
    exact TR_of (resA1 rfl rfl rfl hb19 Us.h rfl Sz.h) ⟨sn14, sk14, st14, sl, rfl, Ext.then_iv E17 c19 (by omega), hO w19 c19⟩
end Go.Proofs.YtggaghghclomkaaGreat

/- Sizes of stores that are opened or live. The plain law. No condition. -/
namespace Go.Proofs.YtggaghghclomkaaGreat
open Go.RowKit
theorem frames_len (l : List Ent) : (l.length : Int) + totE l ≤ ((l.flatMap frame).length : Int) := by
  induction l with
  | nil => simp [totE]
  | cons a r ih =>
    have := frame_length a
    simp only [List.flatMap_cons, List.length_append, List.length_cons, totE, List.map_cons, List.sum_cons] at *
    omega
theorem Live.tot {s : StoreP} (h : Live s) : totS s ≤ 1048576 := by
  obtain ⟨p, H, h1, _⟩ := h.hist
  have h2 := (h.ok.disk.bodyLe H.mem).1
  have h3 := frames_len s.list
  have h4 := h.ok.disk.totD
  rw [h1] at h2
  unfold totS
  omega
theorem Live.fitsS {s : StoreP} (h : Live s) : s.fits := by
  have ht := (totS_parts h.tot).2
  refine ⟨h.ok.disk.fitsD, by omega, fun e he => ?_⟩
  have h1 := pEntry_iff.1 (chain_ok (entries_chain.1 h.ok.list) e he)
  omega
end Go.Proofs.YtggaghghclomkaaGreat
