/- Rules for regions whose order is open and that write what one of their operations reads: a barrier. No condition. -/
import Derived.Test.YtggaghghclomkaaGreatAny
namespace Go.Proofs.YtggaghghclomkaaGreat
open Go.RowKit
section
variable {P : Program} {ops : Array Oper} {Q : Exit → Act → World → Prop} {md : Region.Mode} {A B : World → Prop} {m : Nat}
/-- A holds throughout; B holds until operation m has come up. -/
def SB (A B : World → Prop) (m : Nat) (listed : Array Bool) (w : World) : Prop := A w ∧ (listed.getD m true = false → B w)
theorem SB_set {i : Nat} {listed : Array Bool} {w : World} (h : i ≠ m) : SB A B m (listed.setIfInBounds i true) w ↔ SB A B m listed w := by
  unfold SB
  rw [getD_set_ne true h]
def wpAnyL (P : Program) (md : Region.Mode) (ops : Array Oper) (Q : Exit → Act → World → Prop) (S : Array Bool → World → Prop) : Nat → Array Bool → Act → World → Prop
  | 0, listed, a, w => Region.ready md ops listed = [] ∧ Q .normal a w
  | fuel + 1, listed, a, w =>
    (Region.ready md ops listed = [] → Q .normal a w) ∧
    ∀ i ∈ Region.ready md ops listed, wpOp P ops Q i (fun a' w' => S (listed.setIfInBounds i true) w' ∧ wpAnyL P md ops Q S fuel (listed.setIfInBounds i true) a' w') a w
theorem wpAny_of_L {S : Array Bool → World → Prop} : ∀ (fuel : Nat) (listed : Array Bool) (a : Act) (w : World), wpAnyL P md ops Q S fuel listed a w → wpAny P md ops Q fuel listed a w
  | 0, _, _, _, h => h
  | fuel + 1, _, _, _, h => ⟨h.1, fun i hi => wpOp_mono (fun a' w' h' => wpAny_of_L fuel _ a' w' h'.2) (h.2 i hi)⟩
theorem wpAnyL_first {i : Nat} {oi om : Oper} {v : Value} {bar : Bool} (hi : ops[i]? = some oi) (him : i ≠ m) (hom : ops[m]? = some om) (hw : bar = true → ∃ e ∈ om.after, Region.binds md e = true ∧ e.on = i)
    (hsel : ∀ (j : Nat) (o : Oper) cs b, ops[j]? = some o → o.op ≠ .select cs b) (hQ : ∀ c a w, Q (.panic c) (a.put oi.dst v) w → Q (.panic c) a w) :
    ∀ (fuel : Nat) (listed : Array Bool) (a : Act) (w : World),
      (∀ j oj, ops[j]? = some oj → j ≠ i → listed.getD j true = false → (∀ e ∈ oj.after, Region.binds md e = true → e.on ≠ i) → oi.apart ops oj = true) →
      i ∈ Region.ready md ops listed → YieldsIf P ops (fun w => A w ∧ (bar = true → B w)) oi v a → SB A B m listed w → (bar = true → listed.getD m true = false) →
      wpAnyL P md ops Q (SB A B m) fuel (listed.setIfInBounds i true) (a.put oi.dst v) w → wpAnyL P md ops Q (SB A B m) (fuel + 1) listed a w := by
  intro fuel
  induction fuel with
  | zero =>
    intro listed a w _ hr hy hS hm H
    refine ⟨fun h => (by rw [h] at hr; cases hr), fun j hj => ?_⟩
    by_cases hji : j = i
    · subst hji; exact hy.wpOp hi ⟨hS.1, fun hb => hS.2 (hm hb)⟩ ⟨(SB_set him).2 hS, H⟩
    · have := ready_mono hj hji
      rw [H.1] at this
      cases this
  | succ fuel ih =>
    intro listed a w hfree hr hy hS hm H
    refine ⟨fun h => (by rw [h] at hr; cases hr), fun j hj => ?_⟩
    by_cases hji : j = i
    · subst hji; exact hy.wpOp hi ⟨hS.1, fun hb => hS.2 (hm hb)⟩ ⟨(SB_set him).2 hS, H⟩
    · have h1 := H.2 j (ready_mono hj hji)
      obtain ⟨hjun, oj, hoj, hall⟩ := mem_ready.1 hj
      have hnot : ∀ e ∈ oj.after, Region.binds md e = true → e.on ≠ i := fun e he hb heq => by
        have h1 := hall e he hb
        have h0 := (mem_ready.1 hr).1
        rw [heq] at h1
        rcases Nat.lt_or_ge i listed.size with h' | h'
        · simp [h'] at h0 h1; rw [h0] at h1; cases h1
        · simp [Array.getElem?_eq_none h'] at h1
      have hjm : bar = true → j ≠ m := fun hb e => by
        subst e
        obtain ⟨ed, he, hbi, hon⟩ := hw hb
        rw [hoj] at hom
        injection hom with hom
        subst hom
        exact hnot ed he hbi hon
      have h2 := wpOp_putIf hoj (hfree j oj hoj hji hjun hnot) (fun cs b => hsel i oi cs b hi) (fun cs b => hsel j oj cs b hoj) hQ hy h1
      have hfree' : ∀ k ok, ops[k]? = some ok → k ≠ i → (listed.setIfInBounds j true).getD k true = false →
          (∀ e ∈ ok.after, Region.binds md e = true → e.on ≠ i) → oi.apart ops ok = true := fun k ok hk hki hun hno => by
        refine hfree k ok hk hki ?_ hno
        by_cases hjk : j = k
        · subst hjk; exact hjun
        · rw [getD_set_ne true hjk] at hun; exact hun
      refine wpOp_mono (fun a' w' h3 => ?_) h2
      have hcomm : (listed.setIfInBounds i true).setIfInBounds j true = (listed.setIfInBounds j true).setIfInBounds i true := Array.setIfInBounds_comm _ _ (Ne.symm hji)
      have hS' : SB A B m (listed.setIfInBounds j true) w' := by
        have := h3.2.1
        rw [hcomm] at this
        exact (SB_set him).1 this
      refine ⟨hS', ih (listed.setIfInBounds j true) a' w' hfree' (ready_mono hr (Ne.symm hji)) h3.1 hS' (fun hb => ?_) ?_⟩
      · rw [getD_set_ne true (hjm hb)]; exact hm hb
      · rw [← hcomm]
        exact h3.2.2
end
/-- What is listed has come up. -/
def TB (P : Program) (L : List Oper) (A B : World → Prop) (m : Nat) (Q : Exit → Act → World → Prop) (f : Nat) (listed : Array Bool) (n : Nat) (l : Env) (w : World) : Prop :=
  ∀ a, Holds n l a → wpAnyL P .any L.toArray Q (SB A B m) f listed a w
section
variable {P : Program} {L : List Oper} {A B : World → Prop} {m : Nat} {w : World} {Q : Exit → Act → World → Prop} {f n : Nat} {listed : Array Bool} {l : Env} {v : Value}
theorem TC_anyB {id : Nat} (A B : World → Prop) (m : Nat) (hm : P.follows .mixedOrders = true) (hf : L.length = f) (hA : A { w with drawn := w.drawn + 1 }) (hB : B { w with drawn := w.drawn + 1 })
    (h : ∀ w', Ext w w' → w'.heap.size = w.heap.size → A w' → B w' → TB P L A B m Q f (Array.replicate f false) n l w') : TC P Q (.region id L.toArray true) n l w := fun a ha => by
  have := h { w with drawn := w.drawn + 1 } ((Ch.refl _ _).drew) rfl hA hB a ha
  refine wp_region_any hm (wpAny_of_L (S := SB A B m) _ _ _ _ ?_)
  rw [show L.toArray.size = f from by simpa using hf]
  exact this
theorem TB_done (hr : Region.ready .any L.toArray listed = []) (h : TN Q n l w) : TB P L A B m Q f listed n l w := fun a ha => by
  cases f with
  | zero => exact ⟨hr, h a ha⟩
  | succ f => exact ⟨fun _ => h a ha, by rw [hr]; simp⟩
/-- An operation whose value nothing in the region changes. -/
theorem TB_take (i : Nat) {om : Oper} {dd : Nat} {op : Op} {ty : TypeId} {pos : String} {af : Array Edge} (hi : L[i]? = some ⟨some dd, op, ty, pos, af, none⟩) (him : Nat.beq i m = false) (hom : L[m]? = some om) (hs : Region.noSelect L.toArray = true) (hf : Region.free .any L.toArray listed i = true)
    (hr : (Region.ready .any L.toArray listed).contains i = true) (hQ : ∀ c a w, Q (.panic c) (a.put (some dd) v) w → Q (.panic c) a w) (hE : SB A B m listed w)
    (hp : Pu P A n l ⟨some dd, op, ty, pos, af, none⟩ v) (hn : Nat.blt dd n = true) (h : TB P L A B m Q f (listed.setIfInBounds i true) n ((dd, v) :: l) w) : TB P L A B m Q (f + 1) listed n l w := fun a ha =>
  wpAnyL_first (oi := ⟨some dd, op, ty, pos, af, none⟩) (v := v) (bar := false) (by simpa using hi) (by intro e; rw [e, Nat.beq_refl] at him; cases him) (by simpa using hom) (by simp) (Region.noSelect_spec hs) hQ f listed a w (Region.free_spec (by simpa using hi) hf) (by simpa using hr)
    (.inl ⟨by simp [Region.wanted], fun w hw => hp a ha w hw.1⟩) hE (by simp) (h _ (ha.put hn v))
/-- An operation for which the barrier waits. -/
theorem TB_takeB (i : Nat) {om : Oper} {dd : Nat} {op : Op} {ty : TypeId} {pos : String} {af : Array Edge} (hi : L[i]? = some ⟨some dd, op, ty, pos, af, none⟩) (him : Nat.beq i m = false) (hom : L[m]? = some om) (hw : om.after.any (fun e => Region.binds .any e && Nat.beq e.on i) = true) (hlm : listed.getD m true = false)
    (hs : Region.noSelect L.toArray = true) (hf : Region.free .any L.toArray listed i = true)
    (hr : (Region.ready .any L.toArray listed).contains i = true) (hQ : ∀ c a w, Q (.panic c) (a.put (some dd) v) w → Q (.panic c) a w) (hE : SB A B m listed w)
    (hp : Pu P (fun w => A w ∧ B w) n l ⟨some dd, op, ty, pos, af, none⟩ v) (hn : Nat.blt dd n = true) (h : TB P L A B m Q f (listed.setIfInBounds i true) n ((dd, v) :: l) w) : TB P L A B m Q (f + 1) listed n l w := fun a ha => by
  refine wpAnyL_first (oi := ⟨some dd, op, ty, pos, af, none⟩) (v := v) (bar := true) (by simpa using hi) (by intro e; rw [e, Nat.beq_refl] at him; cases him) (by simpa using hom) (fun _ => ?_) (Region.noSelect_spec hs) hQ f listed a w (Region.free_spec (by simpa using hi) hf) (by simpa using hr)
    (.inl ⟨by simp [Region.wanted], fun w hw => hp a ha w ⟨hw.1, hw.2 rfl⟩⟩) hE (fun _ => hlm) (h _ (ha.put hn v))
  rw [Array.any_eq_true] at hw
  obtain ⟨k, hk, he⟩ := hw
  rw [Bool.and_eq_true] at he
  exact ⟨om.after[k], Array.getElem_mem hk, he.1, Nat.eq_of_beq_eq_true he.2⟩
/-- What follows an operation that is carried out inside. -/
def AB (P : Program) (L : List Oper) (A B : World → Prop) (m : Nat) (Q : Exit → Act → World → Prop) (f : Nat) (listed : Array Bool) : Act → World → Prop := fun a' w' => SB A B m listed w' ∧ wpAnyL P .any L.toArray Q (SB A B m) f listed a' w'
theorem TN_anyB (e : SB A B m listed w) (h : TB P L A B m Q f listed n l w) : TN (Exit.then (AB P L A B m Q f listed) Q) n l w := fun a ha => ⟨e, h a ha⟩
theorem TB_key {i : Nat} {o : Oper} {a : Act} (hi : L[i]? = some o) (ha : Holds n l a) (h : TL P L (Exit.then (AB P L A B m Q f (listed.setIfInBounds i true)) Q) [o] n l w) : wpOp P L.toArray Q i (AB P L A B m Q f (listed.setIfInBounds i true)) a w := by
  have h1 := h a ha
  unfold wpOp
  rw [show L.toArray[i]? = some o from by simpa using hi]
  unfold wpList at h1
  simp only at h1 ⊢
  split
  · rename_i hw
    rw [if_pos hw] at h1
    rcases h1 with h1 | ⟨h1, h2⟩
    · refine .inl (Oper.wp_then (K' := AB P L A B m Q f (listed.setIfInBounds i true)) ?_)
      exact h1
    · exact .inr ⟨h1, h2⟩
  · rename_i hw
    rw [if_neg hw] at h1
    exact h1
/-- The one operation that may come up now is carried out. -/
theorem TB_one (i : Nat) {o : Oper} (hr : Region.ready .any L.toArray listed = [i]) (hi : L[i]? = some o)
    (h : TL P L (Exit.then (AB P L A B m Q f (listed.setIfInBounds i true)) Q) [o] n l w) : TB P L A B m Q (f + 1) listed n l w := fun a ha =>
  ⟨fun h0 => (by rw [hr] at h0; cases h0), fun j hj => by
    rw [hr] at hj
    obtain rfl : j = i := by simpa using hj
    exact TB_key hi ha h⟩
/-- One of two operations is carried out. -/
theorem TB_two (i j : Nat) {o o' : Oper} (hr : Region.ready .any L.toArray listed = [i, j]) (hi : L[i]? = some o) (hj : L[j]? = some o')
    (h : TL P L (Exit.then (AB P L A B m Q f (listed.setIfInBounds i true)) Q) [o] n l w) (h' : TL P L (Exit.then (AB P L A B m Q f (listed.setIfInBounds j true)) Q) [o'] n l w) : TB P L A B m Q (f + 1) listed n l w := fun a ha =>
  ⟨fun h0 => (by rw [hr] at h0; cases h0), fun k hk => by
    rw [hr] at hk
    simp only [List.mem_cons, List.not_mem_nil, or_false] at hk
    rcases hk with rfl | rfl
    · exact TB_key hi ha h
    · exact TB_key hj ha h'⟩
end
end Go.Proofs.YtggaghghclomkaaGreat
