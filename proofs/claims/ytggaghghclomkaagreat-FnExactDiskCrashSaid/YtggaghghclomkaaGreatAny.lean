/- Rules for regions whose order is open and that hold operations which make memory. No condition. -/
import Derived.Test.YtggaghghclomkaaGreatMake
import Derived.OrdersHeld
namespace Go.Proofs.YtggaghghclomkaaGreat
open Go.RowKit

/-- What is listed has come up; what the world must keep is kept. -/
def TA (P : Program) (L : List Oper) (S : World → Prop) (Q : Exit → Act → World → Prop) (f : Nat) (listed : Array Bool) (n : Nat) (l : Env) (w : World) : Prop :=
  ∀ a, Holds n l a → wpAnyH P .any L.toArray Q S f listed a w
section
variable {P : Program} {L : List Oper} {S : World → Prop} {w : World} {Q : Exit → Act → World → Prop} {f n : Nat} {listed : Array Bool} {l : Env} {v : Value}
theorem TC_any {id : Nat} (hm : P.follows .mixedOrders = true) (hf : L.length = f)
    (h : ∀ w', Ext w w' → w'.heap.size = w.heap.size → TA P L (Ext w) Q f (Array.replicate f false) n l w') : TC P Q (.region id L.toArray true) n l w := fun a ha => by
  refine wp_region_held (S := Ext w) hm ?_
  have := h { w with drawn := w.drawn + 1 } ((Ch.refl _ _).drew) rfl a ha
  rw [show L.toArray.size = f from by simpa using hf]
  exact this
/-- The same, for any class of worlds that is kept. -/
theorem TC_anyS {id : Nat} (S : World → Prop) (hm : P.follows .mixedOrders = true) (hf : L.length = f) (hS : S { w with drawn := w.drawn + 1 })
    (h : ∀ w', Ext w w' → w'.heap.size = w.heap.size → S w' → TA P L S Q f (Array.replicate f false) n l w') : TC P Q (.region id L.toArray true) n l w := fun a ha => by
  refine wp_region_held (S := S) hm ?_
  have := h { w with drawn := w.drawn + 1 } ((Ch.refl _ _).drew) rfl hS a ha
  rw [show L.toArray.size = f from by simpa using hf]
  exact this
theorem TA_done (hr : Region.ready .any L.toArray listed = []) (h : TN Q n l w) : TA P L S Q f listed n l w := fun a ha => wpAnyH_done hr (h a ha) _
/-- An operation that gives one value whatever comes before it. -/
theorem Jco (i : Nat) {dd : Nat} {op : Op} {ty : TypeId} {pos : String} {af : Array Edge} (hi : L[i]? = some ⟨some dd, op, ty, pos, af, none⟩) (hs : Region.noSelect L.toArray = true) (hf : Region.free .any L.toArray listed i = true)
    (hr : (Region.ready .any L.toArray listed).contains i = true) (hQ : ∀ c a w, Q (.panic c) (a.put (some dd) v) w → Q (.panic c) a w) (hE : S w)
    (hp : Pu P S n l ⟨some dd, op, ty, pos, af, none⟩ v) (hn : Nat.blt dd n = true) (h : TA P L S Q f (listed.setIfInBounds i true) n ((dd, v) :: l) w) : TA P L S Q (f + 1) listed n l w := fun a ha =>
  wpAnyH_take (oi := ⟨some dd, op, ty, pos, af, none⟩) (v := v) (by simpa using hi) hs hf hr hQ (.inl ⟨by simp [Region.wanted], hp a ha⟩) hE (h _ (ha.put hn v))
theorem Jcp (i : Nat) {dd : Nat} {op : Op} {ty : TypeId} {pos : String} {af : Array Edge} {j dj : Nat} {b : Bool} (hi : L[i]? = some ⟨some dd, op, ty, pos, af, some (j, b)⟩) (hs : Region.noSelect L.toArray = true) (hf : Region.free .any L.toArray listed i = true)
    (hr : (Region.ready .any L.toArray listed).contains i = true) (hQ : ∀ c a w, Q (.panic c) (a.put (some dd) v) w → Q (.panic c) a w) (hE : S w) (hj : nthDst L j = some dj) (hjn : Nat.blt dj n = true) (hv : look l dj = some (.bool b))
    (hp : Pu P S n l ⟨some dd, op, ty, pos, af, none⟩ v) (hn : Nat.blt dd n = true) (h : TA P L S Q f (listed.setIfInBounds i true) n ((dd, v) :: l) w) : TA P L S Q (f + 1) listed n l w := fun a ha =>
  wpAnyH_take (oi := ⟨some dd, op, ty, pos, af, some (j, b)⟩) (v := v) (by simpa using hi) hs hf hr hQ (.inl ⟨by simp [Region.wanted, yielded_of (L := L) ha hj hjn hv], hp a ha⟩) hE (h _ (ha.put hn v))
theorem Jcq (i : Nat) {dd : Nat} {op : Op} {ty : TypeId} {pos : String} {af : Array Edge} {j dj : Nat} {b b' : Bool} (hi : L[i]? = some ⟨some dd, op, ty, pos, af, some (j, b)⟩) (hs : Region.noSelect L.toArray = true) (hf : Region.free .any L.toArray listed i = true)
    (hr : (Region.ready .any L.toArray listed).contains i = true) (hQ : ∀ c a w, Q (.panic c) (a.put (some dd) undef) w → Q (.panic c) a w) (hE : S w) (hj : nthDst L j = some dj) (hjn : Nat.blt dj n = true) (hv : look l dj = some (.bool b')) (hne : (b' == b) = false)
    (hn : Nat.blt dd n = true) (h : TA P L S Q f (listed.setIfInBounds i true) n ((dd, undef) :: l) w) : TA P L S Q (f + 1) listed n l w := fun a ha =>
  wpAnyH_take (oi := ⟨some dd, op, ty, pos, af, some (j, b)⟩) (v := undef) (by simpa using hi) hs hf hr hQ (.inr ⟨by simp [Region.wanted, yielded_of (L := L) ha hj hjn hv]; simpa using hne, rfl⟩) hE (h _ (ha.put hn undef))
theorem TA_pass_undef (i : Nat) {dd : Nat} {op : Op} {ty : TypeId} {pos : String} {af : Array Edge} {j dj : Nat} {b : Bool} (hi : L[i]? = some ⟨some dd, op, ty, pos, af, some (j, b)⟩) (hs : Region.noSelect L.toArray = true) (hf : Region.free .any L.toArray listed i = true)
    (hr : (Region.ready .any L.toArray listed).contains i = true) (hQ : ∀ c a w, Q (.panic c) (a.put (some dd) undef) w → Q (.panic c) a w) (hE : S w) (hj : nthDst L j = some dj) (hjn : Nat.blt dj n = true) (hv : look l dj = some undef)
    (hn : Nat.blt dd n = true) (h : TA P L S Q f (listed.setIfInBounds i true) n ((dd, undef) :: l) w) : TA P L S Q (f + 1) listed n l w := fun a ha =>
  wpAnyH_take (oi := ⟨some dd, op, ty, pos, af, some (j, b)⟩) (v := undef) (by simpa using hi) hs hf hr hQ (.inr ⟨by have := yielded_undef (L := L) (b := b) ha hj hjn hv; simpa [Region.wanted] using this, rfl⟩) hE (h _ (ha.put hn undef))
theorem Oper.wp_then {o : Oper} {a : Act} {K K' : Act → World → Prop} (h : o.wp P a w K (Exit.then K' Q)) : o.wp P a w K Q := by
  unfold Oper.wp at *
  generalize (execOp a.eval o).run P w = r at *
  cases r with
  | ok m w' =>
    cases m <;> simp only [Oper.upon] at h ⊢ <;>
      first
        | exact h
        | exact Calls.mono h (fun e w'' he => by cases e <;> exact he)
  | halt x w' => cases x <;> simp only [Oper.upon] at h ⊢ <;> exact h
/-- What follows an operation that is carried out inside. -/
def AK (P : Program) (L : List Oper) (S : World → Prop) (Q : Exit → Act → World → Prop) (f : Nat) (listed : Array Bool) : Act → World → Prop := fun a' w' => S w' ∧ wpAnyH P .any L.toArray Q S f listed a' w'
theorem TN_any (e : S w) (h : TA P L S Q f listed n l w) : TN (Exit.then (AK P L S Q f listed) Q) n l w := fun a ha => ⟨e, h a ha⟩
/-- The one operation that may come up now is carried out. -/
theorem TA_one (i : Nat) {o : Oper} (hr : Region.ready .any L.toArray listed = [i]) (hi : L[i]? = some o)
    (h : TL P L (Exit.then (AK P L S Q f (listed.setIfInBounds i true)) Q) [o] n l w) : TA P L S Q (f + 1) listed n l w := fun a ha => by
  refine wpAnyH_all hr (by simp) fun j hj => ?_
  obtain rfl : j = i := by simpa using hj
  have h1 := h a ha
  unfold wpOp
  rw [show L.toArray[j]? = some o from by simpa using hi]
  unfold wpList at h1
  simp only at h1 ⊢
  split
  · rename_i hw
    rw [if_pos hw] at h1
    rcases h1 with h1 | ⟨h1, h2⟩
    · refine .inl (Oper.wp_then (K' := AK P L S Q f (listed.setIfInBounds j true)) ?_)
      exact h1
    · exact .inr ⟨h1, h2⟩
  · rename_i hw
    rw [if_neg hw] at h1
    exact h1
/-- One of two operations is carried out. -/
theorem TA_two (i j : Nat) {o o' : Oper} (hr : Region.ready .any L.toArray listed = [i, j]) (hi : L[i]? = some o) (hj : L[j]? = some o')
    (h : TL P L (Exit.then (AK P L S Q f (listed.setIfInBounds i true)) Q) [o] n l w) (h' : TL P L (Exit.then (AK P L S Q f (listed.setIfInBounds j true)) Q) [o'] n l w) : TA P L S Q (f + 1) listed n l w := fun a ha => by
  refine wpAnyH_all hr (by simp) fun k hk => ?_
  have key : ∀ (i : Nat) (o : Oper), L[i]? = some o → TL P L (Exit.then (AK P L S Q f (listed.setIfInBounds i true)) Q) [o] n l w → wpOp P L.toArray Q i (AK P L S Q f (listed.setIfInBounds i true)) a w := by
    intro i o hi h
    have h1 := h a ha
    unfold wpOp
    rw [show L.toArray[i]? = some o from by simpa using hi]
    unfold wpList at h1
    simp only at h1 ⊢
    split
    · rename_i hw
      rw [if_pos hw] at h1
      rcases h1 with h1 | ⟨h1, h2⟩
      · refine .inl (Oper.wp_then (K' := AK P L S Q f (listed.setIfInBounds i true)) ?_)
        exact h1
      · exact .inr ⟨h1, h2⟩
    · rename_i hw
      rw [if_neg hw] at h1
      exact h1
  simp only [List.mem_cons, List.not_mem_nil, or_false] at hk
  rcases hk with rfl | rfl
  · exact key _ _ hi h
  · exact key _ _ hj h'
end
end Go.Proofs.YtggaghghclomkaaGreat
