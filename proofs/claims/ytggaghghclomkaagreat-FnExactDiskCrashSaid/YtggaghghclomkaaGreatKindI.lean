/- Numbers that go from call to call: what reads so, what a call owns, what bears marks; the laws' helpers in these words. No condition. -/
import Derived.Test.YtggaghghclomkaaGreatLibI
namespace Go.Proofs.YtggaghghclomkaaGreat
open Go.RowKit
attribute [local irreducible] TL TC TN TX TR TQ Pu Ret

/-- The slice v reads as the bytes s. -/
def RI (w : World) (lo hi : Nat) (v : Value) (s : List Int) : Prop := ∃ A c, v = .slice A s.length c ∧ s.length ≤ c ∧ Rd w lo hi 1 A s.length (i64s s)
/-- The slice v is the call's own and holds the bytes s. -/
def OI (w : World) (lo hi : Nat) (v : Value) (s : List Int) : Prop := ∃ A c, v = .slice A s.length c ∧ Own w lo hi 3 1 A s.length c (i64s s)
/-- The slice v is the call's own and bears the marks k, k + 1, .. -/
def MI (w : World) (lo hi : Nat) (v : Value) (k : Int) (s : List Int) : Prop := OI w lo hi v (mkI k s.length)
section
variable {w w' : World} {lo hi : Nat} {v : Value} {s : List Int} {k : Int} {T : Nat → Prop}
theorem RI.ch (h : RI w lo hi v s) (c : Ch T w w') (hd : ∀ k, lo ≤ k → k < hi → ¬ T k) : RI w' lo hi v s := by
  obtain ⟨A, cc, h1, h2, h3⟩ := h; exact ⟨A, cc, h1, h2, h3.ch c hd⟩
theorem RI.ext (h : RI w lo hi v s) (c : Ext w w') : RI w' lo hi v s := h.ch c (fun _ _ _ t => t)
theorem OI.ch (h : OI w lo hi v s) (c : Ch T w w') (hd : ∀ k, lo ≤ k → k < hi → ¬ T k) : OI w' lo hi v s := by
  obtain ⟨A, cc, h1, h3⟩ := h; exact ⟨A, cc, h1, h3.ch c hd⟩
theorem OI.ext (h : OI w lo hi v s) (c : Ext w w') : OI w' lo hi v s := h.ch c (fun _ _ _ t => t)
theorem MI.ch (h : MI w lo hi v k s) (c : Ch T w w') (hd : ∀ k, lo ≤ k → k < hi → ¬ T k) : MI w' lo hi v k s := OI.ch h c hd
theorem MI.ext (h : MI w lo hi v k s) (c : Ext w w') : MI w' lo hi v k s := OI.ext h c
theorem OI.rd (h : OI w lo hi v s) : RI w lo hi v s := by obtain ⟨A, cc, h1, h3⟩ := h; exact ⟨A, cc, h1, h3.cap.1, h3.rd⟩
theorem OI.hi_le (h : OI w lo hi v s) : hi ≤ w.heap.size := by obtain ⟨A, cc, h1, h3⟩ := h; exact h3.hi_le
end
theorem OI.nil (w : World) (k : Nat) (h : k ≤ w.heap.size) : OI w k w.heap.size (.slice none 0 0) [] := ⟨none, 0, rfl, Own.nil _ _ _ _ _ (Nat.le_refl _)⟩
theorem OI_new {w1 : World} {g : Nat} {s : List Int} {w : World} {n : Nat} (hs : s.length = n) (h : Own w1 g (g + 1) 3 1 (some ⟨g, 0, none⟩) n n (i64s s)) (hg : g = w.heap.size) (hz : w1.heap.size = g + 1) : OI w1 w.heap.size w1.heap.size (.slice (some ⟨g, 0, none⟩) n n) s := by
  subst hs; exact ⟨_, _, rfl, h.wide (by omega) (by omega) (Nat.le_refl _)⟩
theorem filli1 (a : Int) : Instr.fill (fun i => some (i * 1, 1)) ((Array.range (1 * 1)).map ((Value.int .i64 0).cells[· % (Value.int .i64 0).cells.size]!)) [(0, I a)] = some (i64s [a]).toArray := by kernel_rfl
section
variable {P : Program} {L : List Oper} {Q : Exit → Act → World → Prop} {n d : Nat} {l : Env} {w : World} {rest : List Oper} {ty : TypeId} {pos : String} {af : Array Edge} {v v2 : Value} {x y : Operand} {t : TypeId}
/-- Own bytes are appended to. -/
theorem TL_appendI {lo hi lo2 hi2 : Nat} {s s2 : List Int} (ht : Tryz.prog.underlying t = some (.slice 3)) (hx : ev l x = some v) (hy : ev l y = some v2) (ho : OI w lo hi v s) (hr : RI w lo2 hi2 v2 s2)
    (hlo : lo ≤ w.heap.size) (hm : s.length + s2.length ≤ 17592186044416) (hn : Nat.blt d n = true)
    (h : ∀ w' v', Ch (Iv lo hi) w w' → OI w' lo w'.heap.size v' (s ++ s2) → TL Tryz.prog L Q rest n ((d, v') :: l) w') :
    TL Tryz.prog L Q (⟨some d, .call { callee := .builtin .append, args := #[x, y], argTypes := #[t, t] }, ty, pos, af, none⟩ :: rest) n l w := by
  obtain ⟨A, c, rfl, ho⟩ := ho
  obtain ⟨A2, c2, rfl, _, hr⟩ := hr
  refine TL_append ht inf3 rfl rfl hx hy ho hr (i64s_oneI s2) hlo (by omega) (by omega) hn ?_
  intro w1 hi1 A1 c1 hch h1 h2 h3 hown
  have hz := hch.size
  have hh := ho.hi_le
  exact h w1 _ hch ⟨A1, c1, by rw [List.length_append], (hown.wide (Nat.le_refl _) (by omega) (Nat.le_refl _)).cast (by rw [List.length_append]) (by simp [i64s])⟩
end
theorem toI_k {w : World} {lo hi : Nat} {v : Value} {s : List Int} (h : RI w lo hi v s) (hl : s.length ≤ 1048576) : Ret Tryz.prog 14 #[v] w fun v' w' => Ext w w' ∧ OI w' w.heap.size w'.heap.size v' s := by
  obtain ⟨A, c, rfl, _, hr⟩ := h
  exact (toIntS_c hr (by omega)).mono fun v' w' ⟨A', c', hv, e, ho⟩ => ⟨e, A', c', hv, ho⟩
theorem eqI_k {w : World} {lo hi lo2 hi2 : Nat} {v v2 : Value} {s : List Int} (h : RI w lo hi v s) (h2 : RI w lo2 hi2 v2 s) (hl : s.length ≤ 1099511627776) : Ret Tryz.prog 17 #[v, v2] w fun v' w' => v' = .bool true ∧ Ext w w' := by
  obtain ⟨A, c, rfl, _, hr⟩ := h
  obtain ⟨A2, c2, rfl, _, hr2⟩ := h2
  exact (eqIntS_c hr hr2 hl hl).mono fun v' w' ⟨hv, e⟩ => ⟨by rw [hv]; simp, e⟩
theorem markI_k {w : World} {lo hi : Nat} {v : Value} {s : List Int} {k : Int} (h : OI w lo hi v s) (hl : s.length ≤ 1099511627776) (hk0 : 0 ≤ k) (hk1 : k ≤ 1099511627776) :
    Ret Tryz.prog 19 #[v, I k] w fun v' w' => v' = I (k + s.length) ∧ Ch (Iv lo hi) w w' ∧ w'.heap.size = w.heap.size ∧ MI w' lo hi v k s := by
  obtain ⟨A, c, rfl, ho⟩ := h
  exact (markIntS_c ho hl hk0 hk1).mono fun v' w' ⟨hv, e, hz, ho'⟩ => ⟨hv, e, hz, A, c, by rw [mkI_length], by rw [mkI_length]; exact ho'⟩
end Go.Proofs.YtggaghghclomkaaGreat
