/- Bytes and numbers that go from call to call: what reads so, what a call owns, what bears marks; the laws' helpers in these words. No condition. -/
import Derived.Test.YtggaghghclomkaaGreatLib
namespace Go.Proofs.YtggaghghclomkaaGreat
open Go.RowKit
attribute [local irreducible] TL TC TN TX TR TQ Pu Ret

/-- The slice v reads as the bytes s. -/
def RB (w : World) (lo hi : Nat) (v : Value) (s : List UInt8) : Prop := ∃ A c, v = .slice A s.length c ∧ s.length ≤ c ∧ Rd w lo hi 1 A s.length (u8s s)
/-- The slice v is the call's own and holds the bytes s. -/
def OB (w : World) (lo hi : Nat) (v : Value) (s : List UInt8) : Prop := ∃ A c, v = .slice A s.length c ∧ Own w lo hi 5 1 A s.length c (u8s s)
/-- The slice v is the call's own and bears the marks k, k + 1, .. -/
def MB (w : World) (lo hi : Nat) (v : Value) (k : Int) (s : List UInt8) : Prop := OB w lo hi v (mk8 k s.length)
section
variable {w w' : World} {lo hi : Nat} {v : Value} {s : List UInt8} {k : Int} {T : Nat → Prop}
theorem RB.ch (h : RB w lo hi v s) (c : Ch T w w') (hd : ∀ k, lo ≤ k → k < hi → ¬ T k) : RB w' lo hi v s := by
  obtain ⟨A, cc, h1, h2, h3⟩ := h; exact ⟨A, cc, h1, h2, h3.ch c hd⟩
theorem RB.ext (h : RB w lo hi v s) (c : Ext w w') : RB w' lo hi v s := h.ch c (fun _ _ _ t => t)
theorem OB.ch (h : OB w lo hi v s) (c : Ch T w w') (hd : ∀ k, lo ≤ k → k < hi → ¬ T k) : OB w' lo hi v s := by
  obtain ⟨A, cc, h1, h3⟩ := h; exact ⟨A, cc, h1, h3.ch c hd⟩
theorem OB.ext (h : OB w lo hi v s) (c : Ext w w') : OB w' lo hi v s := h.ch c (fun _ _ _ t => t)
theorem MB.ch (h : MB w lo hi v k s) (c : Ch T w w') (hd : ∀ k, lo ≤ k → k < hi → ¬ T k) : MB w' lo hi v k s := OB.ch h c hd
theorem MB.ext (h : MB w lo hi v k s) (c : Ext w w') : MB w' lo hi v k s := OB.ext h c
theorem OB.rd (h : OB w lo hi v s) : RB w lo hi v s := by obtain ⟨A, cc, h1, h3⟩ := h; exact ⟨A, cc, h1, h3.cap.1, h3.rd⟩
theorem OB.hi_le (h : OB w lo hi v s) : hi ≤ w.heap.size := by obtain ⟨A, cc, h1, h3⟩ := h; exact h3.hi_le
end
theorem OB.nil (w : World) (k : Nat) (h : k ≤ w.heap.size) : OB w k w.heap.size (.slice none 0 0) [] := ⟨none, 0, rfl, Own.nil _ _ _ _ _ (Nat.le_refl _)⟩
theorem OB_new {w1 : World} {g : Nat} {s : List UInt8} {w : World} {n : Nat} (hs : s.length = n) (h : Own w1 g (g + 1) 5 1 (some ⟨g, 0, none⟩) n n (u8s s)) (hg : g = w.heap.size) (hz : w1.heap.size = g + 1) : OB w1 w.heap.size w1.heap.size (.slice (some ⟨g, 0, none⟩) n n) s := by
  subst hs; exact ⟨_, _, rfl, h.wide (by omega) (by omega) (Nat.le_refl _)⟩
theorem fillu1 (a : UInt8) : Instr.fill (fun i => some (i * 1, 1)) ((Array.range (1 * 1)).map ((Value.int .u8 0).cells[· % (Value.int .u8 0).cells.size]!)) [(0, B8 a)] = some (u8s [a]).toArray := by kernel_rfl
theorem fillu2 (a b : UInt8) : Instr.fill (fun i => some (i * 1, 1)) ((Array.range (2 * 1)).map ((Value.int .u8 0).cells[· % (Value.int .u8 0).cells.size]!)) [(0, B8 a), (1, B8 b)] = some (u8s [a, b]).toArray := by kernel_rfl
theorem fillu3 (a b c : UInt8) : Instr.fill (fun i => some (i * 1, 1)) ((Array.range (3 * 1)).map ((Value.int .u8 0).cells[· % (Value.int .u8 0).cells.size]!)) [(0, B8 a), (1, B8 b), (2, B8 c)] = some (u8s [a, b, c]).toArray := by kernel_rfl
theorem fillu4 (a b c d : UInt8) : Instr.fill (fun i => some (i * 1, 1)) ((Array.range (4 * 1)).map ((Value.int .u8 0).cells[· % (Value.int .u8 0).cells.size]!)) [(0, B8 a), (1, B8 b), (2, B8 c), (3, B8 d)] = some (u8s [a, b, c, d]).toArray := by kernel_rfl
def pb (x : Int) : UInt8 := UInt8.ofNat (x % 256).toNat
section
variable {P : Program} {L : List Oper} {Q : Exit → Act → World → Prop} {n d : Nat} {l : Env} {w : World} {rest : List Oper} {ty : TypeId} {pos : String} {af : Array Edge} {v v2 : Value} {x y : Operand} {t : TypeId}
/-- Own bytes are appended to. -/
theorem TL_appendB {lo hi lo2 hi2 : Nat} {s s2 : List UInt8} (ht : Tryz.prog.underlying t = some (.slice 5)) (hx : ev l x = some v) (hy : ev l y = some v2) (ho : OB w lo hi v s) (hr : RB w lo2 hi2 v2 s2)
    (hlo : lo ≤ w.heap.size) (hm : s.length + s2.length ≤ 17592186044416) (hn : Nat.blt d n = true)
    (h : ∀ w' v', Ch (Iv lo hi) w w' → OB w' lo w'.heap.size v' (s ++ s2) → TL Tryz.prog L Q rest n ((d, v') :: l) w') :
    TL Tryz.prog L Q (⟨some d, .call { callee := .builtin .append, args := #[x, y], argTypes := #[t, t] }, ty, pos, af, none⟩ :: rest) n l w := by
  obtain ⟨A, c, rfl, ho⟩ := ho
  obtain ⟨A2, c2, rfl, _, hr⟩ := hr
  refine TL_append ht inf5 rfl rfl hx hy ho hr (u8s_one s2) hlo (by omega) (by omega) hn ?_
  intro w1 hi1 A1 c1 hch h1 h2 h3 hown
  have hz := hch.size
  have hh := ho.hi_le
  exact h w1 _ hch ⟨A1, c1, by rw [List.length_append], (hown.wide (Nat.le_refl _) (by omega) (Nat.le_refl _)).cast (by rw [List.length_append]) (by simp [u8s])⟩
end
theorem toB_k {w : World} {lo hi : Nat} {v : Value} {s : List UInt8} (h : RB w lo hi v s) (hl : s.length ≤ 1048576) : Ret Tryz.prog 91 #[v] w fun v' w' => Ext w w' ∧ OB w' w.heap.size w'.heap.size v' s := by
  obtain ⟨A, c, rfl, _, hr⟩ := h
  exact (toByteS_c hr (by omega)).mono fun v' w' ⟨A', c', hv, e, ho⟩ => ⟨e, A', c', hv, ho⟩
theorem eqB_k {w : World} {lo hi lo2 hi2 : Nat} {v v2 : Value} {s : List UInt8} (h : RB w lo hi v s) (h2 : RB w lo2 hi2 v2 s) (hl : s.length ≤ 1099511627776) : Ret Tryz.prog 96 #[v, v2] w fun v' w' => v' = .bool true ∧ Ext w w' := by
  obtain ⟨A, c, rfl, _, hr⟩ := h
  obtain ⟨A2, c2, rfl, _, hr2⟩ := h2
  exact (eqByteS_c hr hr2 hl hl).mono fun v' w' ⟨hv, e⟩ => ⟨by rw [hv]; simp, e⟩
theorem markB_k {w : World} {lo hi : Nat} {v : Value} {s : List UInt8} {k : Int} (h : OB w lo hi v s) (hl : s.length ≤ 1099511627776) (hk0 : 0 ≤ k) (hk1 : k ≤ 1099511627776) :
    Ret Tryz.prog 97 #[v, I k] w fun v' w' => v' = I (k + s.length) ∧ Ch (Iv lo hi) w w' ∧ w'.heap.size = w.heap.size ∧ MB w' lo hi v k s := by
  obtain ⟨A, c, rfl, ho⟩ := h
  exact (markByteS_c ho hl hk0 hk1).mono fun v' w' ⟨hv, e, hz, ho'⟩ => ⟨hv, e, hz, A, c, by rw [mk8_length], by rw [mk8_length]; exact ho'⟩
theorem heldB_k {w : World} {lo hi : Nat} {v : Value} {s : List UInt8} {k : Int} (h : MB w lo hi v k s) (hl : s.length ≤ 1099511627776) (hk0 : 0 ≤ k) (hk1 : k ≤ 1099511627776) :
    Ret Tryz.prog 150 #[v, I k] w fun v' w' => v' = I (k + s.length) ∧ Ext w w' := by
  obtain ⟨A, c, rfl, ho⟩ := h
  rw [mk8_length] at *
  exact heldByteS_c ho.rd hl hk0 hk1
end Go.Proofs.YtggaghghclomkaaGreat
